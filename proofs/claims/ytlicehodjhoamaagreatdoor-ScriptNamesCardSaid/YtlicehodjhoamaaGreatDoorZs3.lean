/-
  Part 3: Js Jj JX JK JL JY JZ JS JN JP JV JW JT JO J1 J4 Ty Yb Yc J3.
-/
import Derived.Test.YtlicehodjhoamaaGreatDoorZs2
import Derived.LoopN
import Derived.RangeFuncIn
import Derived.RangeFuncRecord
import Derived.OrdersIn
import Derived.TacticsIn
import Derived.Recover
import Derived.Scope
import Derived.Maps.RangeRun
import Derived.Test.YtlicehodjhoamaaGreatDoorProg
import Derived.Test.YtlicehodjhoamaaGreatDoorZs1
import Derived.Lib.Builder
import Derived.Lib.UnsafeStr
import Derived.Laws.Externs
import Derived.Below
namespace Go.Proofs.YtlicehodjhoamaaGreatDoor.Ev
open Go
set_option linter.unusedVariables false
set_option linter.unusedSimpArgs false
section
variable {hb : Nat} {P : Program} {G : World} {E : FunE} {ops : Array Oper} {ms : List Nat} {n : Nat} {F : Fm} {Q : Exit → Act → World → Prop}
variable {done : Nat} {s : Fr AV} {m : Mem} {listed : Array Bool} {ρ : Slots} {L : Blocks} {σ : Sg} {sR : Fr AV} {z : Nat → Option AO} {gid : Nat → Option Nat}
theorem sameE_ok {i : Nat} {o : Oper} (ho : ops[i]? = some o) (h : sameE P ops s m i = true) : guardE ops s o.guard = .skip ∨ (guardE ops s o.guard = .go ∧ ∃ v d, qAll P s m o.op = some v ∧ o.dst = some d ∧ s.get d = some v) := by
  unfold sameE at h
  rw [nth_eq, Array.getElem?_toList, ho] at h
  dsimp only at h
  cases hg : guardE ops s o.guard with
  | bad => rw [hg] at h; cases h
  | skip => exact Or.inl rfl
  | go =>
    rw [hg] at h
    dsimp only at h
    right
    refine ⟨rfl, ?_⟩
    cases hq : qAll P s m o.op with
    | none => rw [hq] at h; cases h
    | some v =>
      rw [hq] at h
      dsimp only at h
      cases hd : o.dst with
      | none => rw [hd] at h; cases h
      | some d =>
        rw [hd] at h
        dsimp only at h
        cases hs : s.get d with
        | none => rw [hs] at h; cases h
        | some u =>
          rw [hs] at h
          exact ⟨v, d, rfl, rfl, by rw [hs, beqV_eq u v h]⟩
/-- One that writes or calls comes up. -/
theorem Inv.hard (I : Inv hb P ops ms n F done s m listed ρ L σ sR z gid) (hE : FunOk P E) (hW : WellW hb ops ms) (hM : MasksOk ops ms) (hl : ms.length = ops.size) {i : Nat} {o : Oper} (ho : ops[i]? = some o) (hn : done.testBit i = false)
    (hmask : ∀ j, (lookN ms i).testBit j = true → done.testBit j = true) (ha : ∀ e ∈ o.after, Region.binds .any e = true → listed.getD e.on false = true) {chk : List Nat} {s1 : Fr AV} {m1 : Mem} (e : stepE P E ops n o s m = some (s1, m1))
    (hchk : ∀ q, q < ops.size → again hb ops.toList (lookN ms i) done q = true → q ∈ chk) (hsame : ∀ q ∈ chk, sameE P ops s1 m1 q = true) :
    StepD P G ops n ρ L i (fun _ => True) fun ρ' L' => ∃ σ' sR', σ.le σ' ∧ Inv hb P ops ms n F (setM done i) s1 m1 (listed.setIfInBounds i true) ρ' L' σ' sR' z gid := by
  have hlt := (Array.getElem?_eq_some_iff.1 ho).1
  obtain ⟨hag, hgd⟩ := I.looks hW hM hl ho ha
  have hun : listed.getD i false = false := by
    cases h : listed.getD i false with
    | false => rfl
    | true => rw [I.sub i h] at hn; cases hn
  have hbit : ∀ j, (setM done i).testBit j = true → j ≠ i → done.testBit j = true := fun j hj hne => by
    rw [setM_bit] at hj
    simpa [Ne.symm hne] using hj
  have hne : ∀ j, j ≠ i → (listed.setIfInBounds i true).getD j false = listed.getD j false := fun j hj => by rw [getD_set (by rw [I.size]; exact hlt), if_neg hj]
  have heq : (listed.setIfInBounds i true).getD i false = true := by rw [getD_set (by rw [I.size]; exact hlt), if_pos rfl]
  have bitL : ∀ j, (lookN ms i).testBit j = true → listed.getD j false = true := fun j hj => hM listed I.closed i j hj (by omega) fun o' ho' => by rw [ho] at ho'; cases ho'; exact ha
  -- slots behind it
  have main : ∀ (σ' : Sg) (sR' : Fr AV) (ρ' : Slots) (L' : Blocks), σ.le σ' → SlR σ' sR' ρ' → MemR σ' m1 ⟨F.b, z, F.d⟩ L' → (∀ d', o.dst ≠ some d' → s1.get d' = s.get d' ∧ sR'.get d' = sR.get d') → (∀ d', o.dst = some d' → sR'.get d' = s1.get d') → (m1 = m ∨ guardE ops s o.guard = .go) →
      Inv hb P ops ms n F (setM done i) s1 m1 (listed.setIfInBounds i true) ρ' L' σ' sR' z gid := fun σ' sR' ρ' L' hle hs hm hoth hown hgo => by
    refine ⟨hs, hm, I.outer, closed_set I.closed ho ha, by simp [I.size], fun j hj => ?_, fun j hlt' hj hjh => ?_, fun d' hd' => ?_, fun j oj hj hoj hju => ?_, I.inj, I.gz, fun j hj k hk => ?_⟩
    · by_cases c : j = i
      · rw [setM_bit, c]; simp
      · rw [hne j c] at hj; rw [setM_bit, I.sub j hj]; rfl
    · by_cases c : j = i
      · rw [c]; exact heq
      · rw [hne j c]; exact I.hards j hlt' (hbit j hj c) hjh
    · by_cases c : o.dst = some d'
      · exact hown d' c
      · obtain ⟨q1, q2⟩ := hoth d' c
        rw [q1, q2]
        refine I.agree d' fun j oj hj hoj hju => hd' j oj (by rw [setM_bit, hj]; rfl) hoj ?_
        have c' : j ≠ i := fun c' => by rw [c', hn] at hj; cases hj
        rw [hne j c']
        exact hju
    · have c : j ≠ i := fun c => by rw [c, heq] at hju; cases hju
      rw [hne j c] at hju
      have hjd := hbit j hj c
      have hjb : (lookN ms i).testBit j = false := by
        cases h : (lookN ms i).testBit j with
        | false => rfl
        | true => rw [bitL j h] at hju; cases hju
      obtain ⟨dj, q1, q2, q3⟩ := I.redo j oj hjd hoj hju
      have nodep : (lookN ms j).testBit i = true → False := fun h => by rw [I.dmask j hjd i h] at hn; cases hn
      have hgj : guardE ops s1 oj.guard = guardE ops s oj.guard := guardE_congr fun g d' hg hs => (hoth d' fun hd => nodep (hW.gate i j o oj d' g ho hoj hd hg hs)).1
      have hsj : s1.get dj = s.get dj := (hoth dj fun hd => c (hW.once j i oj o dj hoj ho q1 hd)).1
      have hagj : Agree s1 s oj.op := fun x hx => opd_congr fun t ht => by
        subst ht
        refine (hoth t fun hd => ?_).1
        rcases hW.look i j o oj t ho hoj hd hx with h | ⟨h, _⟩
        · exact nodep h
        · rw [hjb] at h; cases h
      refine ⟨dj, q1, q2, ?_⟩
      rw [hgj, hsj, softA_congr hagj, qAll_congr hagj]
      rcases q3 with q3 | ⟨q3, ⟨u, q4, q5⟩ | q4⟩
      · exact Or.inl q3
      · refine Or.inr ⟨q3, Or.inl ?_⟩
        cases hrd : readsOp oj.op with
        | false => exact ⟨u, by rw [← qAll_pure hrd (m := m)]; exact q4, q5⟩
        | true =>
          have hag2 : again hb ops.toList (lookN ms i) done j = true := by
            unfold again
            have hnh : hb.testBit j = false := by
              cases h : hb.testBit j with
              | false => rfl
              | true => rw [I.hards j (Array.getElem?_eq_some_iff.1 hoj).1 hjd h] at hju; cases hju
            simp only [andB_eq, notB_eq, bitA_eq, hjd, hnh, readsI_of hoj, hrd, hjb]
            rfl
          have hsm := sameE_ok hoj (hsame j (hchk j (Array.getElem?_eq_some_iff.1 hoj).1 hag2))
          rw [hgj, q3] at hsm
          rcases hsm with hsm | ⟨_, v, d', k1, k2, k3⟩
          · cases hsm
          · rw [q1] at k2
            cases k2
            rw [hsj] at k3
            exact ⟨v, by rw [← qAll_congr hagj]; exact k1, k3⟩
      · exact Or.inr ⟨q3, Or.inr q4⟩
    · by_cases c : j = i
      · subst c; rw [setM_bit, hmask k hk]; rfl
      · rw [setM_bit, I.dmask j (hbit j hj c) k hk]; rfl
  cases hg : guardE ops s o.guard with
  | bad => unfold stepE at e; rw [hg] at e; cases e
  | skip =>
    obtain ⟨d, q1, q2, rfl, rfl⟩ := stepE_skip hg e
    refine ⟨o, ho, fun d' h => by rw [q1] at h; cases h; exact q2, false, wants_skip I.slots (by rw [hgd]; exact hg), Or.inr ⟨rfl, trivial, ?_⟩⟩
    rw [q1]
    refine ⟨σ, .put d (.tup []) sR, σ.le_refl, main σ _ _ L σ.le_refl (I.slots.put undef_den) I.mem (fun d' h => ?_) (fun d' h => ?_) (Or.inl rfl)⟩
    · have c : d' ≠ d := fun c => h (c ▸ q1)
      exact ⟨Fr.get_ne c, Fr.get_ne c⟩
    · rw [q1] at h
      cases h
      rw [Fr.get_eq, Fr.get_eq]
  | go =>
    obtain ⟨v, q1, q2⟩ := stepE_go hg e
    rw [← opS_congr hag] at q1
    have hd := opS_den (G := G) (ty := o.type) hE I.slots I.mem q1
    rcases q2 with ⟨d, q2, q3, rfl⟩ | ⟨q2, q3, rfl⟩
    · refine ⟨o, ho, fun d' h => by rw [q2] at h; cases h; exact q3, true, wants_go I.slots (by rw [hgd]; exact hg), Or.inl ⟨rfl, _, hd, ?_⟩⟩
      rintro u M ⟨σ', k1, k2, k3⟩
      refine ⟨trivial, ?_⟩
      rw [q2]
      refine ⟨σ', .put d v sR, k1, main σ' _ _ M k1 ((I.slots.mono k1).put k2) k3 (fun d' h => ?_) (fun d' h => ?_) (Or.inr hg)⟩
      · have c : d' ≠ d := fun c => h (c ▸ q2)
        exact ⟨Fr.get_ne c, Fr.get_ne c⟩
      · rw [q2] at h
        cases h
        rw [Fr.get_eq, Fr.get_eq]
    · refine ⟨o, ho, fun d' h => (by rw [q2] at h; cases h), true, wants_go I.slots (by rw [hgd]; exact hg), Or.inl ⟨rfl, _, hd, ?_⟩⟩
      rintro u M ⟨σ', k1, k2, k3⟩
      refine ⟨trivial, ?_⟩
      rw [q2]
      exact ⟨σ', sR, k1, main σ' _ _ M k1 (I.slots.mono k1) k3 (fun d' h => ⟨rfl, rfl⟩) (fun d' h => by rw [q2] at h; cases h) (Or.inr hg)⟩
/-- The row goes on as far as nothing writes or calls. -/
theorem Inv.run (hW : WellW hb ops ms) : ∀ (r : List PS) {done hm : Nat} {s : Fr AV} {m : Mem} {z : Nat → Option AO} {gid : Nat → Option Nat}, okP hb ops.toList ms ops.size r done hm = true → ∀ {fin : Fr AV × Mem}, runP P E ops n r s m = some fin → Inv hb P ops ms n F done s m listed ρ L σ sR z gid →
    ∃ r' done' s' m' z' gid', okP hb ops.toList ms ops.size r' done' hm = true ∧ runP P E ops n r' s' m' = some fin ∧ Inv hb P ops ms n F done' s' m' listed ρ L σ sR z' gid' ∧ ∀ p q, r' = p :: q → hb.testBit p.i = true
  | [], done, hm, s, m, z, gid, hp, fin, hr, I => ⟨[], done, s, m, z, gid, hp, hr, I, fun p q h => by cases h⟩
  | p :: r, done, hm, s, m, z, gid, hp, fin, hr, I => by
    obtain ⟨h1, h2, h3, h4, h5⟩ := okP_cons hp
    rcases h5 with ⟨q1, ⟨o, d, q2, q3⟩, q4⟩ | ⟨q1, _⟩
    · obtain ⟨o', k1, hr'⟩ := ob_some (show ob (nth ops.toList p.i) (fun o => ob (stepE P E ops n o s m) fun r' => bo (allB (sameE P ops r'.1 r'.2) p.chk) (runP P E ops n r r'.1 r'.2)) = some fin from hr)
      rw [q2] at k1
      cases k1
      obtain ⟨⟨s1, m1⟩, k2, hr'⟩ := ob_some hr'
      obtain ⟨_, hr'⟩ := bo_some hr'
      have ho : ops[p.i]? = some o := by rw [← Array.getElem?_toList, ← nth_eq]; exact q2
      obtain ⟨z', gid', I'⟩ := I.adv hW ho q3 q1 h1 h3 k2
      exact Inv.run hW r q4 hr' I'
    · exact ⟨p :: r, done, s, m, z, gid, hp, hr, I, fun p' q h => by cases h; exact q1⟩
theorem all_listed (hW : WellW hb ops ms) (hs : listed.size = ops.size) (hr : Region.ready .any ops listed = []) : ∀ i, i < ops.size → listed.getD i false = true := by
  intro i
  induction i using Nat.strongRecOn with
  | _ i ih =>
    intro hi
    cases h : listed.getD i false with
    | true => rfl
    | false =>
      have ho : ops[i]? = some ops[i] := Array.getElem?_eq_getElem hi
      have : i ∈ Region.ready .any ops listed := mem_ready.2 ⟨by
        rw [Array.getD_eq_getD_getElem?] at h ⊢
        rw [Array.getElem?_eq_getElem (by omega)] at h ⊢
        simpa using h, ops[i], ho, fun e he hb => ih e.on (hW.back i _ ho e he hb) (by have := hW.back i _ ho e he hb; omega)⟩
      rw [hr] at this
      cases this
theorem draw_run (hE : FunOk P E) (hW : WellW hb ops ms) (hM : MasksOk ops ms) (hl : ms.length = ops.size) {fin : Fr AV × Mem} {σ0 : Sg} (hQ : ∀ (σ' : Sg) (ρ' : Slots) (L' : Blocks), σ0.le σ' → SlR σ' fin.1 ρ' → MemR σ' fin.2 F L' → TQ G n ρ' L' .normal Q) :
    ∀ (f : Nat) {r : List PS} {done hm : Nat} {s : Fr AV} {m : Mem} {listed : Array Bool} {ρ : Slots} {L : Blocks} {σ : Sg} {sR : Fr AV} {z : Nat → Option AO} {gid : Nat → Option Nat}, unl listed ≤ f → σ0.le σ → okP hb ops.toList ms ops.size r done hm = true → runP P E ops n r s m = some fin → Inv hb P ops ms n F done s m listed ρ L σ sR z gid →
    TE P G ops n (fun _ _ _ => True) Q f listed ρ L := by
  -- all has come up
  have fin_ok : ∀ {r : List PS} {done hm : Nat} {s : Fr AV} {m : Mem} {listed : Array Bool} {ρ : Slots} {L : Blocks} {σ : Sg} {sR : Fr AV} {z : Nat → Option AO} {gid : Nat → Option Nat}, σ0.le σ → okP hb ops.toList ms ops.size r done hm = true → runP P E ops n r s m = some fin → Inv hb P ops ms n F done s m listed ρ L σ sR z gid → (∀ i, i < ops.size → listed.getD i false = true) → TQ G n ρ L .normal Q := by
    intro r done hm s m listed ρ L σ sR z gid hle hp hr I hall
    cases r with
    | cons p r =>
      obtain ⟨h1, h2, _⟩ := okP_cons hp
      rw [I.sub p.i (hall p.i h2)] at h1
      cases h1
    | nil =>
      have hr : some (s, m) = some fin := hr
      cases hr
      refine hQ σ ρ L hle ⟨fun d v h => I.slots.get d v ?_, I.slots.glb⟩ (I.mem.ghosts I.outer)
      rw [← h]
      refine I.agree d fun i o _ ho hun => ?_
      rw [hall i (Array.getElem?_eq_some_iff.1 ho).1] at hun
      cases hun
  intro f
  induction f with
  | zero =>
    intro r done hm s m listed ρ L σ sR z gid hu hle hp hr I
    have hall : ∀ i, i < ops.size → listed.getD i false = true := fun i hi => unl_zero (Nat.le_zero.1 hu) i (by rw [I.size]; exact hi)
    refine ⟨?_, fin_ok hle hp hr I hall⟩
    cases h : Region.ready .any ops listed with
    | nil => rfl
    | cons i l =>
      have hi : i ∈ Region.ready .any ops listed := by rw [h]; exact List.mem_cons_self ..
      obtain ⟨h1, o, ho, _⟩ := mem_ready.1 hi
      have hlt := (Array.getElem?_eq_some_iff.1 ho).1
      have h2 := hall i hlt
      rw [Array.getD_eq_getD_getElem?, Array.getElem?_eq_getElem (by rw [I.size]; exact hlt)] at h1 h2
      simp only [Option.getD_some] at h1 h2
      rw [h1] at h2
      cases h2
  | succ f ih =>
    intro r done hm s m listed ρ L σ sR z gid hu hle hp hr I
    refine ⟨fun h0 => fin_ok hle hp hr I (all_listed hW I.size h0), fun i hi => ?_⟩
    obtain ⟨hun0, o, ho, ha⟩ := mem_ready.1 hi
    have hlt := (Array.getElem?_eq_some_iff.1 ho).1
    have hun : listed.getD i false = false := by
      rw [Array.getD_eq_getD_getElem?, Array.getElem?_eq_getElem (by rw [I.size]; exact hlt)] at hun0 ⊢
      exact hun0
    have hu' : unl (listed.setIfInBounds i true) ≤ f := by
      have := unl_set (by rw [I.size]; exact hlt) hun
      omega
    obtain ⟨r, done, s, m, z, gid, hp, hr, I, hhd⟩ := I.run hW r hp hr
    cases hdn : done.testBit i with
    | true =>
      obtain ⟨o', h1, h2, b, h3, h4⟩ := I.fire (G := G) hW hM hl ho hun hdn ha
      refine ⟨o', h1, h2, b, h3, ?_⟩
      rcases h4 with ⟨rfl, Φ, k1, k2⟩ | ⟨rfl, _, σ', sR', z', gid', k1, I'⟩
      · refine Or.inl ⟨rfl, Φ, k1, fun v L' hv => ⟨trivial, ?_⟩⟩
        obtain ⟨_, σ', sR', z', gid', k3, I'⟩ := k2 v L' hv
        exact ih hu' (Sg.le_trans hle k3) hp hr I'
      · exact Or.inr ⟨rfl, trivial, ih hu' (Sg.le_trans hle k1) hp hr I'⟩
    | false =>
      cases r with
      | nil => rw [okP_nil hp i hlt] at hdn; cases hdn
      | cons p r =>
        have hph := hhd p r rfl
        obtain ⟨h1, h2, h3, h4, h5⟩ := okP_cons hp
        rcases h5 with ⟨q1, _⟩ | ⟨_, hchk, hp'⟩
        · rw [hph] at q1; cases q1
        have hip : i = p.i := by
          by_cases c : i = p.i
          · exact c
          · exfalso
            have hd' : (setM done p.i).testBit i = false := by rw [setM_bit, hdn]; simpa using Ne.symm c
            have hb := okP_rest hp' i hlt hd' p.i (by rw [setM_bit]; simp)
            have := I.sub p.i (hM listed I.closed i p.i hb (by omega) fun o' ho' => by rw [ho] at ho'; cases ho'; exact ha)
            rw [this] at h1
            cases h1
        subst hip
        obtain ⟨o', k1, hr'⟩ := ob_some (show ob (nth ops.toList p.i) (fun o => ob (stepE P E ops n o s m) fun r' => bo (allB (sameE P ops r'.1 r'.2) p.chk) (runP P E ops n r r'.1 r'.2)) = some fin from hr)
        rw [nth_eq, Array.getElem?_toList, ho] at k1
        cases k1
        obtain ⟨⟨s1, m1⟩, k2, hr'⟩ := ob_some hr'
        obtain ⟨ksame, hr'⟩ := bo_some hr'
        obtain ⟨o', g1, g2, b, g3, g4⟩ := I.hard (G := G) hE hW hM hl ho h1 h3 ha k2 hchk (fun q hq => allB_ok ksame q hq)
        refine ⟨o', g1, g2, b, g3, ?_⟩
        rcases g4 with ⟨rfl, Φ, k1, k2⟩ | ⟨rfl, _, σ', sR', k1, I'⟩
        · refine Or.inl ⟨rfl, Φ, k1, fun v L' hv => ⟨trivial, ?_⟩⟩
          obtain ⟨_, σ', sR', k3, I'⟩ := k2 v L' hv
          exact ih hu' (Sg.le_trans hle k3) hp' hr' I'
        · exact Or.inr ⟨rfl, trivial, ih hu' (Sg.le_trans hle k1) hp' hr' I'⟩
theorem draw_te (hE : FunOk P E) {s s' : Fr AV} {m m' : Mem} {σ : Sg} {ρ : Slots} {L : Blocks} (e : drawE P E ops n s m = some (s', m')) (hs : SlR σ s ρ) (hm : MemR σ m F L)
    (hQ : ∀ (σ' : Sg) (ρ' : Slots) (L' : Blocks), σ.le σ' → SlR σ' s' ρ' → MemR σ' m' F L' → TQ G n ρ' L' .normal Q) : TE P G ops n (fun _ _ _ => True) Q ops.size (Array.replicate ops.size false) ρ L := by
  obtain ⟨p, hp, e⟩ := ob_some e
  unfold planE at hp
  obtain ⟨hok, hp⟩ := bo_some hp
  rw [lenN_eq] at hok hp
  cases hp
  rw [andB_eq, Bool.and_eq_true] at hok
  simp only [Array.length_toList] at hok
  obtain ⟨hM, hl⟩ := masks_ok ops
  have hz : ∀ j, (Nat.testBit 0 j) = false := Nat.zero_testBit
  refine (draw_run hE (okW_ok hok.1) hM hl (fin := (s', m')) (σ0 := σ) hQ ops.size (r := _) (done := 0) (hm := 0) (s := s) (m := m) (sR := s) (z := F.z) (gid := fun _ => none) ?_ σ.le_refl hok.2 (by simpa using e) ⟨hs, hm, fun _ _ h => h, ?_, by simp, fun i h => ?_, fun i _ h => ?_, fun d _ => rfl, fun i o h => ?_, fun i j a h => ?_, fun i a h => ?_, fun i h => ?_⟩)
  · unfold unl
    rw [Array.toList_replicate]
    exact Nat.le_trans List.count_le_length (by simp)
  · intro j o ho h
    rw [Array.getD_eq_getD_getElem?] at h
    simp [Array.getElem?_replicate] at h
    split at h <;> simp at h
  · rw [Array.getD_eq_getD_getElem?] at h
    simp [Array.getElem?_replicate] at h
    split at h <;> simp at h
  · rw [hz] at h; cases h
  · rw [hz] at h; cases h
  · cases h
  · cases h
  · rw [hz] at h; cases h
theorem draw_ok (hmix : P.follows .mixedOrders = true) (hE : FunOk P E) {id : Nat} {s s' : Fr AV} {m m' : Mem} {σ : Sg} {ρ : Slots} {L : Blocks} (e : drawE P E ops n s m = some (s', m')) (hs : SlR σ s ρ) (hm : MemR σ m F L)
    (hQ : ∀ (σ' : Sg) (ρ' : Slots) (L' : Blocks), σ.le σ' → SlR σ' s' ρ' → MemR σ' m' F L' → TQ G n ρ' L' .normal Q) : T P G n ρ L (.region id ops true) Q := T_drawE hmix (draw_te hE e hs hm hQ)
end
end Go.Proofs.YtlicehodjhoamaaGreatDoor.Ev
namespace Go.Proofs.YtlicehodjhoamaaGreatDoor.Ev
open Go
set_option linter.unusedVariables false
set_option linter.unusedSimpArgs false
structure R3 where
  x : Exit
  s : Fr AV
  m : Mem
/-- So many rounds at most. -/
noncomputable def loopE (body : Fr AV → Mem → Option R3) (k : Nat) : Fr AV → Mem → Option R3 := Nat.rec (motive := fun _ => Fr AV → Mem → Option R3) (fun _ _ => none)
  (fun _ ih s m => ob (body s m) fun r => Exit.rec (ih r.s r.m) (fun _ => some r) (fun _ => some r) (some r) (fun _ => some r) (some r) r.x) k
noncomputable def codeE (P : Program) (E : FunE) (n k : Nat) (c : Code) : Fr AV → Mem → Option R3 := Code.rec (motive := fun _ => Fr AV → Mem → Option R3)
  (fun s m => some ⟨.normal, s, m⟩)
  (fun _ ops draw s m => Fr.flushK s fun thr t => bo (Nat.ble thr 1000000) (ob (Bool.rec (listE P E ops n ops.toList (.base thr t) m) (drawE P E ops n (.base thr t) m) draw) fun r => some ⟨.normal, r.1, r.2⟩))
  (fun _ _ ia ib s m => ob (ia s m) fun r => Exit.rec (ib r.s r.m) (fun _ => some r) (fun _ => some r) (some r) (fun _ => some r) (some r) r.x)
  (fun c _ _ it ie s m => ob (opd s c) fun v => v.asBool fun b => Bool.rec (ie s m) (it s m) b)
  (fun id _ ih s m => ob (ih s m) fun r => Exit.rec (some r) (fun j => Bool.rec (some r) (some ⟨.normal, r.s, r.m⟩) (Nat.beq j id)) (fun _ => some r) (some r) (fun _ => some r) (some r) r.x)
  (fun _ ih s m => loopE ih k s m)
  (fun _ _ _ _ _ _ _ _ => none)
  (fun id s m => some ⟨.exit id, s, m⟩)
  (fun _ ih s m => ob (ih s m) fun r => Exit.rec (some r) (fun _ => some r) (fun _ => none) (some r) (fun _ => some r) (some r) r.x)
  (fun _ s m => some ⟨.normal, s, m⟩)
  (fun l s m => some ⟨.goto l, s, m⟩)
  (fun s m => some ⟨.ret, s, m⟩)
  (fun _ _ _ => none) c
section
variable {P : Program} {G : World} {F : Fm} {E : FunE} {n k : Nat}
theorem TQ_thenX {K : Act → World → Prop} {Q : Exit → Act → World → Prop} {ρ : Slots} {L : Blocks} {x : Exit} (hx : x ≠ .normal) (h : TQ G n ρ L x Q) : TQ G n ρ L x (Exit.then K Q) := by
  cases x with
  | normal => exact absurd rfl hx
  | _ => exact ⟨fun a w he hw => h.out a w he hw⟩
theorem TQ_blockX {Q : Exit → Act → World → Prop} {ρ : Slots} {L : Blocks} {x : Exit} {id : Nat} (hx : ∀ j, x = .exit j → j ≠ id) (h : TQ G n ρ L x Q) : TQ G n ρ L x (Exit.inBlock id Q) := by
  cases x with
  | exit j => exact TQ_block_past (by simpa using hx j rfl) h
  | _ => exact ⟨fun a w he hw => h.out a w he hw⟩
theorem T_loopK {c : Code} {Q : Exit → Act → World → Prop} {ρ : Slots} {L : Blocks} (k : Nat) (h : ∀ a w, Env n ρ a → Heap G w L → Code.rounds P c Q k a w) : T P G n ρ L (.loop c) Q := ⟨fun a w he hw => wp_loop_rounds k (h a w he hw)⟩
theorem T_scopeS {c : Code} {Q : Exit → Act → World → Prop} {ρ : Slots} {L : Blocks} (h : T P G n ρ L c (Exit.noGoto Q)) : T P G n ρ L (.scope c) Q := ⟨fun a w he hw => wp_scope_straight (h.out a w he hw)⟩
/-- What a piece of code does, as the evaluator says. -/
def CodeOk (P : Program) (G : World) (F : Fm) (n : Nat) (ev : Fr AV → Mem → Option R3) (c : Code) : Prop := ∀ {s : Fr AV} {m : Mem} {r : R3} {σ : Sg} {ρ : Slots} {L : Blocks} {Q : Exit → Act → World → Prop}, ev s m = some r → SlR σ s ρ → MemR σ m F L →
    (∀ (σ' : Sg) (ρ' : Slots) (L' : Blocks), σ.le σ' → SlR σ' r.s ρ' → MemR σ' r.m F L' → TQ G n ρ' L' r.x Q) → T P G n ρ L c Q
theorem loop_ok {body : Fr AV → Mem → Option R3} {c : Code} (h : CodeOk P G F n body c) : ∀ (k : Nat) {s : Fr AV} {m : Mem} {r : R3} {σ : Sg} {ρ : Slots} {L : Blocks} {Q : Exit → Act → World → Prop}, loopE body k s m = some r → SlR σ s ρ → MemR σ m F L →
    (∀ (σ' : Sg) (ρ' : Slots) (L' : Blocks), σ.le σ' → SlR σ' r.s ρ' → MemR σ' r.m F L' → TQ G n ρ' L' r.x Q) → ∀ a w, Env n ρ a → Heap G w L → Code.rounds P c Q k a w
  | 0, s, m, r, σ, ρ, L, Q, e, hs, hm, hQ => by cases e
  | k + 1, s, m, r, σ, ρ, L, Q, e, hs, hm, hQ => by
    intro a w he hw
    rw [rounds_succ]
    have e : ob (body s m) (fun r => Exit.rec (loopE body k r.s r.m) (fun _ => some r) (fun _ => some r) (some r) (fun _ => some r) (some r) r.x) = some r := e
    obtain ⟨⟨x, s1, m1⟩, e1, e⟩ := ob_some e
    refine (h (Q := Exit.then (Code.rounds P c Q k) Q) e1 hs hm fun σ' ρ' L' h1 h2 h3 => ?_).out a w he hw
    cases x with
    | normal => exact ⟨fun a w he hw => loop_ok h k e h2 h3 (fun σ'' ρ'' L'' q1 q2 q3 => hQ σ'' ρ'' L'' (Sg.le_trans h1 q1) q2 q3) a w he hw⟩
    | _ => cases e; exact TQ_thenX (by simp) (hQ σ' ρ' L' h1 h2 h3)
theorem codeE_ok (hmix : P.follows .mixedOrders = true) (hE : FunOk P E) : ∀ c : Code, CodeOk P G F n (codeE P E n k c) c := by
  intro c
  induction c with
  | skip =>
    intro s m r σ ρ L Q e hs hm hQ
    cases e
    exact T_skip (hQ σ ρ L σ.le_refl hs hm)
  | region id ops draw =>
    intro s m r σ ρ L Q e hs hm hQ
    have e : Fr.flushK s (fun thr t => bo (Nat.ble thr 1000000) (ob (Bool.rec (listE P E ops n ops.toList (.base thr t) m) (drawE P E ops n (.base thr t) m) draw) fun r => some ⟨.normal, r.1, r.2⟩)) = some r := e
    rw [Fr.flushK_eq] at e
    obtain ⟨ht, e⟩ := bo_some e
    obtain ⟨⟨s1, m1⟩, e1, e⟩ := ob_some e
    cases e
    have hs := hs.flush (Nat.le_of_ble_eq_true ht)
    cases draw with
    | true => exact draw_ok hmix hE e1 hs hm hQ
    | false =>
      obtain ⟨l⟩ := ops
      exact T_region (listE_ok hE l e1 hs hm hQ)
  | seq a b iha ihb =>
    intro s m r σ ρ L Q e hs hm hQ
    obtain ⟨⟨x, s1, m1⟩, e1, e⟩ := ob_some (show ob (codeE P E n k a s m) (fun r => Exit.rec (codeE P E n k b r.s r.m) (fun _ => some r) (fun _ => some r) (some r) (fun _ => some r) (some r) r.x) = some r from e)
    refine T_seq (iha e1 hs hm fun σ' ρ' L' h1 h2 h3 => ?_)
    cases x with
    | normal => exact TQ_then (ihb e h2 h3 fun σ'' ρ'' L'' q1 q2 q3 => hQ σ'' ρ'' L'' (Sg.le_trans h1 q1) q2 q3)
    | _ => cases e; exact TQ_thenX (by simp) (hQ σ' ρ' L' h1 h2 h3)
  | cond c a b iha ihb =>
    intro s m r σ ρ L Q e hs hm hQ
    obtain ⟨v, e1, e⟩ := ob_some (show ob (opd s c) (fun v => v.asBool fun b' => Bool.rec (codeE P E n k b s m) (codeE P E n k a s m) b') = some r from e)
    obtain ⟨t, rfl, e'⟩ := asBool_some e
    obtain ⟨V, h1, h2⟩ := opd_den hs e1
    obtain rfl : V = .bool t := by simpa [Den] using h2
    cases t with
    | true => exact T_true h1 (iha e' hs hm hQ)
    | false => exact T_false h1 (ihb e' hs hm hQ)
  | block id c ih =>
    intro s m r σ ρ L Q e hs hm hQ
    obtain ⟨⟨x, s1, m1⟩, e1, e⟩ := ob_some (show ob (codeE P E n k c s m) (fun r => Exit.rec (some r) (fun j => Bool.rec (some r) (some ⟨.normal, r.s, r.m⟩) (Nat.beq j id)) (fun _ => some r) (some r) (fun _ => some r) (some r) r.x) = some r from e)
    refine T_block (ih e1 hs hm fun σ' ρ' L' h1 h2 h3 => ?_)
    cases x with
    | exit j =>
      have e : (Bool.rec (some ⟨.exit j, s1, m1⟩) (some ⟨.normal, s1, m1⟩) (Nat.beq j id) : Option R3) = some r := e
      by_cases c : j = id
      · rw [bqT c] at e
        cases e
        subst c
        exact TQ_block_exit (hQ σ' ρ' L' h1 h2 h3)
      · rw [bqF c] at e
        cases e
        exact TQ_blockX (fun i hi => by cases hi; exact c) (hQ σ' ρ' L' h1 h2 h3)
    | _ => cases e; exact TQ_blockX (by simp) (hQ σ' ρ' L' h1 h2 h3)
  | loop c ih =>
    intro s m r σ ρ L Q e hs hm hQ
    exact T_loopK k (loop_ok ih k e hs hm hQ)
  | rangeFunc f ps a b iha ihb =>
    intro s m r σ ρ L Q e hs hm hQ
    cases e
  | exit id =>
    intro s m r σ ρ L Q e hs hm hQ
    cases e
    exact T_exit (hQ σ ρ L σ.le_refl hs hm)
  | scope c ih =>
    intro s m r σ ρ L Q e hs hm hQ
    obtain ⟨⟨x, s1, m1⟩, e1, e⟩ := ob_some (show ob (codeE P E n k c s m) (fun r => Exit.rec (some r) (fun _ => some r) (fun _ => none) (some r) (fun _ => some r) (some r) r.x) = some r from e)
    refine T_scopeS (ih e1 hs hm fun σ' ρ' L' h1 h2 h3 => ?_)
    cases x with
    | goto l => cases e
    | _ => cases e; exact ⟨fun a w he hw => (hQ σ' ρ' L' h1 h2 h3).out a w he hw⟩
  | label l =>
    intro s m r σ ρ L Q e hs hm hQ
    cases e
    exact T_label (hQ σ ρ L σ.le_refl hs hm)
  | goto l =>
    intro s m r σ ρ L Q e hs hm hQ
    cases e
    exact T_goto (hQ σ ρ L σ.le_refl hs hm)
  | ret =>
    intro s m r σ ρ L Q e hs hm hQ
    cases e
    exact T_ret (hQ σ ρ L σ.le_refl hs hm)
  | refuse why =>
    intro s m r σ ρ L Q e hs hm hQ
    cases e
end
/-! ### results -/
noncomputable def resE (P : Program) (s : Fr AV) (m : Mem) (l : List ResultVar) : Option (List AV) := List.rec (some [])
  (fun x _ ih => ResultVar.rec (fun t => ob (s.get t) fun v => ob ih fun vs => some (v :: vs)) (fun a t => ob (s.get a) fun p => p.asPtr fun i o => ob (ldA P m t i o) fun v => ob ih fun vs => some (v :: vs)) x) l
def oneOf (l : List AV) : AV := match l with
  | [v] => v
  | l => .tup l
section
variable {P : Program} {G : World} {F : Fm} {L : Blocks} {E : FunE} {n k : Nat} {σ : Sg} {ρ : Slots}
def resOne (tmps : Array Value) : ResultVar → Sem Value
  | .tmp t => pure (tmps.getD t undef)
  | .cell a t => do loadVar t (← asAddr (tmps.getD a undef))
theorem results_eq (fn : Func) (tmps : Array Value) : results fn tmps = (do
    let vs ← fn.results.mapM (resOne tmps)
    pure (if h : vs.size = 1 then vs[0] else .tuple vs)) := by
  unfold results
  congr 1
theorem resE_run {s : Fr AV} {m : Mem} (hs : SlR σ s ρ) (hm : MemR σ m F L) {a : Act} (he : Env n ρ a) : ∀ {l : List ResultVar} {vs : List AV}, resE P s m l = some vs → ∃ Vs : List Value, DenL σ vs Vs ∧ ∀ w, Has w L → (l.mapM (resOne a.tmps)).run P w = .ok Vs w
  | [], vs, e => by cases e; exact ⟨[], .nil, fun w _ => by simp⟩
  | .tmp t :: l, vs, e => by
    obtain ⟨v, e1, e⟩ := ob_some (show ob (s.get t) (fun v => ob (resE P s m l) fun vs => some (v :: vs)) = some vs from e)
    obtain ⟨us, e2, e⟩ := ob_some e
    cases e
    obtain ⟨V, h1, h2⟩ := hs.get t v e1
    obtain ⟨Vs, h3, h4⟩ := resE_run hs hm he e2
    have h5 : a.tmps.getD t undef = V := he.reads (.tmp t) V h1
    exact ⟨V :: Vs, .cons h2 h3, fun w hw => by simp [List.mapM_cons, resOne, h5, h4 w hw]⟩
  | .cell c t :: l, vs, e => by
    obtain ⟨p, e1, e⟩ := ob_some (show ob (s.get c) (fun p => p.asPtr fun i o => ob (ldA P m t i o) fun v => ob (resE P s m l) fun vs => some (v :: vs)) = some vs from e)
    obtain ⟨i, o, rfl, e'⟩ := asPtr_some e
    obtain ⟨v, e3, e'⟩ := ob_some e'
    obtain ⟨us, e2, e'⟩ := ob_some e'
    cases e'
    obtain ⟨V, h1, h2⟩ := hs.get c _ e1
    simp only [Den] at h2
    obtain ⟨y, hy, rfl⟩ := h2
    obtain ⟨U, h6, h7⟩ := ldA_run (P := P) hm hy e3
    obtain ⟨Vs, h3, h4⟩ := resE_run hs hm he e2
    have h5 : a.tmps.getD c undef = _ := he.reads (.tmp c) _ h1
    exact ⟨U :: Vs, .cons h6 h3, fun w hw => by simp [List.mapM_cons, resOne, h5, asAddr, h7 w hw, h4 w hw]⟩
theorem results_run {fn : Func} {s : Fr AV} {m : Mem} (hs : SlR σ s ρ) (hm : MemR σ m F L) {a : Act} (he : Env n ρ a) {vs : List AV} (e : resE P s m fn.results.toList = some vs) : ∃ V, Den σ (oneOf vs) V ∧ ∀ w, Has w L → (results fn a.tmps).run P w = .ok V w := by
  obtain ⟨Vs, h1, h2⟩ := resE_run (P := P) hs hm he e
  refine ⟨if h : Vs.length = 1 then Vs[0] else .tuple Vs.toArray, ?_, fun w hw => ?_⟩
  · unfold oneOf
    split
    · obtain ⟨V, M, rfl, k1, k2⟩ := h1.inv
      rw [k2.inv0]
      simpa using k1
    · rename_i hne
      have : Vs.length ≠ 1 := fun h => by
        rw [h1.length] at h
        obtain ⟨v, rfl⟩ := List.length_eq_one_iff.1 h
        exact hne v rfl
      rw [dif_neg this]
      simp only [Den]
      exact ⟨Vs, h1, rfl⟩
  · rw [results_eq, Array.mapM_eq_mapM_toList]
    simp [h2 w hw]
end
/-! ### functions -/
noncomputable def argF (vs : List AV) : Nat → Fr AV → Fr AV := List.rec (fun _ s => s) (fun v _ ih k s => ih (Nat.succ k) (.put k v s)) vs
/-- A function, its code by ev. -/
noncomputable def stepC (P : Program) (H : Nat → Nat) (ev : Nat → Code → Fr AV → Mem → Option R3) (i : Nat) (args : List AV) (m : Mem) : Option (AV × Mem) := ob P.funcs[i]? fun fn => ob fn.body fun c => bo (Nat.ble (lenN args) fn.ntmps) (ob (ev fn.ntmps c (argF args 0 (.base (H i) .leaf)) m) fun r =>
    Exit.rec (ob (resE P r.s r.m fn.results.toList) fun vs => some (oneOf vs, r.m)) (fun _ => none) (fun _ => none) (ob (resE P r.s r.m fn.results.toList) fun vs => some (oneOf vs, r.m)) (fun _ => none) none r.x)
/-- Functions: H says which slots are kept, K how many rounds a loop has at most. -/
noncomputable def funE (P : Program) (H : Nat → Nat) (k d : Nat) : FunE := Nat.rec (fun _ _ _ => none) (fun _ ih => stepC P H fun n c => codeE P ih n k c) d
theorem argF_ok {σ : Sg} : ∀ {vs : List AV} {Vs : List Value} {k : Nat} {s : Fr AV} {ρ : Slots}, DenL σ vs Vs → SlR σ s ρ → (∀ t, k ≤ t → ρ.lookup t = none) → ∃ ρ' : Slots, SlR σ (argF vs k s) ρ' ∧ ∀ t v, ρ'.lookup t = some v → (argSlots k Vs).lookup t = some v ∨ ρ.lookup t = some v
  | [], Vs, k, s, ρ, h, hs, hk => ⟨ρ, hs, fun t v e => Or.inr e⟩
  | v :: vs, Vs, k, s, ρ, h, hs, hk => by
    obtain ⟨V, M, rfl, h1, h2⟩ := h.inv
    obtain ⟨ρ', q1, q2⟩ := argF_ok (k := k + 1) h2 (hs.put (d := k) h1) (fun t ht => by
      rw [List.lookup_cons, show (t == k) = false by simpa using (show t ≠ k by omega)]
      exact hk t (by omega))
    refine ⟨ρ', q1, fun t v e => ?_⟩
    rcases q2 t v e with e | e
    · by_cases c : t = k
      · obtain ⟨h3, _⟩ := argSlots_get M (k + 1) t v e
        omega
      · left
        rw [argSlots, List.lookup_cons, show (t == k) = false by simpa using c]
        exact e
    · by_cases c : t = k
      · subst c
        left
        rw [List.lookup_cons] at e
        simp at e
        subst e
        rw [argSlots, List.lookup_cons]
        simp
      · rw [List.lookup_cons, show (t == k) = false by simpa using c] at e
        exact Or.inr e
theorem stepC_ok {P : Program} {H : Nat → Nat} {ev : Nat → Code → Fr AV → Mem → Option R3} {G : World} {i : Nat} {args : List AV} {m : Mem} {v : AV} {m' : Mem} {σ : Sg} {As : List Value} {F : Fm} {L : Blocks} (hev : ∀ n c, CodeOk P G F n (ev n c) c) (e : stepC P H ev i args m = some (v, m')) (hA : DenL σ args As) (hm : MemR σ m F L) : Spec P G i As.toArray L (Post σ v m' F) := by
  obtain ⟨fn, hf, e⟩ := ob_some e
  obtain ⟨c, hb, e⟩ := ob_some e
  obtain ⟨hn, e⟩ := bo_some e
  obtain ⟨⟨x, s1, m1⟩, e1, e⟩ := ob_some e
  obtain ⟨ρ', q1, q2⟩ := argF_ok (k := 0) (s := Fr.base (H i) .leaf) (ρ := []) hA (SlR.leaf hm.glb) (fun t _ => rfl)
  refine Spec_of (n := fn.ntmps) hf hb rfl (by rw [List.size_toArray, hA.length, ← lenN_eq]; exact hn) ?_
  refine T_weak ρ' (fun t u h => by
    rcases q2 t u h with h | h
    · exact h
    · cases h) (fun w hw => hw) ?_
  refine hev _ c e1 q1 hm fun σ' ρ'' L' h1 h2 h3 => ?_
  have fin : ∀ vs, resE P s1 m1 fn.results.toList = some vs → some (oneOf vs, m1) = some (v, m') → TQ G fn.ntmps ρ'' L' .ret (bodyPost P fn (RetPost G (Post σ v m' F))) := fun vs hv he => by
    cases he
    refine ⟨fun a w he hw => ?_⟩
    obtain ⟨V, k1, k2⟩ := results_run (P := P) h2 h3 he hv
    exact ⟨he.defers, V, k2 w hw.has, V, L', rfl, ⟨σ', h1, k1, h3⟩, hw⟩
  cases x with
  | normal =>
    obtain ⟨vs, hv, e⟩ := ob_some e
    exact TQ_fall (fin vs hv e)
  | ret =>
    obtain ⟨vs, hv, e⟩ := ob_some e
    exact fin vs hv e
  | _ => cases e
end Go.Proofs.YtlicehodjhoamaaGreatDoor.Ev
namespace Go.Proofs.YtlicehodjhoamaaGreatDoor.Ev
open Go
set_option linter.unusedVariables false
set_option linter.unusedSimpArgs false
/-- A fence that keeps nothing out. -/
structure Wide (R : Fence) : Prop where
  fn : ∀ f, R.fn f
  depth : R.depth = none
  same : ∀ P, Machine.fenced P R = Machine.fenced P Fence.wide
theorem wide_wide : Wide Fence.wide := ⟨fun _ => trivial, rfl, fun _ => rfl⟩
theorem wide_round (l : Nat) : Wide (Fence.wide.inRound l) := ⟨fun _ => trivial, rfl, fun _ => rfl⟩
def plainOp (o : Oper) : Bool := match o.op with
  | .defer _ => false
  | _ => true
theorem plainOp_ok {o : Oper} (h : plainOp o = true) : ∀ c, o.op ≠ .defer c := fun c e => by
  unfold plainOp at h
  rw [e] at h
  cases h
section
variable {R : Fence} {k : Nat} {P : Program} {ops : Array Oper} {Q : Exit → Act → World → Prop}
theorem Wide.calls (hR : Wide R) {f : FuncId} {args : Array Value} {w : World} {Φ : Ending → World → Prop} (h : Calls P f args w Φ) : CallsIn R k P f args w Φ := by
  refine ⟨hR.fn f, fun cs _ => ?_⟩
  rw [hR.same]
  exact (callsIn_wide (n := 0).2 h).2 cs (room_wide _)
theorem Wide.rows (hR : Wide R) {row : String} {args : Array Value} {w : World} {Φ : Value → World → Prop} (h : Rows P row args w Φ) : RowsIn R k P row args w Φ := fun c cs _ => by
  rw [hR.same]
  obtain ⟨v, w', r, s⟩ := h c cs
  exact ⟨v, w', r, stepsIn_wide.2 s⟩
theorem Wide.oper (hR : Wide R) {o : Oper} {a : Act} {w : World} {K : Act → World → Prop} (hp : plainOp o = true) (h : o.wp P a w K Q) : o.wpIn R k P a w K Q := by
  refine ⟨fun f _ => hR.fn f, ?_⟩
  rw [Oper.semAt_eq _ _ _ (plainOp_ok hp)]
  unfold Oper.wp at h
  have hd : R.depth.isSome = true → 1 ≤ k := fun h => by rw [hR.depth] at h; cases h
  cases hr : (execOp a.eval o).run P w with
  | ok x w' =>
    rw [hr] at h
    cases x <;> simp only [Oper.upon, Oper.uponIn] at h ⊢ <;> first
      | exact h
      | exact ⟨hd, hR.calls h⟩
      | exact ⟨hd, hR.rows h⟩
      | exact h.elim
  | halt x w' =>
    rw [hr] at h
    cases x <;> simp only [Oper.upon, Oper.uponIn] at h ⊢ <;> exact h
theorem Wide.op (hR : Wide R) (hlo : ¬ LetsOut Q) (hp : ∀ (i : Nat) (o : Oper), ops[i]? = some o → plainOp o = true) {i : Nat} {a : Act} {w : World} {K : Act → World → Prop} (h : wpOp P ops Q i K a w) : wpOpIn R k P ops Q i K a w := by
  unfold wpOp at h
  unfold wpOpIn
  cases ho : ops[i]? with
  | none => rw [ho] at h; exact h
  | some o =>
    rw [ho] at h
    dsimp only at h ⊢
    split
    · rename_i hw
      rw [if_pos hw] at h
      exact hR.oper (hp i o ho) (h.resolve_right fun h => hlo h.2)
    · rename_i hw
      rw [if_neg hw] at h
      exact ⟨fun f _ => hR.fn f, h⟩
theorem Wide.any (hR : Wide R) {md : Region.Mode} (hlo : ¬ LetsOut Q) (hp : ∀ (i : Nat) (o : Oper), ops[i]? = some o → plainOp o = true) : ∀ (f : Nat) {listed : Array Bool} {a : Act} {w : World}, wpAny P md ops Q f listed a w → wpAnyIn R k P md ops Q f listed a w
  | 0, listed, a, w, h => h
  | f + 1, listed, a, w, h => ⟨h.1, fun i hi => wpOpIn_mono (fun a w h => Wide.any hR hlo hp f h) (hR.op hlo hp (h.2 i hi))⟩
theorem Wide.list (hR : Wide R) (hlo : ¬ LetsOut Q) : ∀ (l : List Oper) {a : Act} {w : World}, (∀ o ∈ l, plainOp o = true) → wpList P ops Q l a w → wpListIn R k P ops Q l a w
  | [], a, w, hp, h => h
  | o :: l, a, w, hp, h => by
    unfold wpList at h
    unfold wpListIn
    split
    · rename_i hw
      rw [if_pos hw] at h
      exact Oper.wpIn_mono (fun a w h => Wide.list hR hlo l (fun o ho => hp o (List.mem_cons_of_mem _ ho)) h) (hR.oper (hp o (List.mem_cons_self ..)) (h.resolve_right fun h => hlo h.2))
    · rename_i hw
      rw [if_neg hw] at h
      exact ⟨fun f _ => hR.fn f, Wide.list hR hlo l (fun o ho => hp o (List.mem_cons_of_mem _ ho)) h⟩
end
/-- Code without loops and defers, as a round's body has it. -/
noncomputable def codeI (P : Program) (E : FunE) (n : Nat) (c : Code) : Fr AV → Mem → Option R3 := Code.rec (motive := fun _ => Fr AV → Mem → Option R3)
  (fun s m => some ⟨.normal, s, m⟩)
  (fun _ ops draw s m => Fr.flushK s fun thr t => bo (Nat.ble thr 1000000) (bo (allB plainOp ops.toList) (ob (Bool.rec (listE P E ops n ops.toList (.base thr t) m) (drawE P E ops n (.base thr t) m) draw) fun r => some ⟨.normal, r.1, r.2⟩)))
  (fun _ _ ia ib s m => ob (ia s m) fun r => Exit.rec (ib r.s r.m) (fun _ => some r) (fun _ => some r) (some r) (fun _ => some r) (some r) r.x)
  (fun c _ _ it ie s m => ob (opd s c) fun v => v.asBool fun b => Bool.rec (ie s m) (it s m) b)
  (fun id _ ih s m => ob (ih s m) fun r => Exit.rec (some r) (fun j => Bool.rec (some r) (some ⟨.normal, r.s, r.m⟩) (Nat.beq j id)) (fun _ => some r) (some r) (fun _ => some r) (some r) r.x)
  (fun _ _ _ _ => none)
  (fun _ _ _ _ _ _ _ _ => none)
  (fun id s m => some ⟨.exit id, s, m⟩)
  (fun _ _ _ _ => none)
  (fun _ _ _ => none)
  (fun _ _ _ => none)
  (fun s m => some ⟨.ret, s, m⟩)
  (fun _ _ _ => none) c
section
variable {P : Program} {G : World} {F : Fm} {E : FunE} {n k : Nat} {R : Fence}
structure TI (R : Fence) (k : Nat) (P : Program) (G : World) (n : Nat) (ρ : Slots) (L : Blocks) (c : Code) (Q : Exit → Act → World → Prop) : Prop where
  out : ∀ a w, Env n ρ a → Heap G w L → c.wpIn R k P Q a w
def CodeI (R : Fence) (k : Nat) (P : Program) (G : World) (F : Fm) (n : Nat) (ev : Fr AV → Mem → Option R3) (c : Code) : Prop := ∀ {s : Fr AV} {m : Mem} {r : R3} {σ : Sg} {ρ : Slots} {L : Blocks} {Q : Exit → Act → World → Prop}, ¬ LetsOut Q → ev s m = some r → SlR σ s ρ → MemR σ m F L →
    (∀ (σ' : Sg) (ρ' : Slots) (L' : Blocks), σ.le σ' → SlR σ' r.s ρ' → MemR σ' r.m F L' → TQ G n ρ' L' r.x Q) → TI R k P G n ρ L c Q
theorem codeI_ok (hR : Wide R) (hmix : P.follows .mixedOrders = true) (hE : FunOk P E) : ∀ c : Code, CodeI R k P G F n (codeI P E n c) c := by
  intro c
  induction c with
  | skip =>
    intro s m r σ ρ L Q hlo e hs hm hQ
    cases e
    exact ⟨fun a w he hw => wpIn_skip ((hQ σ ρ L σ.le_refl hs hm).out a w he hw)⟩
  | region id ops draw =>
    intro s m r σ ρ L Q hlo e hs hm hQ
    have e : Fr.flushK s (fun thr t => bo (Nat.ble thr 1000000) (bo (allB plainOp ops.toList) (ob (Bool.rec (listE P E ops n ops.toList (.base thr t) m) (drawE P E ops n (.base thr t) m) draw) fun r => some ⟨.normal, r.1, r.2⟩))) = some r := e
    rw [Fr.flushK_eq] at e
    obtain ⟨ht, e⟩ := bo_some e
    obtain ⟨hp, e⟩ := bo_some e
    obtain ⟨⟨s1, m1⟩, e1, e⟩ := ob_some e
    cases e
    have hs := hs.flush (Nat.le_of_ble_eq_true ht)
    have hp : ∀ o ∈ ops.toList, plainOp o = true := fun o ho => allB_ok hp o ho
    refine ⟨fun a w he hw => ?_⟩
    cases draw with
    | true =>
      refine wpIn_region_any hmix (hR.any hlo (fun i o ho => hp o (by rw [Array.mem_toList_iff]; exact Array.mem_of_getElem? ho)) _ ((draw_te hE e1 hs hm hQ).sound _ _ _ _ a _ he (hw.same ⟨rfl, rfl, rfl, Nat.le_refl _⟩ rfl)))
    | false =>
      obtain ⟨l⟩ := ops
      exact wpIn_region_lit (hR.list hlo l hp ((listE_ok hE l e1 hs hm hQ).out a w he hw))
  | seq a b iha ihb =>
    intro s m r σ ρ L Q hlo e hs hm hQ
    obtain ⟨⟨x, s1, m1⟩, e1, e⟩ := ob_some (show ob (codeI P E n a s m) (fun r => Exit.rec (codeI P E n b r.s r.m) (fun _ => some r) (fun _ => some r) (some r) (fun _ => some r) (some r) r.x) = some r from e)
    refine ⟨fun A w he hw => wpIn_seq ((iha (Q := Exit.then (b.wpIn R k P Q) Q) hlo e1 hs hm fun σ' ρ' L' h1 h2 h3 => ?_).out A w he hw)⟩
    cases x with
    | normal => exact ⟨fun A w he hw => (ihb hlo e h2 h3 fun σ'' ρ'' L'' q1 q2 q3 => hQ σ'' ρ'' L'' (Sg.le_trans h1 q1) q2 q3).out A w he hw⟩
    | _ => cases e; exact TQ_thenX (by simp) (hQ σ' ρ' L' h1 h2 h3)
  | cond c a b iha ihb =>
    intro s m r σ ρ L Q hlo e hs hm hQ
    obtain ⟨v, e1, e⟩ := ob_some (show ob (opd s c) (fun v => v.asBool fun b' => Bool.rec (codeI P E n b s m) (codeI P E n a s m) b') = some r from e)
    obtain ⟨t, rfl, e'⟩ := asBool_some e
    obtain ⟨V, h1, h2⟩ := opd_den hs e1
    obtain rfl : V = .bool t := by simpa [Den] using h2
    cases t with
    | true => exact ⟨fun A w he hw => wpIn_cond_true (he.reads c _ h1) ((iha hlo e' hs hm hQ).out A w he hw)⟩
    | false => exact ⟨fun A w he hw => wpIn_cond_false (he.reads c _ h1) ((ihb hlo e' hs hm hQ).out A w he hw)⟩
  | block id c ih =>
    intro s m r σ ρ L Q hlo e hs hm hQ
    obtain ⟨⟨x, s1, m1⟩, e1, e⟩ := ob_some (show ob (codeI P E n c s m) (fun r => Exit.rec (some r) (fun j => Bool.rec (some r) (some ⟨.normal, r.s, r.m⟩) (Nat.beq j id)) (fun _ => some r) (some r) (fun _ => some r) (some r) r.x) = some r from e)
    refine ⟨fun A w he hw => wpIn_block ((ih (Q := Exit.inBlock id Q) hlo e1 hs hm fun σ' ρ' L' h1 h2 h3 => ?_).out A w he hw)⟩
    cases x with
    | exit j =>
      have e : (Bool.rec (some ⟨.exit j, s1, m1⟩) (some ⟨.normal, s1, m1⟩) (Nat.beq j id) : Option R3) = some r := e
      by_cases c : j = id
      · rw [bqT c] at e
        cases e
        subst c
        exact TQ_block_exit (hQ σ' ρ' L' h1 h2 h3)
      · rw [bqF c] at e
        cases e
        exact TQ_blockX (fun i hi => by cases hi; exact c) (hQ σ' ρ' L' h1 h2 h3)
    | _ => cases e; exact TQ_blockX (by simp) (hQ σ' ρ' L' h1 h2 h3)
  | exit id =>
    intro s m r σ ρ L Q hlo e hs hm hQ
    cases e
    exact ⟨fun a w he hw => wpIn_exit ((hQ σ ρ L σ.le_refl hs hm).out a w he hw)⟩
  | ret =>
    intro s m r σ ρ L Q hlo e hs hm hQ
    cases e
    exact ⟨fun a w he hw => wpIn_ret ((hQ σ ρ L σ.le_refl hs hm).out a w he hw)⟩
  | _ =>
    intro s m r σ ρ L Q hlo e hs hm hQ
    cases e
end
end Go.Proofs.YtlicehodjhoamaaGreatDoor.Ev
namespace Go.Proofs.YtlicehodjhoamaaGreatDoor.Ev
open Go
set_option linter.unusedVariables false
set_option linter.unusedSimpArgs false
def actW (D : List Deferred) (a : Act) : Act := { tmps := a.tmps, defers := a.defers ++ D }
section
variable {P : Program} {ops : Array Oper}
theorem upon_with {o : Oper} {a : Act} {D : List Deferred} {next next' : Act → World → Prop} {Q Q' : Exit → Act → World → Prop} (hn : ∀ a w, next a w → next' (actW D a) w) (hQ : ∀ e a w, Q e a w → Q' e (actW D a) w) {r : Result Next} (h : o.upon P a next Q r) : o.upon P (actW D a) next' Q' r := by
  have hp : ∀ (d : Option Nat) (v : Value), actW D (a.put d v) = (actW D a).put d v := fun d v => by cases d <;> rfl
  unfold Oper.upon at h ⊢
  split at h
  · rw [← hp]; exact hn _ _ h
  · rw [← hp]; exact hn _ _ h
  · rename_i d w'
    have : ({ actW D a with defers := d :: (actW D a).defers } : Act).put o.dst undef = actW D (({ a with defers := d :: a.defers } : Act).put o.dst undef) := by cases o.dst <;> rfl
    rw [this]; exact hn _ _ h
  · refine Calls.mono h fun e w' hh => ?_
    cases e with
    | returned v => dsimp only at hh ⊢; rw [← hp]; exact hn _ _ hh
    | panicked ch => exact hQ _ _ _ hh
    | outgrown => obtain ⟨a0, w0, h0⟩ := hh; exact ⟨_, w0, hQ _ _ _ h0⟩
  · refine Rows.mono h fun v w' hh => ?_
    rw [← hp]; exact hn _ _ hh
  · exact hQ _ _ _ h
  · exact h.elim
theorem wpList_with {D : List Deferred} {Q Q' : Exit → Act → World → Prop} (hQ : ∀ e a w, Q e a w → Q' e (actW D a) w) : ∀ (l : List Oper) (a : Act) (w : World), wpList P ops Q l a w → wpList P ops Q' l (actW D a) w
  | [], a, w, h => hQ _ _ _ h
  | o :: l, a, w, h => by
    have hp : ∀ (d : Option Nat) (v : Value), actW D (a.put d v) = (actW D a).put d v := fun d v => by cases d <;> rfl
    unfold wpList at h ⊢
    have hw : (actW D a).tmps = a.tmps := rfl
    rw [hw]
    split
    · rename_i hwt
      rw [if_pos hwt] at h
      rcases h with h | ⟨h1, a0, w0, h2⟩
      · left
        exact upon_with (fun a w h => wpList_with hQ l a w h) hQ h
      · exact Or.inr ⟨h1, _, w0, hQ _ _ _ h2⟩
    · rename_i hwt
      rw [if_neg hwt] at h
      rw [← hp]
      exact wpList_with hQ l _ w h
theorem upon_then {o : Oper} {a : Act} {next next' : Act → World → Prop} {K : Act → World → Prop} {Q : Exit → Act → World → Prop} (hn : ∀ a w, next a w → next' a w) {r : Result Next} (h : o.upon P a next (Exit.then K Q) r) : o.upon P a next' Q r := by
  unfold Oper.upon at h ⊢
  split at h
  · exact hn _ _ h
  · exact hn _ _ h
  · exact hn _ _ h
  · refine Calls.mono h fun e w' hh => ?_
    cases e with
    | returned v => exact hn _ _ hh
    | panicked ch => exact hh
    | outgrown => exact hh
  · exact Rows.mono h fun v w' hh => hn _ _ hh
  · exact h
  · exact h.elim
theorem wpList_app {Q : Exit → Act → World → Prop} {l2 : List Oper} : ∀ (l : List Oper) (a : Act) (w : World), wpList P ops (Exit.then (wpList P ops Q l2) Q) l a w → wpList P ops Q (l ++ l2) a w
  | [], a, w, h => h
  | o :: l, a, w, h => by
    rw [List.cons_append]
    unfold wpList at h ⊢
    split
    · rename_i hwt
      rw [if_pos hwt] at h
      rcases h with h | h
      · exact Or.inl (upon_then (fun a w h => wpList_app l a w h) h)
      · exact Or.inr h
    · rename_i hwt
      rw [if_neg hwt] at h
      exact wpList_app l _ w h
theorem wpOpsS_of {Q : Exit → Act → List Frame → World → Prop} {cs : List Frame} (hk : ∀ a w, ¬ Q .outgrown a cs w) : ∀ (l : List Nat) (a : Act) (w : World), wpOps P ops (fun e a w => Q e a cs w) l a w → wpOpsS P ops Q l a cs w
  | [], a, w, h => h
  | i :: l, a, w, h => by
    unfold wpOps at h
    unfold wpOpsS
    cases ho : ops[i]? with
    | none =>
      rw [ho] at h
      exact wpOpsS_of hk l a w h
    | some o =>
      rw [ho] at h
      dsimp only at h ⊢
      by_cases hwt : Region.wanted o (yielded ops a.tmps) = true
      · rw [if_pos hwt] at h ⊢
        rcases h with h | ⟨_, a0, w0, h⟩
        · unfold Oper.wp at h
          cases hr : (execOp a.eval o).run P w with
          | halt x w' => rw [hr] at h; cases x <;> first | exact h | exact h.elim
          | ok x w' =>
            rw [hr] at h
            cases x with
            | value v => exact wpOpsS_of hk l _ _ h
            | skip => exact wpOpsS_of hk l _ _ h
            | defer d => exact wpOpsS_of hk l _ _ h
            | enter f args =>
              refine Calls.mono h fun e w' hh => ?_
              cases e with
              | returned v => exact wpOpsS_of hk l _ _ hh
              | panicked ch => exact hh
              | outgrown => exact hh
            | row r args => exact Rows.mono h fun v w' hh => wpOpsS_of hk l _ _ hh
            | _ => exact h.elim
        · exact absurd h (hk a0 w0)
      · rw [if_neg hwt] at h ⊢
        exact wpOpsS_of hk l _ w h
end
/-- The slot of a 'recover'. -/
def recD (o : Oper) : Option Nat := match o with
  | ⟨some d, .call ⟨.builtin .recover, _, _⟩, _, _, _, none⟩ => some d
  | _ => none
theorem recD_some {o : Oper} {d : Nat} (h : recD o = some d) : o.dst = some d ∧ o.guard = none ∧ ∀ (P : Program) (ρ : Operand → Value) (w : World), (execOp ρ o).run P w = .ok .recover w := by
  unfold recD at h
  split at h
  · cases h
    exact ⟨rfl, rfl, fun P ρ w => by simp [execOp, resolve, invoke, builtin]⟩
  · cases h
/-- The deferred closure, where nothing panics. -/
noncomputable def recF (P : Program) (E : FunE) (H k g : Nat) (caps : List AV) (m : Mem) : Option Mem :=
  ob P.funcs[g]? fun fn => ob fn.body fun c => bo (Nat.ble (lenN caps) fn.ntmps) (match c with
    | .seq (.region _ ⟨o :: rest⟩ false) y =>
      ob (recD o) fun d => bo (Nat.blt d fn.ntmps) (ob (listE P E ⟨o :: rest⟩ fn.ntmps rest (.put d .nilI (argF caps 0 (.base H .leaf))) m) fun r1 =>
        ob (codeE P E fn.ntmps k y r1.1 r1.2) fun r => Exit.rec (bo fn.results.isEmpty (some r.m)) (fun _ => none) (fun _ => none) (bo fn.results.isEmpty (some r.m)) (fun _ => none) none r.x)
    | _ => none)
section
variable {P : Program} {G : World} {E : FunE} {k : Nat} {F : Fm} {σ : Sg} {L : Blocks}
theorem env_args {args : List Value} {n : Nat} (h : args.length ≤ n) : Env n (argSlots 0 args) { tmps := args.toArray ++ Array.replicate (n - args.toArray.size) undef, defers := [] } := by
  refine ⟨by simp; omega, rfl, fun t v hv => ?_⟩
  obtain ⟨_, h2⟩ := argSlots_get args 0 t v hv
  have h3 : args.toArray[t]? = some v := by simpa using h2
  have h4 := (Array.getElem?_eq_some_iff.1 h3).1
  show (args.toArray ++ _)[t]? = some v
  rw [Array.getElem?_append_left h4]
  exact h3
theorem recF_ok (hmix : P.follows .mixedOrders = true) (hE : FunOk P E) {H g : Nat} {caps : List AV} {m m' : Mem} {Caps : List Value} (e : recF P E H k g caps m = some m') (hA : DenL σ caps Caps) (hm : MemR σ m F L) :
    ∀ w, Heap G w L → CallsD P g Caps.toArray .returning w fun e u' w' => ∃ v, e = .returned v ∧ u' = .returning ∧ ∃ (σ' : Sg) (L' : Blocks), σ.le σ' ∧ MemR σ' m' F L' ∧ Heap G w' L' := by
  intro w hw
  obtain ⟨fn, hf, e⟩ := ob_some e
  obtain ⟨c, hb, e⟩ := ob_some e
  obtain ⟨hn, e⟩ := bo_some e
  split at e
  · rename_i id o rest y ex
    obtain ⟨d, hrd, e⟩ := ob_some e
    obtain ⟨hdst, hgd, hrun⟩ := recD_some hrd
    obtain ⟨hd, e⟩ := bo_some e
    obtain ⟨⟨s1, m1⟩, e1, e⟩ := ob_some e
    obtain ⟨⟨x, s2, m2⟩, e2, e⟩ := ob_some e
    obtain ⟨ρ', q1, q2⟩ := argF_ok (k := 0) (s := Fr.base H .leaf) (ρ := []) hA (SlR.leaf hm.glb) (fun t _ => rfl)
    have hlen : Caps.length ≤ fn.ntmps := by rw [hA.length, ← lenN_eq]; exact Nat.le_of_ble_eq_true hn
    have he0 : Env fn.ntmps ρ' { tmps := Caps.toArray ++ Array.replicate (fn.ntmps - Caps.toArray.size) undef, defers := [] } := (env_args hlen).weak fun t u h => by
      rcases q2 t u h with h | h
      · exact h
      · cases h
    refine callsD_of_wpS hf hb fun c₀ cs hu => ?_
    have hc : ({ c₀ with mode := .returning } : Frame) = c₀ := by cases c₀; dsimp only at hu; rw [hu]
    have fin : fn.results.isEmpty = true → some m2 = some m' → ∀ (σ2 : Sg) (ρ2 : Slots) (L2 : Blocks), σ.le σ2 → SlR σ2 s2 ρ2 → MemR σ2 m2 F L2 → TQ G fn.ntmps ρ2 L2 .ret (fun e a w => bodyPostS P fn c₀ cs (fun e u' w' => ∃ v, e = .returned v ∧ u' = .returning ∧ ∃ (σ' : Sg) (L' : Blocks), σ.le σ' ∧ MemR σ' m' F L' ∧ Heap G w' L') e a (c₀ :: cs) w) := fun hr hmm σ2 ρ2 L2 h1 h2 h3 => by
      cases hmm
      refine ⟨fun a w he hw => ⟨he.defers, .returning, by rw [hc], ?_⟩⟩
      have hr' : fn.results = #[] := by simpa using hr
      exact ⟨.tuple #[], by simp [results, hr'], _, rfl, rfl, σ2, L2, h1, h3, hw⟩
    refine wpS_seq (wpS_region ?_)
    rw [List.range_eq_range', show (Array.mk (o :: rest)).size = rest.length + 1 from by simp, List.range'_succ]
    have ho : (Array.mk (o :: rest))[0]? = some o := rfl
    have hrec : recoverD (c₀ :: cs) = none := by simp [recoverD, hu]
    unfold wpOpsS
    rw [ho]
    dsimp only
    rw [if_pos (by simp [Region.wanted, hgd]), hrun]
    dsimp only
    rw [hrec, hdst]
    dsimp only
    have hlk : ∀ j, rest[j]? = (Array.mk (o :: rest))[0 + 1 + j]? := fun j => by simp [Nat.add_comm 1 j]
    refine wpOpsS_of (fun a w h => ?_) _ _ w ?_
    · obtain ⟨u', v, h, _⟩ := (show ∃ u' v, Ending.outgrown = .returned v ∧ _ from h)
      cases h
    rw [wpOps_eq_wpList rest (0 + 1) hlk]
    refine (listE_ok (G := G) hE rest e1 (q1.put (d := d) (V := .nilIface) (by simp [Den])) hm fun σ1 ρ1 L1 h1 h2 h3 => ⟨fun a w he hw => ?_⟩).out _ _ (he0.put d (by simpa using hd) _) hw
    refine wpS_of_wp ((codeE_ok hmix hE y e2 h2 h3 fun σ2 ρ2 L2 k1 k2 k3 => ?_).out a w he hw)
    cases x with
    | normal =>
      obtain ⟨hr, e⟩ := bo_some e
      exact ⟨fun a w he hw => (fin hr e σ2 ρ2 L2 (Sg.le_trans h1 k1) k2 k3).out a w he hw⟩
    | ret =>
      obtain ⟨hr, e⟩ := bo_some e
      exact fin hr e σ2 ρ2 L2 (Sg.le_trans h1 k1) k2 k3
    | _ => cases e
  · cases e
end
/-- What is deferred, if it is a function's value without arguments. -/
def defD (o : Oper) : Option Operand := match o with
  | ⟨none, .defer ⟨.value x, ⟨[]⟩, _⟩, _, _, _, none⟩ => some x
  | _ => none
theorem defD_some {o : Oper} {x : Operand} (h : defD o = some x) : o.dst = none ∧ o.guard = none ∧ ∀ (P : Program) (ρ : Operand → Value) (w : World) (g : FuncId) (cap : Array Value), ρ x = .func (.func g) #[] cap → (execOp ρ o).run P w = .ok (.defer ⟨.fn (.func g) cap, #[]⟩) w := by
  unfold defD at h
  split at h
  · cases h
    exact ⟨rfl, rfl, fun P ρ w g cap hx => by simp [execOp, resolve, hx, Deferred.ofValue]⟩
  · cases h
/-- A function of the form: ops0; closure, defer; ops2; return. -/
noncomputable def defF (P : Program) (H : Nat → Nat) (k i : Nat) (E : FunE) (args : List AV) (m : Mem) : Option (AV × Mem) :=
  ob P.funcs[i]? fun fn => ob fn.body fun c => bo (Nat.ble (lenN args) fn.ntmps) (match c with
    | .seq (.region _ ⟨ops0⟩ false) (.seq (.region _ ⟨[o1, o2]⟩ false) (.seq (.region _ ⟨ops2⟩ false) .ret)) =>
      ob (listE P E ⟨ops0⟩ fn.ntmps ops0 (argF args 0 (.base (H i) .leaf)) m) fun r0 =>
      ob (listE P E ⟨[o1, o2]⟩ fn.ntmps [o1] r0.1 r0.2) fun r1 =>
      ob (defD o2) fun x => ob (opd r1.1 x) fun v => (match v with
        | .fn g cap => bo (hasBody P g) (ob (listE P E ⟨ops2⟩ fn.ntmps ops2 r1.1 r1.2) fun r2 =>
            ob (recF P E (H g) k g cap r2.2) fun m3 => ob (resE P r2.1 m3 fn.results.toList) fun vs => some (oneOf vs, m3))
        | _ => none)
    | _ => none)
section
variable {P : Program} {G : World} {E : FunE} {k : Nat} {F : Fm} {σ : Sg} {L : Blocks}
theorem defF_ok (hmix : P.follows .mixedOrders = true) (hE : FunOk P E) {H : Nat → Nat} {i : Nat} {args : List AV} {m m' : Mem} {v : AV} {As : List Value} (e : defF P H k i E args m = some (v, m')) (hA : DenL σ args As) (hm : MemR σ m F L) : Spec P G i As.toArray L (Post σ v m' F) := by
  refine ⟨fun w hw => ?_⟩
  obtain ⟨fn, hf, e⟩ := ob_some e
  obtain ⟨c, hb, e⟩ := ob_some e
  obtain ⟨hn, e⟩ := bo_some e
  split at e
  · rename_i id0 ops0 id1 o1 o2 id2 ops2 ex
    obtain ⟨⟨s0, m0⟩, e0, e⟩ := ob_some e
    obtain ⟨⟨s1, m1⟩, e1, e⟩ := ob_some e
    obtain ⟨x, hdd, e⟩ := ob_some e
    obtain ⟨u, hx, e⟩ := ob_some e
    split at e
    · rename_i g cap
      obtain ⟨hbg, e⟩ := bo_some e
      obtain ⟨⟨s2, m2⟩, e2, e⟩ := ob_some e
      obtain ⟨m3, e3, e⟩ := ob_some e
      obtain ⟨vs, e4, e⟩ := ob_some e
      cases e
      obtain ⟨ρ', q1, q2⟩ := argF_ok (k := 0) (s := Fr.base (H i) .leaf) (ρ := []) hA (SlR.leaf hm.glb) (fun t _ => rfl)
      have hlen : As.length ≤ fn.ntmps := by rw [hA.length, ← lenN_eq]; exact Nat.le_of_ble_eq_true hn
      have he0 : Env fn.ntmps ρ' { tmps := As.toArray ++ Array.replicate (fn.ntmps - As.toArray.size) undef, defers := [] } := (env_args hlen).weak fun t u h => by
        rcases q2 t u h with h | h
        · exact h
        · cases h
      obtain ⟨hdst, hgd, hrun⟩ := defD_some hdd
      refine calls_of_wp_defers hf hb ((T_seq (T_region (listE_ok hE ops0 e0 q1 hm fun σ0 ρ0 L0 a1 a2 a3 => TQ_then ?_))).out _ w he0 hw)
      refine ⟨fun a w he hw => wp_seq (wp_region_lit (wpList_app [o1] a w ?_))⟩
      refine (listE_ok hE [o1] e1 a2 a3 fun σ1 ρ1 L1 b1 b2 b3 => ⟨fun a w he hw => ?_⟩).out a w he hw
      obtain ⟨V, hV, hVd⟩ := opd_den b2 hx
      simp only [Den] at hVd
      obtain ⟨Cap, hCap, rfl⟩ := hVd
      have hax : a.eval x = .func (.func g) #[] Cap.toArray := he.reads _ _ hV
      refine (show wpList P _ _ [o2] a w from ?_)
      unfold wpList
      rw [if_pos (by simp [Region.wanted, hgd])]
      left
      unfold Oper.wp
      rw [hrun P a.eval w g Cap.toArray hax, Oper.upon_defer, hdst]
      have hact : ({ a with defers := ⟨.fn (.func g) Cap.toArray, #[]⟩ :: a.defers } : Act).put none undef = actW [⟨.fn (.func g) Cap.toArray, #[]⟩] a := by
        show ({ a with defers := _ } : Act) = _
        unfold actW
        rw [he.defers]
        rfl
      rw [hact]
      refine wpList_nil (wp_seq (wp_region_lit (wpList_with (Q := fun e a w => Exit.then (Code.ret.wp P (bodyPostD P fn (RetPost G (Post σ _ m' F)))) (bodyPostD P fn (RetPost G (Post σ _ m' F))) e (actW [⟨.fn (.func g) Cap.toArray, #[]⟩] a) w) (fun e a w h => h) ops2 a w ?_)))
      refine (listE_ok hE ops2 e2 b2 b3 fun σ2 ρ2 L2 c1 c2 c3 => ⟨fun a w he hw => ?_⟩).out a w he hw
      refine wp_ret ?_
      show Leaves P fn a.tmps _ (a.defers ++ [_]) .returning w
      rw [he.defers]
      refine leaves_cons (by simp) (f := g) (args := Cap.toArray) ?_ ?_
      · rw [show invoke (.fn (.func g) Cap.toArray) #[] = callFunc g Cap.toArray from by simp [invoke]]
        exact run_callFunc hbg ..
      · refine (recF_ok hmix hE e3 (hCap.mono c1 _) c3 w hw).mono fun e u' w' h => ?_
        obtain ⟨v, rfl, rfl, σ3, L3, d1, d2, d3⟩ := h
        have hs3 := c2.mono d1
        obtain ⟨V, k1, k2⟩ := results_run (P := P) hs3 d2 he e4
        exact ⟨V, k2 w' d3.has, V, L3, rfl, ⟨σ3, Sg.le_trans a1 (Sg.le_trans b1 (Sg.le_trans c1 d1)), k1, d2⟩, d3⟩
    · cases e
  · cases e
end
end Go.Proofs.YtlicehodjhoamaaGreatDoor.Ev
namespace Go.Proofs.YtlicehodjhoamaaGreatDoor.Ev
open Go
set_option linter.unusedVariables false
set_option linter.unusedSimpArgs false
/-- Jumps: so many at most. -/
noncomputable def jumpE (P : Program) (E : FunE) (n k : Nat) (c : Code) (j : Nat) : R3 → Option R3 := Nat.rec (fun r => Exit.rec (some r) (fun _ => some r) (fun _ => none) (some r) (fun _ => some r) (some r) r.x)
  (fun _ ih r => Exit.rec (some r) (fun _ => some r) (fun l => ob (findLabel c l) fun rest => ob (codeE P E n k rest r.s r.m) ih) (some r) (fun _ => some r) (some r) r.x) j
noncomputable def scopeE (P : Program) (E : FunE) (n k : Nat) (c : Code) (s : Fr AV) (m : Mem) : Option R3 := ob (codeE P E n k c s m) (jumpE P E n k c k)
/-- Code, a scope first of all, or behind other code. -/
noncomputable def codeJ (P : Program) (E : FunE) (k n : Nat) (c : Code) : Fr AV → Mem → Option R3 := Code.rec (motive := fun _ => Fr AV → Mem → Option R3)
  (codeE P E n k .skip)
  (fun id ops draw => codeE P E n k (.region id ops draw))
  (fun a _ _ ib s m => ob (codeE P E n k a s m) fun r => Exit.rec (ib r.s r.m) (fun _ => some r) (fun _ => some r) (some r) (fun _ => some r) (some r) r.x)
  (fun c a b _ _ => codeE P E n k (.cond c a b))
  (fun id a _ => codeE P E n k (.block id a))
  (fun a _ => codeE P E n k (.loop a))
  (fun f ps a b _ _ => codeE P E n k (.rangeFunc f ps a b))
  (fun id => codeE P E n k (.exit id))
  (fun a _ => scopeE P E n k a)
  (fun l => codeE P E n k (.label l))
  (fun l => codeE P E n k (.goto l))
  (codeE P E n k .ret)
  (fun w => codeE P E n k (.refuse w)) c
section
variable {P : Program} {G : World} {F : Fm} {E : FunE} {n k : Nat}
theorem jumpE_ok (hmix : P.follows .mixedOrders = true) (hE : FunOk P E) {c : Code} {Q : Exit → Act → World → Prop} : ∀ (j : Nat) {r r' : R3} {σ : Sg} {ρ : Slots} {L : Blocks}, jumpE P E n k c j r = some r' → SlR σ r.s ρ → MemR σ r.m F L →
    (∀ (σ' : Sg) (ρ' : Slots) (L' : Blocks), σ.le σ' → SlR σ' r'.s ρ' → MemR σ' r'.m F L' → TQ G n ρ' L' r'.x Q) →
    ∀ a w, Env n ρ a → Heap G w L → ∀ (b : Frame) (kk : List Item) (cs : List Frame) (s0 : Machine), Arrives P s0 b (.inScope c :: kk) cs r.x a w → ∃ e a' w', Q e a' w' ∧ Arrives P s0 b kk cs e a' w' := by
  intro j
  induction j with
  | zero =>
    intro r r' σ ρ L e hs hm hQ a w he hw b kk cs s0 harr
    obtain ⟨x, s, m⟩ := r
    cases x with
    | normal => cases e; exact ⟨_, a, w, (hQ σ ρ L σ.le_refl hs hm).out a w he hw, Steps.trans harr (.one step_inScope)⟩
    | exit id => cases e; exact ⟨_, a, w, (hQ σ ρ L σ.le_refl hs hm).out a w he hw, fun k' hk => harr k' (by simp [exitTo, hk])⟩
    | goto l => cases e
    | ret => cases e; exact ⟨_, a, w, (hQ σ ρ L σ.le_refl hs hm).out a w he hw, harr⟩
    | panic ch => cases e; exact ⟨_, a, w, (hQ σ ρ L σ.le_refl hs hm).out a w he hw, harr⟩
    | outgrown => cases e; exact ⟨_, a, w, (hQ σ ρ L σ.le_refl hs hm).out a w he hw, harr⟩
  | succ j ih =>
    intro r r' σ ρ L e hs hm hQ a w he hw b kk cs s0 harr
    obtain ⟨x, s, m⟩ := r
    cases x with
    | normal => cases e; exact ⟨_, a, w, (hQ σ ρ L σ.le_refl hs hm).out a w he hw, Steps.trans harr (.one step_inScope)⟩
    | exit id => cases e; exact ⟨_, a, w, (hQ σ ρ L σ.le_refl hs hm).out a w he hw, fun k' hk => harr k' (by simp [exitTo, hk])⟩
    | goto l =>
      obtain ⟨rest, hf, e⟩ := ob_some (show ob (findLabel c l) (fun rest => ob (codeE P E n k rest s m) (jumpE P E n k c j)) = some r' from e)
      obtain ⟨r1, e1, e⟩ := ob_some e
      have hg : gotoIn l (.inScope c :: kk) = some (.code rest :: .inScope c :: kk) := by simp [gotoIn, hf]
      have hT : T P G n ρ L rest (fun e a w => e = r1.x ∧ ∃ (σ' : Sg) (ρ' : Slots) (L' : Blocks), σ.le σ' ∧ SlR σ' r1.s ρ' ∧ MemR σ' r1.m F L' ∧ Env n ρ' a ∧ Heap G w L') :=
        codeE_ok hmix hE rest e1 hs hm fun σ' ρ' L' h1 h2 h3 => ⟨fun a w he hw => ⟨rfl, σ', ρ', L', h1, h2, h3, he, hw⟩⟩
      obtain ⟨e2, a2, w2, ⟨rfl, σ', ρ', L', h1, h2, h3, h4, h5⟩, harr2⟩ := hT.out a w he hw b (.inScope c :: kk) cs
      exact ih e h2 h3 (fun σ'' ρ'' L'' q1 q2 q3 => hQ σ'' ρ'' L'' (Sg.le_trans h1 q1) q2 q3) a2 w2 h4 h5 b kk cs s0 (.of_steps (harr _ hg) harr2)
    | ret => cases e; exact ⟨_, a, w, (hQ σ ρ L σ.le_refl hs hm).out a w he hw, harr⟩
    | panic ch => cases e; exact ⟨_, a, w, (hQ σ ρ L σ.le_refl hs hm).out a w he hw, harr⟩
    | outgrown => cases e; exact ⟨_, a, w, (hQ σ ρ L σ.le_refl hs hm).out a w he hw, harr⟩
theorem scopeE_ok (hmix : P.follows .mixedOrders = true) (hE : FunOk P E) (c : Code) : CodeOk P G F n (scopeE P E n k c) (.scope c) := by
  intro s m r σ ρ L Q e hs hm hQ
  obtain ⟨r1, e1, e⟩ := ob_some e
  have hT : T P G n ρ L c (fun e a w => e = r1.x ∧ ∃ (σ' : Sg) (ρ' : Slots) (L' : Blocks), σ.le σ' ∧ SlR σ' r1.s ρ' ∧ MemR σ' r1.m F L' ∧ Env n ρ' a ∧ Heap G w L') :=
    codeE_ok hmix hE c e1 hs hm fun σ' ρ' L' h1 h2 h3 => ⟨fun a w he hw => ⟨rfl, σ', ρ', L', h1, h2, h3, he, hw⟩⟩
  refine ⟨fun a w he hw b kk cs => ?_⟩
  obtain ⟨e2, a2, w2, ⟨rfl, σ', ρ', L', h1, h2, h3, h4, h5⟩, harr2⟩ := hT.out a w he hw b (.inScope c :: kk) cs
  exact jumpE_ok hmix hE k e h2 h3 (fun σ'' ρ'' L'' q1 q2 q3 => hQ σ'' ρ'' L'' (Sg.le_trans h1 q1) q2 q3) a2 w2 h4 h5 b kk cs _ (.of_steps (.one step_scope) harr2)
theorem codeJ_ok (hmix : P.follows .mixedOrders = true) (hE : FunOk P E) : ∀ c : Code, CodeOk P G F n (codeJ P E k n c) c := by
  intro c
  induction c with
  | seq a b _ ihb =>
    intro s m r σ ρ L Q e hs hm hQ
    obtain ⟨⟨x, s1, m1⟩, e1, e⟩ := ob_some (show ob (codeE P E n k a s m) (fun r => Exit.rec (codeJ P E k n b r.s r.m) (fun _ => some r) (fun _ => some r) (some r) (fun _ => some r) (some r) r.x) = some r from e)
    refine T_seq (codeE_ok hmix hE a e1 hs hm fun σ' ρ' L' h1 h2 h3 => ?_)
    cases x with
    | normal => exact TQ_then (ihb e h2 h3 fun σ'' ρ'' L'' q1 q2 q3 => hQ σ'' ρ'' L'' (Sg.le_trans h1 q1) q2 q3)
    | _ => cases e; exact TQ_thenX (by simp) (hQ σ' ρ' L' h1 h2 h3)
  | scope c _ => intro s m r σ ρ L Q e hs hm hQ; exact scopeE_ok hmix hE c e hs hm hQ
  | _ => intro s m r σ ρ L Q e hs hm hQ; exact codeE_ok (k := k) hmix hE _ e hs hm hQ
end
/-- Functions that have a way of their own. -/
abbrev Own := Nat → Option (FunE → List AV → Mem → Option (AV × Mem))
def OwnOk (P : Program) (X : Own) : Prop := ∀ (i : Nat) (f : FunE → List AV → Mem → Option (AV × Mem)), X i = some f → ∀ E, FunOk P E → ∀ {G : World} {args : List AV} {m : Mem} {v : AV} {m' : Mem} {σ : Sg} {As : List Value} {F : Fm} {L : Blocks}, f E args m = some (v, m') → DenL σ args As → MemR σ m F L → Spec P G i As.toArray L (Post σ v m' F)
noncomputable def funX (P : Program) (H : Nat → Nat) (k : Nat) (X : Own) (d : Nat) : FunE := Nat.rec (fun _ _ _ => none) (fun _ ih i args m => Option.rec (stepC P H (fun n c => codeE P ih n k c) i args m) (fun f => f ih args m) (X i)) d
theorem funX_ok (P : Program) (hmix : P.follows .mixedOrders = true) (H : Nat → Nat) (k : Nat) {X : Own} (hX : OwnOk P X) : ∀ d : Nat, FunOk P (funX P H k X d)
  | 0 => fun e => by cases e
  | d + 1 => by
    rename_i G i args m v m' σ As F L
    intro e hA hm
    have ih : FunOk P (funX P H k X d) := funX_ok P hmix H k hX d
    cases hx : X i with
    | none =>
      have e' : (Option.rec (stepC P H (fun n c => codeE P (funX P H k X d) n k c) i args m) (fun f => f (funX P H k X d) args m) (X i) : Option (AV × Mem)) = some (v, m') := e
      rw [hx] at e'
      exact stepC_ok (fun n c => codeE_ok hmix ih c) e' hA hm
    | some f =>
      have e' : (Option.rec (stepC P H (fun n c => codeE P (funX P H k X d) n k c) i args m) (fun f => f (funX P H k X d) args m) (X i) : Option (AV × Mem)) = some (v, m') := e
      rw [hx] at e'
      exact hX i f hx _ ih e' hA hm
/-- Own ways by a list. -/
inductive Way where
  | defers
  | jumps
noncomputable def Way.go (P : Program) (H : Nat → Nat) (k i : Nat) (x : Way) (E : FunE) : List AV → Mem → Option (AV × Mem) := Way.rec (defF P H k i E) (stepC P H (codeJ P E k) i) x
theorem Way.ok {P : Program} (hmix : P.follows .mixedOrders = true) {H : Nat → Nat} {k i : Nat} {x : Way} {E : FunE} (hE : FunOk P E) {G : World} {args : List AV} {m : Mem} {v : AV} {m' : Mem} {σ : Sg} {As : List Value} {F : Fm} {L : Blocks} (e : x.go P H k i E args m = some (v, m')) (hA : DenL σ args As) (hm : MemR σ m F L) : Spec P G i As.toArray L (Post σ v m' F) := by
  cases x with
  | defers => exact defF_ok hmix hE e hA hm
  | jumps => exact stepC_ok (fun n c => codeJ_ok hmix hE c) e hA hm
noncomputable def ownL (P : Program) (H : Nat → Nat) (k : Nat) (l : List (Nat × Way)) : Own := fun i => List.rec none (fun p _ ih => Bool.rec ih (some (p.2.go P H k i)) (Nat.beq p.1 i)) l
theorem ownL_ok {P : Program} (hmix : P.follows .mixedOrders = true) (H : Nat → Nat) (k : Nat) (l : List (Nat × Way)) : OwnOk P (ownL P H k l) := by
  intro i f hf E hE G args m v m' σ As F L e hA hm
  unfold ownL at hf
  induction l with
  | nil => cases hf
  | cons p l ih =>
    dsimp only at hf
    cases hb : Nat.beq p.1 i with
    | false => rw [hb] at hf; exact ih hf
    | true => rw [hb] at hf; cases hf; exact Way.ok hmix hE e hA hm
end Go.Proofs.YtlicehodjhoamaaGreatDoor.Ev
namespace Go.Proofs.YtlicehodjhoamaaGreatDoor.Ev
open Go
set_option linter.unusedVariables false
set_option linter.unusedSimpArgs false
abbrev Rnd := AV → Mem → Option (Option Exit × Mem)
abbrev Iter := Rnd → AV → Mem → Option (Option Exit × Mem)
/-! ### the loop's record among the blocks -/
section
variable {G : World} {σ : Sg} {m : Mem} {B : Blocks} {z : Nat → Option AO} {d : Nat → Prop} {L R : Blocks} {l : Nat} {O O' : Obj} {w : World}
theorem put_block (hw : Heap G w L) (hm : (l, O) ∈ L) : ∃ R, L.Perm ((l, O) :: R) ∧ (∀ O', Heap G (w.putObj l O') ((l, O') :: R)) ∧ ∀ p ∈ R, p.1 ≠ l := by
  obtain ⟨s, t, rfl⟩ := List.append_of_mem hm
  have hp : (s ++ (l, O) :: t).Perm ((l, O) :: (s ++ t)) := List.perm_middle
  have hw' := hw.perm hp
  have hlt := hw.lt hm
  refine ⟨s ++ t, hp, fun O' => hw'.update ⟨rfl, rfl, rfl, ?_⟩ (World.putObj_heap_same hlt) fun j _ hj => World.putObj_heap_other hj, fun p hp => hw'.ne hp⟩
  simp
theorem MemR.join {F : Fm} (h : MemR σ m F L) (hb : ∀ p ∈ L, p.1 ≠ l) : MemR σ m ⟨(l, O) :: F.b, F.z, F.d⟩ ((l, O) :: L) := by
  refine ⟨fun i o x e ex => ?_, h.inj, fun p hp => ?_, fun i o x e ex p hp => ?_, h.ghost, h.fresh, h.below, h.glb, h.dead⟩
  · obtain ⟨O1, h1, h2⟩ := h.get i o x e ex
    exact ⟨O1, h1, List.mem_cons_of_mem _ h2⟩
  · rcases List.mem_cons.1 hp with rfl | hp
    · exact List.mem_cons_self ..
    · exact List.mem_cons_of_mem _ (h.frame p hp)
  · rcases List.mem_cons.1 hp with rfl | hp
    · obtain ⟨O1, h1, h2⟩ := h.get i o x e ex
      exact Ne.symm (hb _ h2)
    · exact h.apart i o x e ex p hp
theorem MemR.cut (h : MemR σ m ⟨(l, O) :: B, z, d⟩ L) (hp : L.Perm ((l, O) :: R)) (hB : ∀ p ∈ B, p.1 ≠ l) : MemR σ m ⟨B, z, d⟩ R := by
  refine ⟨fun i o x e ex => ?_, h.inj, fun p hb => ?_, fun i o x e ex p hb => h.apart i o x e ex p (List.mem_cons_of_mem _ hb), h.ghost, h.fresh, h.below, h.glb, h.dead⟩
  · obtain ⟨O1, h1, h2⟩ := h.get i o x e ex
    rcases List.mem_cons.1 (hp.mem_iff.1 h2) with h3 | h3
    · exact absurd (by rw [← h3]) (h.apart i o x e ex (l, O) (List.mem_cons_self ..))
    · exact ⟨O1, h1, h3⟩
  · rcases List.mem_cons.1 (hp.mem_iff.1 (h.frame p (List.mem_cons_of_mem _ hb))) with h3 | h3
    · exact absurd (by rw [h3]) (hB p hb)
    · exact h3
theorem MemR.swap (h : MemR σ m ⟨(l, O) :: B, z, d⟩ L) (hp : L.Perm ((l, O) :: R)) (hB : ∀ p ∈ B, p.1 ≠ l) (hR : ∀ p ∈ R, p.1 ≠ l) : MemR σ m ⟨(l, O') :: B, z, d⟩ ((l, O') :: R) :=
  (h.cut hp hB).join hR
end
/-! ### a round -/
def jumpC : Exit → Code
  | .exit id => .exit id
  | _ => .ret
def afterL (rc : Loop) : Option Exit → Loop
  | none => rc
  | some x => { rc with state := .done, pending := some (jumpC x) }
def RoundOk (P : Program) (G : World) (σ : Sg) (F : Fm) (l : Nat) (rc : Loop) (R : Rnd) : Prop := ∀ {m m' : Mem} {v : AV} {V : Value} {j : Option Exit} {σ1 : Sg} {L : Blocks}, R v m = some (j, m') → σ.le σ1 → Den σ1 v V → MemR σ1 m ⟨(l, .loop rc) :: F.b, F.z, F.d⟩ L → ∀ w, Heap G w L →
  RoundIn Fence.wide 0 P l rc.fn ((rc.params.zip #[V]).foldl (fun tmps (t, a) => tmps.setIfInBounds t a) rc.tmps) rc.assign rc.body w (RetPost G fun u M => u = .bool j.isNone ∧ ∃ σ2, σ1.le σ2 ∧ MemR σ2 m' ⟨(l, .loop (afterL rc j)) :: F.b, F.z, F.d⟩ M)
def IterOk (P : Program) (Z : Iter) : Prop := ∀ {G : World} {σ : Sg} {F : Fm} {l : Nat} {rc : Loop} {R : Rnd} {v : AV} {V : Value} {j : Option Exit} {m m' : Mem} {L : Blocks}, Z R v m = some (j, m') → rc.params.size = 1 → RoundOk P G σ F l rc R → Den σ v V → MemR σ m ⟨(l, .loop rc) :: F.b, F.z, F.d⟩ L →
  ∃ f Cap, V = .func (.func f) #[] Cap ∧ hasBody P f = true ∧ Spec P G f (#[.func (.yield l) #[] #[]] ++ Cap) L fun u M => ∃ σ2, σ.le σ2 ∧ MemR σ2 m' ⟨(l, .loop (afterL rc j)) :: F.b, F.z, F.d⟩ M
noncomputable def roundE (P : Program) (E : FunE) (n : Nat) (s : Fr AV) (p : Nat) (assign body : Code) : Rnd := fun v m =>
  ob (codeI P E n assign (.put p v s) m) fun r1 => Exit.rec (ob (codeI P E n body r1.s r1.m) fun r => Exit.rec (some (none, r.m)) (fun id => some (some (.exit id), r.m)) (fun _ => none) (some (some .ret, r.m)) (fun _ => none) none r.x) (fun _ => none) (fun _ => none) none (fun _ => none) none r1.x
section
variable {P : Program} {G : World} {E : FunE} {n : Nat} {F : Fm} {σ : Sg} {ρ : Slots} {L : Blocks}
theorem run_busy {w : World} {l : Nat} {rc : Loop} {j : Option Exit} (hrc : rc = { rc with state := .ready, pending := none }) (hl : w.heap[l]? = some (.loop { rc with state := .busy })) :
    (Instr.endRound l (j.map jumpC)).run P w = .ok (.bool j.isNone) (w.putObj l (.loop (afterL rc j))) := by
  rw [run_endRound _ hl]
  cases j with
  | none =>
    have h : afterL rc none = { rc with state := .ready, pending := none } := hrc
    rw [h]
    rfl
  | some x => rfl
theorem round_ok (hmix : P.follows .mixedOrders = true) (hE : FunOk P E) {s : Fr AV} (hs : SlR σ s ρ) {a : Act} (he : Env n ρ a) {l p : Nat} {rc : Loop} {assign body : Code} (hp : p < n) (hB : ∀ q ∈ F.b, q.1 ≠ l) (hrc : rc = { rc with state := .ready, pending := none }) (h1 : rc.tmps = a.tmps) (h2 : rc.params = #[p]) (h3 : rc.assign = assign) (h4 : rc.body = body) :
    RoundOk P G σ F l rc (roundE P E n s p assign body) := by
  intro m m' v V j σ1 L e hle hv hm w hw
  obtain ⟨⟨x1, s1, m1⟩, e1, e⟩ := ob_some e
  cases x1 <;> try (cases e)
  obtain ⟨⟨x2, s2, m2⟩, e2, e⟩ := ob_some e
  rw [h1, h2, h3, h4]
  refine roundIn_of_wpIn trivial ?_
  have hQ : ∀ j' : Option Exit, some (j', m2) = some (j, m') → ∀ (a : Act) (w : World) (σ2 : Sg) (L2 : Blocks), σ1.le σ2 → MemR σ2 m2 ⟨(l, .loop { rc with state := .busy }) :: F.b, F.z, F.d⟩ L2 → Heap G w L2 → ∃ v w', (Instr.endRound l (j'.map jumpC)).run P w = .ok v w' ∧ RetPost G (fun u M => u = .bool j.isNone ∧ ∃ σ2, σ1.le σ2 ∧ MemR σ2 m' ⟨(l, .loop (afterL rc j)) :: F.b, F.z, F.d⟩ M) (.returned v) w' := fun j' ej a w σ2 L2 k1 k2 k3 => by
    cases ej
    have hmem := k2.frame _ (List.mem_cons_self ..)
    obtain ⟨R, q1, q2, q3⟩ := put_block k3 hmem
    refine ⟨_, _, run_busy hrc (k3.get _ hmem), _, _, rfl, ⟨rfl, σ2, k1, k2.swap q1 hB q3⟩, q2 _⟩
  refine (codeI_ok (wide_round l) hmix hE assign ?_ e1 ((hs.mono hle).put (d := p) hv) hm fun σ2 ρ2 L2 k1 k2 k3 => ⟨fun a1 w1 he1 hw1 => ?_⟩).out _ _ ?_ hw
  · rintro ⟨_, _, h⟩
    exact h
  · have hmem := k3.frame _ (List.mem_cons_self ..)
    obtain ⟨R, q1, q2, q3⟩ := put_block hw1 hmem
    refine ⟨_, run_beginRound (hw1.get _ hmem) (by rw [hrc]), ?_⟩
    refine (codeI_ok (wide_round l) hmix hE body ?_ e2 k2 (k3.swap q1 hB q3) fun σ3 ρ3 L3 c1 c2 c3 => ⟨fun a2 w2 he2 hw2 => ?_⟩).out _ _ he1 (q2 _)
    · rintro ⟨_, _, h⟩
      exact h
    · cases x2 with
      | normal => exact hQ none e a2 w2 σ3 L3 (Sg.le_trans k1 c1) c3 hw2
      | ret => exact hQ (some .ret) e a2 w2 σ3 L3 (Sg.le_trans k1 c1) c3 hw2
      | exit id => exact hQ (some (.exit id)) e a2 w2 σ3 L3 (Sg.le_trans k1 c1) c3 hw2
      | _ => cases e
  · have h := he.put p hp V
    have hz : ((#[p] : Array Tmp).zip #[V]).foldl (fun tmps (t, a) => tmps.setIfInBounds t a) a.tmps = a.tmps.setIfInBounds p V := by simp
    rw [hz]
    have : ({ tmps := a.tmps.setIfInBounds p V, defers := [] } : Act) = a.put (some p) V := by
      show _ = ({ a with tmps := a.tmps.setIfInBounds p V } : Act)
      rw [← he.defers]
    rw [this]
    exact h
end
end Go.Proofs.YtlicehodjhoamaaGreatDoor.Ev
namespace Go.Proofs.YtlicehodjhoamaaGreatDoor.Ev
open Go
set_option linter.unusedVariables false
set_option linter.unusedSimpArgs false
def markD (b : Nat) : Deferred := { target := .collected b, args := #[] }
def shutO : Obj := .deferred (some [])
def Fm.more (F : Fm) (D : List Nat) : Fm := ⟨D.map (fun b => (b, shutO)) ++ F.b, F.z, F.d⟩
structure DOk (F : Fm) (D : List Nat) : Prop where
  nodup : D.Nodup
  apart : ∀ b ∈ D, ∀ p ∈ F.b, p.1 ≠ b
structure EnvD (n : Nat) (ρ : Slots) (D : List Nat) (a : Act) : Prop where
  ex : ∃ a0, Env n ρ a0 ∧ a = actW (D.map markD) a0
structure TD (P : Program) (G : World) (n : Nat) (ρ : Slots) (L : Blocks) (D : List Nat) (c : Code) (Q : Exit → Act → World → Prop) : Prop where
  out : ∀ a w, EnvD n ρ D a → Heap G w L → c.wp P Q a w
structure TQD (G : World) (n : Nat) (ρ : Slots) (L : Blocks) (D : List Nat) (x : Exit) (Q : Exit → Act → World → Prop) : Prop where
  out : ∀ a w, EnvD n ρ D a → Heap G w L → Q x a w
section
variable {P : Program} {ops : Array Oper} {G : World} {n : Nat} {ρ : Slots} {L : Blocks}
theorem wpAny_with {md : Region.Mode} {D : List Deferred} {Q Q' : Exit → Act → World → Prop} (hQ : ∀ e a w, Q e a w → Q' e (actW D a) w) : ∀ (f : Nat) {listed : Array Bool} {a : Act} {w : World}, wpAny P md ops Q f listed a w → wpAny P md ops Q' f listed (actW D a) w
  | 0, listed, a, w, h => ⟨h.1, hQ _ _ _ h.2⟩
  | f + 1, listed, a, w, h => by
    have hp : ∀ (d : Option Nat) (v : Value), actW D (a.put d v) = (actW D a).put d v := fun d v => by cases d <;> rfl
    refine ⟨fun h0 => hQ _ _ _ (h.1 h0), fun i hi => ?_⟩
    have h := h.2 i hi
    unfold wpOp at h ⊢
    cases ho : ops[i]? with
    | none => rw [ho] at h; exact wpAny_with hQ f h
    | some o =>
      rw [ho] at h
      dsimp only at h ⊢
      have hw : (actW D a).tmps = a.tmps := rfl
      rw [hw]
      split
      · rename_i hwt
        rw [if_pos hwt] at h
        rcases h with h | ⟨h1, a0, w0, h2⟩
        · exact Or.inl (upon_with (fun a w h => wpAny_with hQ f h) hQ h)
        · exact Or.inr ⟨h1, _, w0, hQ _ _ _ h2⟩
      · rename_i hwt
        rw [if_neg hwt] at h
        rw [← hp]
        exact wpAny_with hQ f h
theorem TQD.lift {Q : Exit → Act → World → Prop} {D : List Nat} {x : Exit} (h : TQD G n ρ L D x Q) : TQ G n ρ L x fun e a w => Q e (actW (D.map markD) a) w := ⟨fun a w he hw => h.out _ _ ⟨a, he, rfl⟩ hw⟩
theorem TQD_thenX {K : Act → World → Prop} {Q : Exit → Act → World → Prop} {D : List Nat} {x : Exit} (hx : x ≠ .normal) (h : TQD G n ρ L D x Q) : TQD G n ρ L D x (Exit.then K Q) := by
  cases x with
  | normal => exact absurd rfl hx
  | _ => exact ⟨fun a w he hw => h.out a w he hw⟩
theorem TQD_blockX {Q : Exit → Act → World → Prop} {D : List Nat} {x : Exit} {id : Nat} (hx : ∀ j, x = .exit j → j ≠ id) (h : TQD G n ρ L D x Q) : TQD G n ρ L D x (Exit.inBlock id Q) := by
  cases x with
  | exit j =>
    refine ⟨fun a w he hw => ?_⟩
    simp only [Exit.inBlock, hx j rfl, if_false]
    exact h.out a w he hw
  | _ => exact ⟨fun a w he hw => h.out a w he hw⟩
end
noncomputable def oneT {β : Type} (l : List Nat) (f : Nat → Option β) : Option β := match l with
  | [p] => f p
  | _ => none
theorem oneT_some {β : Type} {l : List Nat} {f : Nat → Option β} {r : β} (h : oneT l f = some r) : ∃ p, l = [p] ∧ f p = some r := by
  unfold oneT at h
  split at h
  · exact ⟨_, rfl, h⟩
  · cases h
noncomputable def leftE (s : Fr AV) (q : Option Exit × Mem) : Option R3 := Option.rec (some ⟨.normal, s, q.2⟩) (fun x => Exit.rec none (fun id => some ⟨.exit id, s, q.2⟩) (fun _ => none) (some ⟨.ret, s, q.2⟩) (fun _ => none) none x) q.1
noncomputable def codeD (P : Program) (E : FunE) (Z : Iter) (n : Nat) (c : Code) : Fr AV → Mem → Option R3 := Code.rec (motive := fun _ => Fr AV → Mem → Option R3)
  (fun s m => some ⟨.normal, s, m⟩)
  (fun _ ops draw s m => Fr.flushK s fun thr t => bo (Nat.ble thr 1000000) (ob (Bool.rec (listE P E ops n ops.toList (.base thr t) m) (drawE P E ops n (.base thr t) m) draw) fun r => some ⟨.normal, r.1, r.2⟩))
  (fun _ _ ia ib s m => ob (ia s m) fun r => Exit.rec (ib r.s r.m) (fun _ => some r) (fun _ => some r) (some r) (fun _ => some r) (some r) r.x)
  (fun c _ _ it ie s m => ob (opd s c) fun v => v.asBool fun b => Bool.rec (ie s m) (it s m) b)
  (fun id _ ih s m => ob (ih s m) fun r => Exit.rec (some r) (fun j => Bool.rec (some r) (some ⟨.normal, r.s, r.m⟩) (Nat.beq j id)) (fun _ => some r) (some r) (fun _ => some r) (some r) r.x)
  (fun _ _ _ _ => none)
  (fun g ps a b _ _ s m => Fr.flushK s fun thr t => bo (Nat.ble thr 1000000) (oneT ps.toList fun p => bo (Nat.blt p n) (ob (opd (.base thr t) g) fun v => ob (Z (roundE P E n (.base thr t) p a b) v m) fun q => leftE (.base thr t) q)))
  (fun id s m => some ⟨.exit id, s, m⟩)
  (fun _ _ _ _ => none)
  (fun _ _ _ => none)
  (fun _ _ _ => none)
  (fun s m => some ⟨.ret, s, m⟩)
  (fun _ _ _ => none) c
section
variable {P : Program} {G : World} {F : Fm} {E : FunE} {Z : Iter} {n : Nat}
def CodeDOk (P : Program) (G : World) (F : Fm) (n : Nat) (ev : Fr AV → Mem → Option R3) (c : Code) : Prop := ∀ {s : Fr AV} {m : Mem} {r : R3} {σ : Sg} {ρ : Slots} {L : Blocks} {D : List Nat} {Q : Exit → Act → World → Prop}, ev s m = some r → SlR σ s ρ → MemR σ m (F.more D) L → DOk F D →
    (∀ (σ' : Sg) (ρ' : Slots) (L' : Blocks) (D' : List Nat), σ.le σ' → SlR σ' r.s ρ' → MemR σ' r.m (F.more D') L' → DOk F D' → TQD G n ρ' L' D' r.x Q) → TD P G n ρ L D c Q
theorem rangeD_ok (hmix : P.follows .mixedOrders = true) (hE : FunOk P E) (hZ : IterOk P Z) {g : Operand} {ps : Array Tmp} {assign body : Code} : CodeDOk P G F n (codeD P E Z n (.rangeFunc g ps assign body)) (.rangeFunc g ps assign body) := by
  intro s m r σ ρ L D Q e hs hm hD hQ
  have e : Fr.flushK s (fun thr t => bo (Nat.ble thr 1000000) (oneT ps.toList fun p => bo (Nat.blt p n) (ob (opd (.base thr t) g) fun v => ob (Z (roundE P E n (.base thr t) p assign body) v m) fun q => leftE (.base thr t) q))) = some r := e
  rw [Fr.flushK_eq] at e
  obtain ⟨ht, e⟩ := bo_some e
  have hs := hs.flush (Nat.le_of_ble_eq_true ht)
  obtain ⟨s0, hs0⟩ : ∃ s0, s0 = Fr.base s.thr s.tree := ⟨_, rfl⟩
  rw [← hs0] at e hs
  obtain ⟨p, hps, e⟩ := oneT_some e
  obtain rfl : ps = #[p] := by
    obtain ⟨l⟩ := ps
    dsimp only at hps
    rw [hps]
  obtain ⟨hp, e⟩ := bo_some e
  obtain ⟨v, hv, e⟩ := ob_some e
  obtain ⟨⟨j, m1⟩, hz, e⟩ := ob_some e
  refine ⟨fun a w he hw => ?_⟩
  obtain ⟨a0, he0, rfl⟩ := he.ex
  obtain ⟨V, h1, h2⟩ := opd_den hs hv
  have hev : a0.eval g = V := he0.reads _ _ h1
  refine wpIn_wide.1 (wpIn_rangeFunc (n := 0) fun fn _ => ?_)
  let rc : Loop := { state := .ready, pending := none, fn, tmps := a0.tmps, params := #[p], assign, body, defers := w.heap.size }
  have hfr : ∀ q ∈ L, q.1 ≠ w.heap.size := fun q hq => Nat.ne_of_lt (hw.lt hq)
  have hm1 : MemR σ m (F.more (w.heap.size :: D)) ((w.heap.size, shutO) :: L) := hm.join hfr
  have hfr2 : ∀ q ∈ (w.heap.size, shutO) :: L, q.1 ≠ w.heap.size + 1 := fun q hq => by
    rcases List.mem_cons.1 hq with rfl | hq
    · show w.heap.size ≠ w.heap.size + 1
      omega
    · have := hw.lt hq
      omega
  have hm2 : MemR σ m ⟨(w.heap.size + 1, .loop rc) :: (F.more (w.heap.size :: D)).b, F.z, F.d⟩ ((w.heap.size + 1, .loop rc) :: (w.heap.size, shutO) :: L) := hm1.join hfr2
  have hw2 : Heap G ((w.alloc shutO).alloc (.loop rc)) ((w.heap.size + 1, .loop rc) :: (w.heap.size, shutO) :: L) := by
    have := (hw.alloc shutO).alloc (.loop rc)
    rw [World.size_alloc] at this
    exact this
  have hB : ∀ q ∈ (F.more (w.heap.size :: D)).b, q.1 ≠ w.heap.size + 1 := fun q hq => hfr2 q (hm1.frame q hq)
  have hD2 : DOk F (w.heap.size :: D) := by
    refine ⟨List.nodup_cons.2 ⟨fun hb => ?_, hD.nodup⟩, fun b hb q hq => ?_⟩
    · exact hfr _ (hm.frame (w.heap.size, shutO) (List.mem_append_left _ (List.mem_map.2 ⟨_, hb, rfl⟩))) rfl
    · rcases List.mem_cons.1 hb with rfl | hb
      · exact hfr q (hm.frame q (List.mem_append_right _ hq))
      · exact hD.apart b hb q hq
  have hrd : RoundOk P G σ (F.more (w.heap.size :: D)) (w.heap.size + 1) rc (roundE P E n s0 p assign body) := round_ok (G := G) (F := F.more (w.heap.size :: D)) hmix hE hs he0 (l := w.heap.size + 1) (p := p) (rc := rc) (assign := assign) (body := body) (by simpa using hp) hB rfl rfl rfl rfl rfl
  obtain ⟨f, Cap, rfl, hbody, hsp⟩ := hZ (G := G) hz rfl hrd h2 hm2
  have hres : (resolve (actW (D.map markD) a0).eval (rangeCall g (w.heap.size + 1)) 0).run P ((w.alloc shutO).alloc (.loop rc)) = .ok ⟨.fn (.func f) Cap, #[.func (.yield (w.heap.size + 1)) #[] #[]]⟩ ((w.alloc shutO).alloc (.loop rc)) := by
    have hev' : (actW (D.map markD) a0).eval g = .func (.func f) #[] Cap := hev
    have hc : ∀ v, (actW (D.map markD) a0).eval (.const v) = v := fun _ => rfl
    simp [resolve, hev', hc, Deferred.ofValue]
  have hinv : (invoke (.fn (.func f) Cap) #[.func (.yield (w.heap.size + 1)) #[] #[]]).run P ((w.alloc shutO).alloc (.loop rc)) = .ok (.enter f (#[.func (.yield (w.heap.size + 1)) #[] #[]] ++ Cap)) ((w.alloc shutO).alloc (.loop rc)) := by
    rw [show invoke (.fn (.func f) Cap) #[.func (.yield (w.heap.size + 1)) #[] #[]] = callFunc f (#[.func (.yield (w.heap.size + 1)) #[] #[]] ++ Cap) from by simp [invoke]]
    exact run_callFunc hbody ..
  refine ⟨w.heap.size + 1, [markD w.heap.size], _, _, _, f, _, _, run_enterLoop_outer fn a0.tmps #[p] assign body, hres, fun _ _ => trivial, hinv, (fun h => by cases h), ?_⟩
  refine callsIn_wide.2 (Calls.mono (hsp.out _ hw2) fun e' w' hh => ?_)
  obtain ⟨u, M, rfl, ⟨σ2, k1, k2⟩, k3⟩ := hh
  have hmem := k2.frame _ (List.mem_cons_self ..)
  obtain ⟨R, q1, q2, q3⟩ := put_block k3 hmem
  have hnb : (afterL rc j).state ≠ .busy := by cases j <;> simp [afterL, rc]
  refine ⟨_, _, run_endLoop (k3.get _ hmem) hnb, ?_⟩
  have hx : ∀ x, leftE s0 (j, m1) = some ⟨x, s0, m1⟩ → r = ⟨x, s0, m1⟩ → Q x { actW (D.map markD) a0 with defers := [markD w.heap.size] ++ (actW (D.map markD) a0).defers } (w'.putObj (w.heap.size + 1) (.loop { afterL rc j with state := .exhausted })) := fun x _ hr => by
    subst hr
    refine (hQ σ2 ρ R (w.heap.size :: D) k1 (hs.mono k1) (k2.cut q1 hB) hD2).out _ _ ⟨a0, he0, ?_⟩ (q2 _).tail
    unfold actW
    rw [he0.defers]
    rfl
  cases j with
  | none =>
    have e' : some (⟨.normal, s0, m1⟩ : R3) = some r := e
    cases e'
    exact hx .normal rfl rfl
  | some x =>
    cases x with
    | ret =>
      have e' : some (⟨.ret, s0, m1⟩ : R3) = some r := e
      cases e'
      exact wpIn_ret (hx .ret rfl rfl)
    | exit id =>
      have e' : some (⟨.exit id, s0, m1⟩ : R3) = some r := e
      cases e'
      exact wpIn_exit (hx (.exit id) rfl rfl)
    | _ => cases e
theorem codeD_ok (hmix : P.follows .mixedOrders = true) (hE : FunOk P E) (hZ : IterOk P Z) : ∀ c : Code, CodeDOk P G F n (codeD P E Z n c) c := by
  intro c
  induction c with
  | skip =>
    intro s m r σ ρ L D Q e hs hm hD hQ
    cases e
    exact ⟨fun a w he hw => wp_skip ((hQ σ ρ L D σ.le_refl hs hm hD).out a w he hw)⟩
  | region id ops draw =>
    intro s m r σ ρ L D Q e hs hm hD hQ
    have e : Fr.flushK s (fun thr t => bo (Nat.ble thr 1000000) (ob (Bool.rec (listE P E ops n ops.toList (.base thr t) m) (drawE P E ops n (.base thr t) m) draw) fun r => some ⟨.normal, r.1, r.2⟩)) = some r := e
    rw [Fr.flushK_eq] at e
    obtain ⟨ht, e⟩ := bo_some e
    obtain ⟨⟨s1, m1⟩, e1, e⟩ := ob_some e
    cases e
    have hs := hs.flush (Nat.le_of_ble_eq_true ht)
    refine ⟨fun a w he hw => ?_⟩
    obtain ⟨a0, he0, rfl⟩ := he.ex
    cases draw with
    | true => exact wp_region_any hmix (wpAny_with (fun e a w h => h) _ ((draw_te hE e1 hs hm fun σ' ρ' L' h1 h2 h3 => (hQ σ' ρ' L' D h1 h2 h3 hD).lift).sound _ _ _ _ a0 _ he0 (hw.same ⟨rfl, rfl, rfl, Nat.le_refl _⟩ rfl)))
    | false =>
      obtain ⟨l⟩ := ops
      exact wp_region_lit (wpList_with (fun e a w h => h) l a0 w ((listE_ok hE l e1 hs hm fun σ' ρ' L' h1 h2 h3 => (hQ σ' ρ' L' D h1 h2 h3 hD).lift).out a0 w he0 hw))
  | seq a b iha ihb =>
    intro s m r σ ρ L D Q e hs hm hD hQ
    obtain ⟨⟨x, s1, m1⟩, e1, e⟩ := ob_some (show ob (codeD P E Z n a s m) (fun r => Exit.rec (codeD P E Z n b r.s r.m) (fun _ => some r) (fun _ => some r) (some r) (fun _ => some r) (some r) r.x) = some r from e)
    refine ⟨fun A w he hw => wp_seq ((iha (Q := Exit.then (b.wp P Q) Q) e1 hs hm hD fun σ' ρ' L' D' h1 h2 h3 h4 => ?_).out A w he hw)⟩
    cases x with
    | normal => exact ⟨fun A w he hw => (ihb e h2 h3 h4 fun σ'' ρ'' L'' D'' q1 q2 q3 q4 => hQ σ'' ρ'' L'' D'' (Sg.le_trans h1 q1) q2 q3 q4).out A w he hw⟩
    | _ => cases e; exact TQD_thenX (by simp) (hQ σ' ρ' L' D' h1 h2 h3 h4)
  | cond c a b iha ihb =>
    intro s m r σ ρ L D Q e hs hm hD hQ
    obtain ⟨v, e1, e⟩ := ob_some (show ob (opd s c) (fun v => v.asBool fun b' => Bool.rec (codeD P E Z n b s m) (codeD P E Z n a s m) b') = some r from e)
    obtain ⟨t, rfl, e'⟩ := asBool_some e
    obtain ⟨V, h1, h2⟩ := opd_den hs e1
    obtain rfl : V = .bool t := by simpa [Den] using h2
    refine ⟨fun A w he hw => ?_⟩
    obtain ⟨a0, he0, ha⟩ := he.ex
    have hc : A.eval c = .bool t := by rw [ha]; exact he0.reads c _ h1
    cases t with
    | true => exact wp_cond_true hc ((iha e' hs hm hD hQ).out A w he hw)
    | false => exact wp_cond_false hc ((ihb e' hs hm hD hQ).out A w he hw)
  | block id c ih =>
    intro s m r σ ρ L D Q e hs hm hD hQ
    obtain ⟨⟨x, s1, m1⟩, e1, e⟩ := ob_some (show ob (codeD P E Z n c s m) (fun r => Exit.rec (some r) (fun j => Bool.rec (some r) (some ⟨.normal, r.s, r.m⟩) (Nat.beq j id)) (fun _ => some r) (some r) (fun _ => some r) (some r) r.x) = some r from e)
    refine ⟨fun A w he hw => wp_block ((ih (Q := Exit.inBlock id Q) e1 hs hm hD fun σ' ρ' L' D' h1 h2 h3 h4 => ?_).out A w he hw)⟩
    cases x with
    | exit j =>
      have e : (Bool.rec (some ⟨.exit j, s1, m1⟩) (some ⟨.normal, s1, m1⟩) (Nat.beq j id) : Option R3) = some r := e
      by_cases c : j = id
      · rw [bqT c] at e
        cases e
        subst c
        refine ⟨fun a w he hw => ?_⟩
        simp only [Exit.inBlock, if_true]
        exact (hQ σ' ρ' L' D' h1 h2 h3 h4).out a w he hw
      · rw [bqF c] at e
        cases e
        exact TQD_blockX (fun i hi => by cases hi; exact c) (hQ σ' ρ' L' D' h1 h2 h3 h4)
    | _ => cases e; exact TQD_blockX (by simp) (hQ σ' ρ' L' D' h1 h2 h3 h4)
  | rangeFunc f ps a b iha ihb => exact rangeD_ok hmix hE hZ
  | exit id =>
    intro s m r σ ρ L D Q e hs hm hD hQ
    cases e
    exact ⟨fun a w he hw => wp_exit ((hQ σ ρ L D σ.le_refl hs hm hD).out a w he hw)⟩
  | ret =>
    intro s m r σ ρ L D Q e hs hm hD hQ
    cases e
    exact ⟨fun a w he hw => wp_ret ((hQ σ ρ L D σ.le_refl hs hm hD).out a w he hw)⟩
  | _ =>
    intro s m r σ ρ L D Q e hs hm hD hQ
    cases e
theorem leaves_marks {fn : Func} {tmps : Array Value} {Φ : Ending → World → Prop} {σ : Sg} {m : Mem} (fin : ∀ (L : Blocks) (w : World), MemR σ m F L → Heap G w L → LeavesIn Fence.wide 0 P fn tmps Φ [] .returning w) : ∀ (D : List Nat) {L : Blocks} {w : World}, DOk F D → MemR σ m (F.more D) L → Heap G w L → LeavesInM Fence.wide 0 P fn tmps Φ (D.map markD) .returning w
  | [], L, w, hD, hm, hw => fin L w hm hw
  | b :: D, L, w, hD, hm, hw => by
    have hmem : (b, shutO) ∈ L := hm.frame _ (List.mem_cons_self ..)
    obtain ⟨R, q1, q2, q3⟩ := put_block hw hmem
    obtain ⟨h1, h2⟩ := List.nodup_cons.1 hD.nodup
    refine ⟨by simp, Or.inl ⟨b, _, rfl, run_takeDeferred (hw.get _ hmem), leaves_marks fin D ⟨h2, fun b' hb' => hD.apart b' (List.mem_cons_of_mem _ hb')⟩ (hm.cut q1 fun q hq => ?_) (q2 _).tail⟩⟩
    rcases List.mem_append.1 hq with hq | hq
    · obtain ⟨b', hb', rfl⟩ := List.mem_map.1 hq
      exact fun hh => h1 (by have hh : b' = b := hh; rw [← hh]; exact hb')
    · exact hD.apart b (List.mem_cons_self ..) q hq
end
/-- A function of such code. -/
noncomputable def markF (P : Program) (H : Nat → Nat) (Z : FunE → Iter) (i : Nat) (E : FunE) (args : List AV) (m : Mem) : Option (AV × Mem) := stepC P H (fun n c => codeD P E (Z E) n c) i args m
theorem markF_ok {P : Program} {H : Nat → Nat} {Z : FunE → Iter} {E : FunE} (hmix : P.follows .mixedOrders = true) (hE : FunOk P E) (hZ : IterOk P (Z E)) {G : World} {i : Nat} {args : List AV} {m : Mem} {v : AV} {m' : Mem} {σ : Sg} {As : List Value} {F : Fm} {L : Blocks} (e : markF P H Z i E args m = some (v, m')) (hA : DenL σ args As) (hm : MemR σ m F L) : Spec P G i As.toArray L (Post σ v m' F) := by
  obtain ⟨fn, hf, e⟩ := ob_some e
  obtain ⟨c, hb, e⟩ := ob_some e
  obtain ⟨hn, e⟩ := bo_some e
  obtain ⟨⟨x, s1, m1⟩, e1, e⟩ := ob_some e
  obtain ⟨ρ', q1, q2⟩ := argF_ok (k := 0) (s := Fr.base (H i) .leaf) (ρ := []) hA (SlR.leaf hm.glb) (fun t _ => rfl)
  have hlen : As.length ≤ fn.ntmps := by rw [hA.length, ← lenN_eq]; exact Nat.le_of_ble_eq_true hn
  have he0 : Env fn.ntmps ρ' { tmps := As.toArray ++ Array.replicate (fn.ntmps - As.toArray.size) undef, defers := [] } := (env_args hlen).weak fun t u h => by
    rcases q2 t u h with h | h
    · exact h
    · cases h
  refine ⟨fun w hw => (callsIn_wide (n := 0)).1 (callsIn_of_wp_marks hf hb trivial (wpIn_wide.2 ?_))⟩
  refine (codeD_ok (F := F) (D := []) hmix hE hZ c e1 q1 hm ⟨List.nodup_nil, fun b hb => by cases hb⟩ fun σ' ρ'' L' D' h1 h2 h3 h4 => ?_).out _ w ⟨_, he0, rfl⟩ hw
  have fin : ∀ vs, resE P s1 m1 fn.results.toList = some vs → some (oneOf vs, m1) = some (v, m') → ∀ a w, EnvD fn.ntmps ρ'' D' a → Heap G w L' → LeavesInM Fence.wide 0 P fn a.tmps (RetPost G (Post σ v m' F)) a.defers .returning w := fun vs hv he a w hea hw => by
    cases he
    obtain ⟨a0, he0, rfl⟩ := hea.ex
    have hd : (actW (D'.map markD) a0).defers = D'.map markD := by
      unfold actW
      rw [he0.defers]
      rfl
    rw [hd]
    refine leaves_marks (fun L2 w2 k1 k2 => ?_) D' h4 h3 hw
    obtain ⟨V, c1, c2⟩ := results_run (P := P) h2 k1 he0 hv
    exact ⟨V, c2 w2 k2.has, V, L2, rfl, ⟨σ', h1, c1, k1⟩, k2⟩
  cases x with
  | normal =>
    obtain ⟨vs, hv, e⟩ := ob_some e
    exact ⟨fun a w he hw => fin vs hv e a w he hw⟩
  | ret =>
    obtain ⟨vs, hv, e⟩ := ob_some e
    exact ⟨fun a w he hw => fin vs hv e a w he hw⟩
  | _ => cases e
end Go.Proofs.YtlicehodjhoamaaGreatDoor.Ev
namespace Go.Proofs.YtlicehodjhoamaaGreatDoor.Ev
open Go
set_option linter.unusedVariables false
set_option linter.unusedSimpArgs false
set_option maxRecDepth 100000
/-! ### a call of yield -/
structure TLI (P : Program) (G : World) (ops : Array Oper) (n : Nat) (ρ : Slots) (L : Blocks) (l : List Oper) (Q : Exit → Act → World → Prop) : Prop where
  out : ∀ a w, Env n ρ a → Heap G w L → wpListIn Fence.wide 0 P ops Q l a w
section
variable {P : Program} {G : World} {n : Nat} {ρ : Slots} {L : Blocks} {ops : Array Oper} {Q : Exit → Act → World → Prop}
theorem TI_region {id : Nat} {l : List Oper} (h : TLI P G l.toArray n ρ L l Q) : T P G n ρ L (.region id l.toArray false) Q := ⟨fun a w he hw => wpIn_wide.1 (wpIn_region_lit (h.out a w he hw))⟩
theorem TLI_nil (h : TQ G n ρ L .normal Q) : TLI P G ops n ρ L [] Q := ⟨fun a w he hw => wpListIn_nil (h.out a w he hw)⟩
theorem TLI_q {d : Nat} {op : Op} {ty : TypeId} {pos : String} {after : Array Edge} {rest : List Oper} {v : Value} (h : OpQ P ρ L op ty v) (hp : ∀ c, op ≠ .defer c) (hd : Nat.blt d n = true) (hr : TLI P G ops n ((d, v) :: ρ) L rest Q) : TLI P G ops n ρ L (⟨some d, op, ty, pos, after, none⟩ :: rest) Q :=
  ⟨fun a w he hw => wpListIn_plain rfl fun K hK => wide_wide.oper (by
    unfold plainOp
    cases op <;> first | rfl | exact absurd rfl (hp _)) (OpT.wp (o := ⟨some d, op, ty, pos, after, none⟩) (Φ := fun u M => u = v ∧ M = L) h.v he hw fun u L' w' h1 h2 => by
      obtain ⟨rfl, rfl⟩ := h1
      exact hK _ _ (hr.out _ _ (he.put d (by simpa using hd) u) h2))⟩
theorem TLI_yield {d t l : Nat} {x : Operand} {ats : Array TypeId} {ty : TypeId} {pos : String} {after : Array Edge} {rest : List Oper} {V : Value} {rc : Loop} {Φ : Value → Blocks → Prop} (ht : ρ.lookup t = some (.func (.yield l) #[] #[])) (hx : ev ρ x = some V) (hl : (l, Obj.loop rc) ∈ L) (hs : rc.params.size = 1) (hd : Nat.blt d n = true)
    (h : ∀ w, Heap G w L → RoundIn Fence.wide 0 P l rc.fn ((rc.params.zip #[V]).foldl (fun tmps (t, a) => tmps.setIfInBounds t a) rc.tmps) rc.assign rc.body w (RetPost G Φ))
    (hr : ∀ v L', Φ v L' → TLI P G ops n ((d, v) :: ρ) L' rest Q) : TLI P G ops n ρ L (⟨some d, .call ⟨.value (.tmp t), #[x], ats⟩, ty, pos, after, none⟩ :: rest) Q :=
  ⟨fun a w he hw => wpListIn_plain rfl fun K hK => by
    refine ⟨fun _ _ => trivial, ?_⟩
    have hft : a.eval (.tmp t) = .func (.yield l) #[] #[] := he.reads _ _ ht
    have hfx := he.reads _ _ hx
    have hrun : ((⟨some d, .call ⟨.value (.tmp t), #[x], ats⟩, ty, pos, after, none⟩ : Oper).semAt Fence.wide.round a.eval).run P w = .ok (.round l rc.fn ((rc.params.zip #[V]).foldl (fun tmps (t, a) => tmps.setIfInBounds t a) rc.tmps) rc.assign rc.body) w := by
      rw [← run_yield (P := P) (args := #[V]) (hw.get _ hl) (by rw [hs]; rfl)]
      show (execOp a.eval (⟨some d, .call ⟨.value (.tmp t), #[x], ats⟩, ty, pos, after, none⟩ : Oper)).run P w = _
      simp [execOp, resolve, hft, hfx, Deferred.ofValue, invoke]
    rw [hrun, Oper.uponIn_round]
    refine ⟨fun h => (by cases h), (h w hw).mono fun e w' hh => ?_⟩
    obtain ⟨v, L', rfl, h1, h2⟩ := hh
    exact hK _ _ ((hr v L' h1).out _ _ (he.put d (by simpa using hd) v) h2)⟩
end
/-! ### the lines -/
noncomputable def strK {β : Type} (v : AV) (f : List Nat → Option β) : Option β := match v with
  | .str l => f l
  | _ => none
theorem strK_some {β : Type} {v : AV} {f : List Nat → Option β} {r : β} (h : strK v f = some r) : ∃ l, v = .str l ∧ f l = some r := by
  unfold strK at h
  split at h
  · exact ⟨_, rfl, h⟩
  · cases h
noncomputable def cutK {β : Type} (v : AV) (f : List Nat → Bool → Option β) : Option β := match v with
  | .tup [.str t, .str _, .bool b] => f t b
  | _ => none
theorem cutK_some {β : Type} {v : AV} {f : List Nat → Bool → Option β} {r : β} (h : cutK v f = some r) : ∃ t u b, v = .tup [.str t, .str u, .bool b] ∧ f t b = some r := by
  unfold cutK at h
  split at h
  · exact ⟨_, _, _, rfl, h⟩
  · cases h
noncomputable def linesE (P : Program) (E : FunE) (cut ts i o : Nat) (R : Rnd) (k : Nat) : Nat → Mem → Option (Option Exit × Mem) := Nat.rec (fun _ _ => none) (fun _ ih at_ m => ob (ldA P m ts i o) fun v => strK v fun l => bo (Nat.ble (lenN l) 1000000)
  (Bool.rec (some (none, m)) (ob (E cut [.str (drop l at_), .str [10]] m) fun r => cutK r.1 fun text b => ob (R (.agg [.int .i64 (Int.ofNat at_), .str text, .bool b]) r.2) fun q => Option.rec (bo (Nat.ble (lenN text) 1000000) (ih (at_ + (lenN text + 1)) q.2)) (fun x => some (some x, q.2)) q.1) (Nat.blt at_ (lenN l)))) k
noncomputable def linesZ (P : Program) (E : FunE) (fl cut ts k : Nat) : Iter := fun R v m => match v with
  | .fn f [.ptr i o] => bo (Nat.beq f fl) (linesE P E cut ts i o R k 0 m)
  | _ => none
section
variable {P : Program} {G : World} {n : Nat} {Q : Exit → Act → World → Prop} {F : Fm} {E : FunE}
theorem lines_rounds {i1 i2 i3 i4 b0 b1 ts ti tr cut : Nat} (hu : P.underlying ts = some .string) (hcut : hasBody P cut = true)
    (hbuild : ∀ (x : Int) (s : ByteArray) (b : Bool), Built P tr [(0, .int .i64 x), (1, .string s), (2, .bool b)] (.agg #[.int .i64 x, .string s, .bool b]))
    {p1 p2 p3 p4 p5 p6 p7 p8 p9 p10 p11 p12 p13 p14 p15 p16 p17 p18 p19 p20 p21 p22 p23 p24 p25 p26 p27 p28 : String} {a1 a2 a3 a4 a5 a6 a7 a8 a9 a10 a11 a12 a13 a14 a15 a16 a17 a18 a19 a20 a21 a22 a23 a24 a25 a26 a27 a28 : Array Edge} {y1 y2 y3 y4 y5 y6 y7 y8 y9 y10 y11 y12 y13 y14 y15 y16 y17 y18 y19 y20 y21 y22 y23 y24 y25 y26 y27 y28 u1 u2 u3 u4 u5 : Nat} {ats1 ats2 : Array TypeId}
    (hE : FunOk P E) {σ0 : Sg} {l : Nat} {rc : Loop} {R : Rnd} (hrd : RoundOk P G σ0 F l rc R) (hps : rc.params.size = 1) {i o : Nat} {y : Nat × Nat} {j : Option Exit} {m' : Mem}
    (hQ : ∀ (x : Exit) (ρ : Slots) (M : Blocks), x = .exit b0 ∨ x = .ret → (∃ σ2, σ0.le σ2 ∧ MemR σ2 m' ⟨(l, .loop (afterL rc j)) :: F.b, F.z, F.d⟩ M) → TQ G 31 ρ M x Q) :
    ∀ (k at_ : Nat) {m : Mem} {σ : Sg} {ρ : Slots} {L : Blocks}, linesE P E cut ts i o R k at_ m = some (j, m') → σ0.le σ → σ i = some y → MemR σ m ⟨(l, .loop rc) :: F.b, F.z, F.d⟩ L →
      ρ.lookup 0 = some (.func (.yield l) #[] #[]) → ρ.lookup 1 = some (.pointer (some ⟨y.1, o, none⟩)) → ρ.lookup 3 = some (.int .i64 (Int.ofNat at_)) → ∀ a w, Env 31 ρ a → Heap G w L →
      Code.rounds P (.seq (.seq (.region i1 #[⟨some 7, .move (.tmp 3), y1, p1, a1, none⟩, ⟨some 8, .load ts (.tmp 1), y2, p2, a2, none⟩, ⟨some 9, .call ⟨.builtin .len, #[.tmp 8], #[ts]⟩, y3, p3, a3, none⟩, ⟨some 10, .binOp .lss u1 (.tmp 7) (.tmp 9) u2, y4, p4, a4, none⟩] false) (.cond (.tmp 10) .skip (.exit b0)))
        (.block b1 (.seq (.region i2 #[⟨some 12, .load ts (.tmp 1), y5, p5, a5, none⟩, ⟨some 13, .move (.tmp 3), y6, p6, a6, none⟩, ⟨some 14, .slice ts (.tmp 12) (some (.tmp 13)) none none, y7, p7, a7, none⟩, ⟨some 15, .call ⟨.value (.func cut), #[.tmp 14, .const (.string (bsN [10]))], ats1⟩, y8, p8, a8, none⟩, ⟨some 11, .move (.tmp 15), y9, p9, a9, none⟩, ⟨some 16, .extract (.tmp 11) 0, y10, p10, a10, none⟩, ⟨some 17, .extract (.tmp 11) 1, y11, p11, a11, none⟩, ⟨some 18, .extract (.tmp 11) 2, y12, p12, a12, none⟩, ⟨some 4, .assign (.tmp 16), y13, p13, a13, none⟩, ⟨some 5, .assign (.tmp 17), y14, p14, a14, none⟩, ⟨some 6, .assign (.tmp 18), y15, p15, a15, none⟩] false)
          (.seq (.seq (.region i3 #[⟨some 19, .move (.tmp 0), y16, p16, a16, none⟩, ⟨some 20, .move (.tmp 3), y17, p17, a17, none⟩, ⟨some 21, .move (.tmp 4), y18, p18, a18, none⟩, ⟨some 22, .move (.tmp 6), y19, p19, a19, none⟩, ⟨some 23, .build tr #[(0, .tmp 20), (1, .tmp 21), (2, .tmp 22)], y20, p20, a20, none⟩, ⟨some 24, .call ⟨.value (.tmp 19), #[.tmp 23], ats2⟩, y21, p21, a21, none⟩, ⟨some 25, .unOp .not u3 (.tmp 24), y22, p22, a22, none⟩] false) (.cond (.tmp 25) .ret .skip))
            (.region i4 #[⟨some 26, .move (.tmp 3), y23, p23, a23, none⟩, ⟨some 27, .move (.tmp 4), y24, p24, a24, none⟩, ⟨some 28, .call ⟨.builtin .len, #[.tmp 27], #[ts]⟩, y25, p25, a25, none⟩, ⟨some 29, .binOp .add ti (.tmp 28) (.const (.int .i64 1)) u4, y26, p26, a26, none⟩, ⟨some 30, .binOp .add ti (.tmp 26) (.tmp 29) u5, y27, p27, a27, none⟩, ⟨some 3, .assign (.tmp 30), y28, p28, a28, none⟩] false))))) Q k a w
  | 0, at_, m, σ, ρ, L, e, _, _, _, _, _, _ => by cases e
  | k + 1, at_, m, σ, ρ, L, e, hle, hi, hm, r0, r1, r3 => by
    intro a w he hw
    rw [rounds_succ]
    refine (show T P G 31 ρ L _ _ from ?_).out a w he hw
    clear he hw a w
    obtain ⟨v, e1, e⟩ := ob_some (show ob (ldA P m ts i o) (fun v => strK v fun l => bo (Nat.ble (lenN l) 1000000)
      (Bool.rec (some (none, m)) (ob (E cut [.str (drop l at_), .str [10]] m) fun r => cutK r.1 fun text b => ob (R (.agg [.int .i64 (Int.ofNat at_), .str text, .bool b]) r.2) fun q => Option.rec (bo (Nat.ble (lenN text) 1000000) (linesE P E cut ts i o R k (at_ + (lenN text + 1)) q.2)) (fun x => some (some x, q.2)) q.1) (Nat.blt at_ (lenN l)) : Option (Option Exit × Mem))) = some (j, m') from e)
    obtain ⟨S, rfl, e⟩ := strK_some e
    obtain ⟨hsz, e⟩ := bo_some e
    have hsz : S.length ≤ 1000000 := by rw [← lenN_eq]; exact Nat.le_of_ble_eq_true hsz
    obtain ⟨V1, o1, d1⟩ := ldA_den (P := P) (ρ := (7, Value.int .i64 (Int.ofNat at_)) :: ρ) (ty := y2) (x := .tmp 1) hm.get r1 hi e1
    simp only [Den] at d1
    obtain ⟨hS, rfl⟩ := d1
    refine T_seq (T_seq (T_region (TL_q (op_move r3) rfl (TL_q o1 rfl (TL_q (op_len_str (s := S.map UInt8.ofNat) rfl hu) rfl (TL_q (op_bin (a := .int .i64 (Int.ofNat at_)) (b := .int .i64 (S.map UInt8.ofNat).length) rfl rfl bin_lss) rfl (TL_nil (TQ_then ?_))))))))
    rw [List.length_map]
    cases hlt : Nat.blt at_ (lenN S) with
    | false =>
      rw [hlt] at e
      have e : some (none, m) = some (j, m') := e
      cases e
      have hd : decide (Int.ofNat at_ < (S.length : Int)) = false := by
        have : ¬ at_ < S.length := fun h => by
          rw [← lenN_eq] at h
          rw [Eq.mpr Nat.blt_eq h] at hlt
          cases hlt
        simpa using this
      rw [hd]
      exact T_false rfl (T_exit (TQ_then_exit (TQ_then_exit (hQ _ _ _ (Or.inl rfl) ⟨σ, hle, hm⟩))))
    | true =>
      rw [hlt] at e
      obtain ⟨⟨cv, m1⟩, e2, e⟩ := ob_some (show ob (E cut [.str (drop S at_), .str [10]] m) (fun r => cutK r.1 fun text b => ob (R (.agg [.int .i64 (Int.ofNat at_), .str text, .bool b]) r.2) fun q => Option.rec (bo (Nat.ble (lenN text) 1000000) (linesE P E cut ts i o R k (at_ + (lenN text + 1)) q.2)) (fun x => some (some x, q.2)) q.1) = some (j, m') from e)
      obtain ⟨text, tail, b, rfl, e⟩ := cutK_some e
      obtain ⟨⟨q, m2⟩, e3, e⟩ := ob_some e
      have hat : at_ < S.length := by rw [← lenN_eq]; exact Eq.mp Nat.blt_eq hlt
      have hd : decide (Int.ofNat at_ < (S.length : Int)) = true := by simpa using hat
      rw [hd]
      refine T_true rfl (T_skip (TQ_then (T_block ?_)))
      have hslice : bs ((S.map UInt8.ofNat).drop (Int.ofNat at_).toNat) = bsN (drop S at_) := by
        rw [drop_eq]
        unfold bsN
        rw [List.map_drop]
        rfl
      have hA : DenL σ [.str (drop S at_), .str [10]] [.string (bsN (drop S at_)), .string (bsN [10])] := by
        refine .cons ?_ (.cons ?_ .nil)
        · simp only [Den]
          exact ⟨fun b hb => hS b (by rw [drop_eq] at hb; exact List.mem_of_mem_drop hb), trivial⟩
        · simp [Den]
      have hsp := hE (G := G) e2 hA hm
      have hlen : (S.map UInt8.ofNat).length = S.length := List.length_map ..
      obtain ⟨V2, o2, d2⟩ := ldA_den (P := P) (ρ := (10, Value.bool true) :: (9, Value.int .i64 S.length) :: (8, Value.string (bsN S)) :: (7, Value.int .i64 (Int.ofNat at_)) :: ρ) (ty := y5) (x := .tmp 1) hm.get r1 hi e1
      simp only [Den] at d2
      obtain ⟨_, rfl⟩ := d2
      refine T_seq (T_region (TL_q o2 rfl (TL_q (op_move r3) rfl (TL_q (op_slice_from (s := S.map UInt8.ofNat) (k := .i64) (i := Int.ofNat at_) rfl rfl hu (by simp) (by rw [hlen]; exact Int.ofNat_le.2 (Nat.le_of_lt hat))) rfl (TL_opT (op_call hcut (vs := [.string (bsN (drop S at_)), .string (bsN [10])]) (by rw [hslice]; rfl) hsp) rfl ?_)))))
      rintro V M1 ⟨σ1, k1, k2, k3⟩
      simp only [Den] at k2
      obtain ⟨Vs, hVs, rfl⟩ := k2
      obtain ⟨A, _, rfl, c1, hVs⟩ := hVs.inv
      obtain ⟨B, _, rfl, c2, hVs⟩ := hVs.inv
      obtain ⟨C, _, rfl, c3, hVs⟩ := hVs.inv
      obtain rfl := hVs.inv0
      simp only [Den] at c1 c2 c3
      obtain ⟨hT, rfl⟩ := c1
      obtain ⟨_, rfl⟩ := c2
      subst c3
      refine TL_q (op_move rfl) rfl (TL_q (op_extract (i := 0) (v := .string (bsN text)) rfl rfl) rfl (TL_q (op_extract (i := 1) (v := .string (bsN tail)) rfl rfl) rfl (TL_q (op_extract (i := 2) (v := .bool b) rfl rfl) rfl (TL_q (op_assign rfl) rfl (TL_q (op_assign rfl) rfl (TL_q (op_assign rfl) rfl (TL_nil (TQ_then ?_))))))))
      have hv : Den σ1 (.agg [.int .i64 (Int.ofNat at_), .str text, .bool b]) (.agg #[.int .i64 (Int.ofNat at_), .string (bsN text), .bool b]) := by
        simp only [Den]
        refine ⟨[.int .i64 (Int.ofNat at_), .string (bsN text), .bool b], .cons (by simp [Den]) (.cons ?_ (.cons (by simp [Den]) .nil)), rfl⟩
        simp only [Den]
        exact ⟨hT, trivial⟩
      have hle1 := Sg.le_trans hle k1
      refine T_seq (T_seq (TI_region (TLI_q (op_move (v := .func (.yield l) #[] #[]) r0) (by simp) rfl (TLI_q (op_move (v := .int .i64 (Int.ofNat at_)) r3) (by simp) rfl (TLI_q (op_move (v := .string (bsN text)) rfl) (by simp) rfl (TLI_q (op_move (v := .bool b) rfl) (by simp) rfl (TLI_q (op_build (ps := [(0, .tmp 20), (1, .tmp 21), (2, .tmp 22)]) rfl (hbuild _ _ _)) (by simp) rfl (TLI_yield (l := l) (rc := rc) rfl rfl (k3.frame _ (List.mem_cons_self ..)) hps rfl (hrd e3 hle1 hv k3) ?_))))))))
      rintro u M2 ⟨rfl, σ2, g1, g2⟩
      have hle2 := Sg.le_trans hle1 g1
      refine TLI_q (op_not (b := q.isNone) rfl) (by simp) rfl (TLI_nil (TQ_then ?_))
      cases q with
      | some x =>
        have e : some (some x, m2) = some (j, m') := e
        cases e
        exact T_true rfl (T_ret (TQ_then_ret (TQ_block_ret (TQ_then_ret (hQ _ _ _ (Or.inr rfl) ⟨σ2, hle2, g2⟩)))))
      | none =>
        obtain ⟨hts, e⟩ := bo_some (show bo (Nat.ble (lenN text) 1000000) (linesE P E cut ts i o R k (at_ + (lenN text + 1)) m2) = some (j, m') from e)
        have hts : text.length ≤ 1000000 := by rw [← lenN_eq]; exact Nat.le_of_ble_eq_true hts
        refine T_false rfl (T_skip (TQ_then ?_))
        refine T_region (TL_q (op_move (v := .int .i64 (Int.ofNat at_)) r3) rfl (TL_q (op_move (v := .string (bsN text)) rfl) rfl (TL_q (op_len_str (s := text.map UInt8.ofNat) rfl hu) rfl (TL_q (op_bin (a := .int .i64 (text.map UInt8.ofNat).length) (b := .int .i64 1) rfl rfl (bin_add ?_)) rfl (TL_q (op_bin (a := .int .i64 (Int.ofNat at_)) (b := .int .i64 ((text.map UInt8.ofNat).length + 1)) rfl rfl (bin_add ?_)) rfl (TL_q (op_assign rfl) rfl (TL_nil ?_)))))))
        · rw [List.length_map]
          constructor <;> omega
        · rw [List.length_map]
          have : Int.ofNat at_ = (at_ : Int) := rfl
          rw [this]
          constructor <;> omega
        · refine TQ_block ⟨fun a w he hw => lines_rounds hu hcut hbuild hE hrd hps hQ k (at_ + (lenN text + 1)) e hle2 (g1 _ _ (k1 _ _ hi)) g2 (by exact r0) (by exact r1) ?_ a w he hw⟩
          show some (Value.int .i64 (Int.ofNat at_ + (((text.map UInt8.ofNat).length : Int) + 1))) = _
          rw [lenN_eq, List.length_map]
          rfl
theorem linesZ_ok (hE : FunOk P E) {fl cut ts k i0 b0 y0 : Nat} {p0 : String} {a0 : Array Edge} {fn : Func} {body : Code} (hf : P.funcs[fl]? = some fn) (hbf : hasBody P fl = true) (hb : fn.body = some (.seq (.region i0 #[⟨some 3, .assign (.const (.int .i64 0)), y0, p0, a0, none⟩] false) (.block b0 (.loop body)))) (hn : fn.ntmps = 31) (hres : fn.results = #[])
    (hround : ∀ {G : World} {F : Fm} {Q : Exit → Act → World → Prop} {σ0 : Sg} {l : Nat} {rc : Loop} {R : Rnd} {i o : Nat} {y : Nat × Nat} {j : Option Exit} {m' : Mem}, RoundOk P G σ0 F l rc R → rc.params.size = 1 →
      (∀ (x : Exit) (ρ : Slots) (M : Blocks), x = .exit b0 ∨ x = .ret → (∃ σ2, σ0.le σ2 ∧ MemR σ2 m' ⟨(l, .loop (afterL rc j)) :: F.b, F.z, F.d⟩ M) → TQ G 31 ρ M x Q) →
      ∀ (k at_ : Nat) {m : Mem} {σ : Sg} {ρ : Slots} {L : Blocks}, linesE P E cut ts i o R k at_ m = some (j, m') → σ0.le σ → σ i = some y → MemR σ m ⟨(l, .loop rc) :: F.b, F.z, F.d⟩ L →
        ρ.lookup 0 = some (.func (.yield l) #[] #[]) → ρ.lookup 1 = some (.pointer (some ⟨y.1, o, none⟩)) → ρ.lookup 3 = some (.int .i64 (Int.ofNat at_)) → ∀ a w, Env 31 ρ a → Heap G w L → Code.rounds P body Q k a w) :
    IterOk P (linesZ P E fl cut ts k) := by
  intro G σ F l rc R v V j m m' L e hps hrd hv hm
  unfold linesZ at e
  split at e
  · rename_i f i o
    obtain ⟨hfl, e9⟩ := bo_some e
    obtain rfl : f = fl := Nat.eq_of_beq_eq_true hfl
    simp only [Den] at hv
    obtain ⟨Cap, hC, rfl⟩ := hv
    obtain ⟨A, _, rfl, c1, hC⟩ := hC.inv
    obtain rfl := hC.inv0
    simp only [Den] at c1
    obtain ⟨y, hy, rfl⟩ := c1
    refine ⟨f, _, rfl, hbf, ?_⟩
    refine Spec_of (n := 31) hf hb hn (by simp) ?_
    refine T_weak [(0, .func (.yield l) #[] #[]), (1, .pointer (some ⟨y.1, o, none⟩))] (fun t v h => by simpa [argSlots] using h) (fun w hw => hw) ?_
    refine T_seq (T_region (TL_q (op_assign rfl) rfl (TL_nil (TQ_then (T_block (T_loopK k fun a w he hw => ?_))))))
    refine hround hrd hps (fun x ρ M hx hM => ?_) k 0 e9 σ.le_refl hy hm rfl rfl rfl a w he hw
    obtain ⟨σ2, g1, g2⟩ := hM
    have fin : TQ G 31 ρ M .ret (bodyPost P fn (RetPost G fun u M => ∃ σ2, σ.le σ2 ∧ MemR σ2 m' ⟨(l, .loop (afterL rc j)) :: F.b, F.z, F.d⟩ M)) := ⟨fun a w he hw => ⟨he.defers, .tuple #[], by simp [results, hres], _, M, rfl, ⟨σ2, g1, g2⟩, hw⟩⟩
    rcases hx with rfl | rfl
    · exact TQ_block_exit (TQ_fall fin)
    · exact TQ_block_ret fin
  · cases e
end
end Go.Proofs.YtlicehodjhoamaaGreatDoor.Ev
namespace Go.Proofs.YtlicehodjhoamaaGreatDoor.Ev
open Go
set_option linter.unusedVariables false
set_option linter.unusedSimpArgs false
def isK (k : Int) (e : MapEntry) : Bool := match e.val with
  | .int _ n => decide (n = k)
  | _ => false
/-- Integers by integers. -/
structure KI (l : List MapEntry) : Prop where
  key : ∀ e ∈ l, ∃ n, e.key = .int .u16 n
  val : ∀ e ∈ l, ∃ n, e.val = .int .i64 n
  dist : l.Pairwise fun x y => x.key ≠ y.key
theorem KI.sub {l m : List MapEntry} (h : KI l) (s : m.Sublist l) : KI m := ⟨fun e he => h.key e (s.subset he), fun e he => h.val e (s.subset he), h.dist.sublist s⟩
def keepE (k : Int) (es : Array MapEntry) (seen : Array Nat) : Array MapEntry := es.filter fun e => !(seen.contains e.born && isK k e)
theorem keepE_sub (k : Int) (es : Array MapEntry) (seen : Array Nat) : (keepE k es seen).toList.Sublist es.toList := by
  unfold keepE
  rw [Array.toList_filter]
  exact List.filter_sublist
theorem keepE_left (k : Int) (es : Array MapEntry) (seen : Array Nat) : leftOf (keepE k es seen) seen = leftOf es seen := by
  unfold leftOf keepE
  rw [Array.filter_filter]
  congr 1
  funext e
  cases seen.contains e.born <;> simp
theorem keepE_start (k : Int) (es : Array MapEntry) : keepE k es #[] = es := by
  unfold keepE
  rw [Array.filter_eq_self]
  intro e he
  simp
theorem keepE_end {k : Int} {es : Array MapEntry} {seen : Array Nat} (h : (leftOf es seen).size = 0) : keepE k es seen = es.filter fun e => !isK k e := by
  have h0 : leftOf es seen = #[] := Array.eq_empty_of_size_eq_zero h
  unfold leftOf at h0
  rw [Array.filter_eq_empty_iff] at h0
  unfold keepE
  rw [← Array.toList_inj, Array.toList_filter, Array.toList_filter]
  refine List.filter_congr fun e he => ?_
  have := h0 e (by simpa using he)
  have h1 : seen.contains e.born = true := by simpa using this
  rw [h1]
  simp
theorem born_inj {l : List MapEntry} (h : (l.map (·.born)).Nodup) {x y : MapEntry} (hx : x ∈ l) (hy : y ∈ l) (e : x.born = y.born) : x = y := by
  induction l with
  | nil => cases hx
  | cons a l ih =>
    rw [List.map_cons, List.nodup_cons] at h
    rcases List.mem_cons.1 hx with h1 | h1
    · rcases List.mem_cons.1 hy with h2 | h2
      · rw [h1, h2]
      · exact absurd (List.mem_map.2 ⟨y, h2, by rw [← e, h1]⟩ : a.born ∈ l.map (·.born)) h.1
    · rcases List.mem_cons.1 hy with h2 | h2
      · exact absurd (List.mem_map.2 ⟨x, h1, by rw [e, h2]⟩ : a.born ∈ l.map (·.born)) h.1
      · exact ih h.2 h1 h2
theorem keepE_no {k : Int} {es : Array MapEntry} {seen : Array Nat} {e : MapEntry} (hn : (es.toList.map (·.born)).Nodup) (he : e ∈ es.toList) (hk : isK k e = false) : keepE k es (seen.push e.born) = keepE k es seen := by
  unfold keepE
  rw [← Array.toList_inj, Array.toList_filter, Array.toList_filter]
  refine List.filter_congr fun x hx => ?_
  by_cases c : x.born = e.born
  · obtain rfl := born_inj hn hx he c
    simp [hk]
  · simp [c]
theorem keepE_yes {k : Int} {es : Array MapEntry} {seen : Array Nat} {e : MapEntry} (hn : (es.toList.map (·.born)).Nodup) (he : e ∈ es.toList) (hk : isK k e = true) : keepE k es (seen.push e.born) = (keepE k es seen).filter fun x => x.born != e.born := by
  unfold keepE
  rw [← Array.toList_inj, Array.toList_filter, Array.toList_filter, Array.toList_filter, List.filter_filter]
  refine List.filter_congr fun x hx => ?_
  by_cases c : x.born = e.born
  · obtain rfl := born_inj hn hx he c
    simp [hk]
  · simp [c]
theorem erase_filter : ∀ {l : List MapEntry} {j : Nat} {e : MapEntry}, (l.map (·.born)).Nodup → l[j]? = some e → l.eraseIdx j = l.filter fun x => x.born != e.born
  | [], j, e, h, he => by simp at he
  | a :: l, 0, e, h, he => by
    simp at he
    subst he
    rw [List.map_cons, List.nodup_cons] at h
    simp only [List.eraseIdx_zero, List.tail_cons]
    rw [List.filter_cons_of_neg (by simp)]
    refine (List.filter_eq_self.2 fun x hx => ?_).symm
    have : x.born ≠ a.born := fun c => h.1 (List.mem_map.2 ⟨x, hx, c⟩)
    simpa using this
  | a :: l, j + 1, e, h, he => by
    rw [List.map_cons, List.nodup_cons] at h
    have he' : l[j]? = some e := by simpa using he
    have hm : e ∈ l := List.mem_of_getElem? he'
    rw [List.eraseIdx_cons_succ, erase_filter h.2 he', List.filter_cons_of_pos]
    have : a.born ≠ e.born := fun c => h.1 (List.mem_map.2 ⟨e, hm, c.symm⟩)
    simpa using this
section
variable {P : Program} {G : World} {ρ : Slots} {L : Blocks} {F : Fm} {ty : TypeId} {σ : Sg}
theorem keyOk_int {d : Nat} {i : Int} {kt : Nat} (hk : P.underlying kt = some (.int .u16)) : keyOk P (d + 1) kt (.int .u16 i) = true := by
  show keyStep P (keyOk P d) kt (.int .u16 i) = true
  unfold keyStep
  rw [hk]
theorem findR_int {kt : Nat} (hk : P.underlying kt = some (.int .u16)) : ∀ {l : List MapEntry} {i : Nat} {e : MapEntry}, KI l → e ∈ l → ∃ j, FindR P kt e.key l i (some (i + j, e.val)) ∧ l[j]? = some e
  | [], i, e, h, he => by cases he
  | a :: l, i, e, h, he => by
    obtain ⟨x, hx⟩ := h.key e he
    obtain ⟨y, hy⟩ := h.key a (List.mem_cons_self ..)
    have heq : ∀ w, (Op.equal kt e.key a.key).run P w = .ok (x == y) w := fun w => by
      rw [hx, hy]
      exact same_now hk (by simp [Instr.sameNow]) w
    rcases List.mem_cons.1 he with rfl | hm
    · refine ⟨0, Or.inr ⟨fun w => ?_, rfl⟩, rfl⟩
      rw [heq w]
      rw [hx] at hy
      cases hy
      simp
    · have hne : (x == y) = false := by
        have := List.rel_of_pairwise_cons h.dist hm
        rw [hx, hy] at this
        simp only [beq_eq_false_iff_ne, ne_eq]
        intro c
        exact this (by rw [c])
      obtain ⟨j, h1, h2⟩ := findR_int hk (i := i + 1) (h.sub (List.sublist_cons_self ..)) hm
      refine ⟨j + 1, Or.inl ⟨fun w => by rw [heq w, hne], ?_⟩, by simpa using h2⟩
      rw [show i + (j + 1) = i + 1 + j by omega]
      exact h1
/-- delete(m, k) of an entry that is there. -/
theorem op_delM {x y : Operand} {b t t2 kt et clock : Nat} {es : Array MapEntry} {e : MapEntry} (hu : P.underlying t = some (.map kt et)) (hk : P.underlying kt = some (.int .u16)) (hx : ev ρ x = some (.map (some b))) (hy : ev ρ y = some e.key) (hE : e ∈ es.toList) (hI : KI es.toList) (hn : (es.toList.map (·.born)).Nodup) :
    OpV P G ρ ((b, .map es clock) :: L) (.call ⟨.builtin .delete, #[x, y], #[t, t2]⟩) ty (.tuple #[]) ((b, .map (es.filter fun z => z.born != e.born) clock) :: L) :=
  op_mapW fun r hr w hb o ho _ => Or.inl <| by
    obtain ⟨n, hkey⟩ := hI.key e hE
    obtain ⟨j, h1, h2⟩ := findR_int (P := P) hk (i := 0) hI hE
    have hfind := find_run hk h1 w
    have hck := keyOk_run (P := P) (σ := fun _ => none) 10000 es.isEmpty (t := kt) (v := .int .u16 n) (V := e.key) (keyOk_int (d := 9999) hk) (by rw [hkey]; simp [Den]) w
    have e1 : es.eraseIdxIfInBounds j = es.filter fun z => z.born != e.born := by
      rw [← Array.toList_inj, Array.toList_filter, ← erase_filter hn h2]
      unfold Array.eraseIdxIfInBounds
      rw [dif_pos (by have := (List.getElem?_eq_some_iff.1 h2).1; simpa using this)]
      simp
    have hrun : (Builtin.delete_ #[t, t2] o.type #[.map (some b), e.key]).run P w = .ok (.tuple #[]) { w with heap := w.heap.setIfInBounds b (.map (es.filter fun z => z.born != e.born) clock) } := by
      rw [← e1]
      simp [Builtin.delete_, run_underlying hu, MapKept.run_getObj_map hb, hck, hfind, MapKept.run_setObj_map _ hb]
    simp [execOp, ho, hr _ _ hx, hr _ _ hy, resolve, invoke, builtin, hrun, Result.andThen]
/-- The step. -/
theorem op_nextM {x : Operand} {it b clock : Nat} {seen : Array Nat} {es : Array MapEntry} (hx : ev ρ x = some (.pointer (some ⟨it, 0, none⟩))) (hs : ∀ e ∈ es.toList, e.born < clock) :
    OpT P G ρ ((it, .mapIter (some b) clock seen clock) :: (b, .map es clock) :: L) (.next x false) ty fun u M => (u = .tuple #[.bool false] ∧ M = (it, .mapIter (some b) clock seen clock) :: (b, .map es clock) :: L ∧ (leftOf es seen).size = 0) ∨
      ∃ e ∈ (leftOf es seen).toList, u = .tuple #[.bool true, e.key, e.val] ∧ M = (it, .mapIter (some b) clock (seen.push e.born) clock) :: (b, .map es clock) :: L :=
  ⟨fun r hr w hw o ho _ => by
    have h1 : w.heap[it]? = some (.mapIter (some b) clock seen clock) := hw.get _ (List.mem_cons_self ..)
    have h2 : w.heap[b]? = some (.map es clock) := hw.get _ (List.mem_cons_of_mem _ (List.mem_cons_self ..))
    rcases run_next_at (P := P) w o.type it b clock clock seen es clock h1 h2 hs (Nat.le_refl _) with ⟨h0, hrun⟩ | ⟨e, he, w1, hw1, hrun⟩
    · have h : (execOp r o).run P w = .ok (.value (.tuple #[.bool false])) w := by simp [execOp, ho, hr _ _ hx, hrun]
      rw [h]
      exact ⟨_, Or.inl ⟨rfl, rfl, h0⟩, hw⟩
    · have h : (execOp r o).run P w = .ok (.value (.tuple #[.bool true, e.key, e.val])) (ChangeMaps.setBlock w1 it (.mapIter (some b) clock (seen.push e.born) clock)) := by simp [execOp, ho, hr _ _ hx, hrun]
      rw [h]
      refine ⟨_, Or.inr ⟨e, he, rfl, rfl⟩, ?_⟩
      have hw' : Heap G w1 ((it, .mapIter (some b) clock seen clock) :: (b, .map es clock) :: L) := by
        rcases hw1 with rfl | rfl
        · exact hw
        · exact hw.drew
      exact hw'.update ⟨rfl, rfl, rfl, by simp [ChangeMaps.setBlock]⟩ (setIf_heap (hw'.get _ (List.mem_cons_self ..))) (fun j hj hne => by simp [ChangeMaps.setBlock, Array.getElem?_setIfInBounds_ne (Ne.symm hne)])⟩
/-- Key and value. -/
theorem op_entryM {x : Operand} {it b clock since : Nat} {seen : Array Nat} {es : Array MapEntry} {e : MapEntry} (hx : ev ρ x = some (.pointer (some ⟨it, 0, none⟩))) (h1 : (it, Obj.mapIter (some b) since (seen.push e.born) clock) ∈ L) (h2 : (b, Obj.map es clock) ∈ L) (he : e ∈ es.toList) (hn : (es.toList.map (·.born)).Nodup) :
    OpQ P ρ L (.entry x) ty (.tuple #[e.key, e.val]) := ⟨fun r hr w hw o ho _ => by
  have hrun := run_entry_at (P := P) w it b since seen es clock e (hw.get _ h1) (hw.get _ h2) he hn
  simp [execOp, ho, hr _ _ hx, hrun]⟩
end
/-! ### abstract -/
noncomputable def notK (k : AV) (l : List (AV × AV)) : Bool := List.rec true (fun p _ ih => Bool.rec ih false (flatE k p.1)) l
noncomputable def intsE (p : AV × AV) : Bool := match p.1, p.2 with
  | .int .u16 _, .int .i64 _ => true
  | _, _ => false
noncomputable def intsL (l : List (AV × AV)) : Bool := List.rec true (fun p r ih => Bool.rec false (Bool.rec false ih (notK p.1 r)) (intsE p)) l
noncomputable def hasV (k : Int) (v : AV) : Bool := match v with
  | .int _ n => decide (n = k)
  | _ => false
noncomputable def freeL (k : Int) (l : List (AV × AV)) : List (AV × AV) := List.rec [] (fun p _ ih => Bool.rec (p :: ih) ih (hasV k p.2)) l
section
variable {σ : Sg}
theorem notK_ok {q : IntKind} {n : Int} : ∀ {l : List (AV × AV)} {es : List MapEntry}, notK (.int q n) l = true → DenM σ l es → (∀ p ∈ l, intsE p = true) → ∀ e ∈ es, e.key ≠ .int q n
  | [], es, h, hd, hi, e, he => by rw [hd.inv0] at he; cases he
  | p :: l, es, h, hd, hi, e, he => by
    obtain ⟨en, M, rfl, h1, h2, h3⟩ := hd.inv
    have h : (Bool.rec (notK (.int q n) l) false (flatE (.int q n) p.1) : Bool) = true := h
    cases hf : flatE (.int q n) p.1 with
    | true => rw [hf] at h; cases h
    | false =>
      rw [hf] at h
      rcases List.mem_cons.1 he with rfl | he
      · have hp := hi p (List.mem_cons_self ..)
        obtain ⟨k, v⟩ := p
        unfold intsE at hp
        dsimp only at hp h1 hf
        split at hp
        · obtain h1 : e.key = _ := by simpa [Den] using h1
          rw [h1]
          intro c
          cases c
          simp [flatE, eqII_eq] at hf
        · cases hp
      · exact notK_ok h h3 (fun p hp => hi p (List.mem_cons_of_mem _ hp)) e he
theorem intsL_ok : ∀ {l : List (AV × AV)} {es : List MapEntry}, intsL l = true → DenM σ l es → KI es ∧ (∀ p ∈ l, intsE p = true)
  | [], es, h, hd => by rw [hd.inv0]; exact ⟨⟨fun e he => (by cases he), fun e he => (by cases he), .nil⟩, fun p hp => (by cases hp)⟩
  | p :: l, es, h, hd => by
    obtain ⟨en, M, rfl, h1, h2, h3⟩ := hd.inv
    have h : (Bool.rec false (Bool.rec false (intsL l) (notK p.1 l)) (intsE p) : Bool) = true := h
    cases hp : intsE p with
    | false => rw [hp] at h; cases h
    | true =>
      rw [hp] at h
      cases hk : notK p.1 l with
      | false => rw [hk] at h; cases h
      | true =>
        rw [hk] at h
        obtain ⟨k1, k2⟩ := intsL_ok h h3
        have hall : ∀ q ∈ p :: l, intsE q = true := fun q hq => by
          rcases List.mem_cons.1 hq with rfl | hq
          · exact hp
          · exact k2 q hq
        refine ⟨?_, hall⟩
        obtain ⟨k, v⟩ := p
        have hp' := hp
        unfold intsE at hp'
        dsimp only at hp' h1 h2 hk
        split at hp'
        · obtain h1 : en.key = _ := by simpa [Den] using h1
          obtain h2 : en.val = _ := by simpa [Den] using h2
          refine ⟨fun e he => ?_, fun e he => ?_, List.pairwise_cons.2 ⟨fun e he => ?_, k1.dist⟩⟩
          · rcases List.mem_cons.1 he with rfl | he
            · exact ⟨_, h1⟩
            · exact k1.key e he
          · rcases List.mem_cons.1 he with rfl | he
            · exact ⟨_, h2⟩
            · exact k1.val e he
          · rw [h1]
            exact (notK_ok hk h3 k2 e he).symm
        · cases hp'
theorem freeL_ok {k : Int} : ∀ {l : List (AV × AV)} {es : List MapEntry}, (∀ p ∈ l, intsE p = true) → DenM σ l es → DenM σ (freeL k l) (es.filter fun e => !isK k e)
  | [], es, h, hd => by rw [hd.inv0]; show DenM σ [] []; simp [DenM]
  | p :: l, es, h, hd => by
    obtain ⟨en, M, rfl, h1, h2, h3⟩ := hd.inv
    have ih := freeL_ok (k := k) (fun q hq => h q (List.mem_cons_of_mem _ hq)) h3
    have hp := h p (List.mem_cons_self ..)
    have e1 : isK k en = hasV k p.2 := by
      obtain ⟨a, v⟩ := p
      unfold intsE at hp
      dsimp only at hp h2 ⊢
      split at hp
      · obtain h2 : en.val = _ := by simpa [Den] using h2
        unfold isK hasV
        rw [h2]
      · cases hp
    show DenM σ (Bool.rec (p :: freeL k l) (freeL k l) (hasV k p.2)) _
    cases hv : hasV k p.2 with
    | true => rw [List.filter_cons_of_neg (by rw [e1, hv]; simp)]; exact ih
    | false => rw [List.filter_cons_of_pos (by rw [e1, hv]; rfl)]; exact .cons h1 h2 ih
end
/-! ### the function -/
noncomputable def isNorm (x : Exit) : Bool := Exit.rec true (fun _ => false) (fun _ => false) false (fun _ => false) false x
theorem isNorm_eq {x : Exit} (h : isNorm x = true) : x = .normal := by cases x <;> first | rfl | cases h
/-- Integers by integers, one integer's struck out: slot 7 the map, slot 1 the integer, slot 8 how many. -/
noncomputable def freeA (P : Program) (H k i : Nat) (E : FunE) (args : List AV) (m : Mem) : Option (AV × Mem) :=
  ob P.funcs[i]? fun fn => ob fn.body fun c => bo (Nat.ble (lenN args) fn.ntmps) (match c with
    | .seq r0 (.seq r1 (.seq r2 _)) =>
      ob (codeE P E fn.ntmps k r0 (argF args 0 (.base H .leaf)) m) fun a => bo (isNorm a.x) (ob (codeE P E fn.ntmps k r1 a.s a.m) fun b => bo (isNorm b.x) (ob (codeE P E fn.ntmps k r2 b.s b.m) fun r => bo (isNorm r.x) (ob (r.s.get 1) fun v => ob (r.s.get 7) fun w => ob (r.s.get 8) fun z => match v, w, z with
        | .int .i64 slot, .mp i, .int .i64 0 => ob (r.m.h.get i) fun o => (match o with
          | .map l => bo (intsL l) (bo (Nat.ble (lenN l) 1000000) (putK r.m i (.map (freeL slot l)) fun m' => some (.int .i64 (Int.ofNat (Nat.sub (lenN l) (lenN (freeL slot l)))), m')))
          | _ => none)
        | _, _, _ => none)))
    | _ => none)
section
variable {P : Program} {G : World} {E : FunE} {F : Fm} {σ : Sg} {L : Blocks}
theorem freeA_ok (hmix : P.follows .mixedOrders = true) (hE : FunOk P E) {H k i : Nat} {args : List AV} {m m' : Mem} {v : AV} {As : List Value} {fn : Func} {r0 r1 r2 rest : Code} (hf : P.funcs[i]? = some fn) (hb : fn.body = some (.seq r0 (.seq r1 (.seq r2 rest)))) (hres : fn.results = #[.tmp 6])
    (hrest : ∀ {ρ : Slots} {L : Blocks} {b clock : Nat} {es : Array MapEntry} {slot : Int} {Q : Exit → Act → World → Prop}, ρ.lookup 7 = some (.map (some b)) → ρ.lookup 1 = some (.int .i64 slot) → ρ.lookup 8 = some (.int .i64 0) → Stm es clock → KI es.toList → es.size ≤ 1000000 →
      (∀ ρ' : Slots, ρ'.lookup 6 = some (.int .i64 (Int.ofNat (es.size - (es.filter fun e => !isK slot e).size))) → TQ G fn.ntmps ρ' ((b, .map (es.filter fun e => !isK slot e) clock) :: L) .ret Q) →
      T P G fn.ntmps ρ ((b, .map es clock) :: L) rest Q)
    (e : freeA P H k i E args m = some (v, m')) (hA : DenL σ args As) (hm : MemR σ m F L) : Spec P G i As.toArray L (Post σ v m' F) := by
  obtain ⟨fn', hf', e⟩ := ob_some e
  rw [hf] at hf'
  cases hf'
  obtain ⟨c, hb', e⟩ := ob_some e
  rw [hb] at hb'
  cases hb'
  obtain ⟨hn, e⟩ := bo_some e
  dsimp only at e
  obtain ⟨⟨x0, s0, m0⟩, e0, e⟩ := ob_some e
  obtain ⟨hx, e⟩ := bo_some e
  obtain rfl := isNorm_eq hx
  obtain ⟨⟨x1, s1, m1⟩, e1, e⟩ := ob_some e
  obtain ⟨hx, e⟩ := bo_some e
  obtain rfl := isNorm_eq hx
  obtain ⟨⟨x2, s2, m2⟩, e2, e⟩ := ob_some e
  obtain ⟨hx, e⟩ := bo_some e
  obtain rfl := isNorm_eq hx
  dsimp only at e1 e2 e
  obtain ⟨a, ha, ea⟩ := ob_some e
  obtain ⟨w, hw, eb⟩ := ob_some ea
  obtain ⟨z, hz, ec⟩ := ob_some eb
  clear ea eb e
  split at ec
  · rename_i slot i2
    obtain ⟨o, ho, e⟩ := ob_some ec
    clear ec
    cases o with
    | map l =>
      obtain ⟨hI, e⟩ := bo_some e
      obtain ⟨hlen, e⟩ := bo_some e
      obtain ⟨hi2, e⟩ := putK_some e
      cases e
      have hlen := Nat.le_of_ble_eq_true hlen
      rw [lenN_eq] at hlen
      obtain ⟨ρ', q1, q2⟩ := argF_ok (k := 0) (s := Fr.base H .leaf) (ρ := []) hA (SlR.leaf hm.glb) (fun t _ => rfl)
      refine Spec_of (n := fn.ntmps) hf hb rfl (by rw [List.size_toArray, hA.length, ← lenN_eq]; exact hn) ?_
      refine T_weak ρ' (fun t u h => by
        rcases q2 t u h with h | h
        · exact h
        · cases h) (fun w hw => hw) ?_
      refine T_seq (codeE_ok hmix hE r0 e0 q1 hm fun σ0 ρ0 L0 a1 a2 a3 => TQ_then (T_seq (codeE_ok hmix hE r1 e1 a2 a3 fun σ1 ρ1 L1 b1 b2 b3 => TQ_then (T_seq (codeE_ok hmix hE r2 e2 b2 b3 fun σ2 ρ2 L2 c1 c2 c3 => TQ_then ?_)))))
      obtain ⟨V1, k1, k2⟩ := c2.get _ _ ha
      obtain rfl : V1 = .int .i64 slot := by simpa [Den] using k2
      obtain ⟨V8, k3, k4⟩ := c2.get _ _ hz
      obtain rfl : V8 = .int .i64 0 := by simpa [Den] using k4
      obtain ⟨V7, k5, k6⟩ := c2.get _ _ hw
      simp only [Den] at k6
      obtain ⟨y, hy, rfl⟩ := k6
      obtain ⟨O, ⟨es, clock, ⟨h1, h2⟩, rfl⟩, h3⟩ := c3.get i2 _ y ho hy
      obtain ⟨K1, K2⟩ := intsL_ok hI h1
      obtain ⟨A, B, hAB⟩ := List.append_of_mem h3
      have hp : L2.Perm ((y.1, Obj.map es clock) :: (A ++ B)) := by rw [hAB]; exact List.perm_middle
      have hsz : es.size = l.length := by rw [← Array.length_toList]; exact h1.len
      refine T_heap (fun w hw => hw.perm hp) (hrest k5 k1 k3 h2 K1 (by omega) fun ρ3 h6 => ?_)
      have hd : DenM σ2 (freeL slot l) (es.filter fun e => !isK slot e).toList := by
        rw [Array.toList_filter]
        exact freeL_ok K2 h1
      have hcnt : es.size - (es.filter fun e => !isK slot e).size = Nat.sub (lenN l) (lenN (freeL slot l)) := by
        have h9 : (es.filter fun e => !isK slot e).size = (freeL slot l).length := by rw [← Array.length_toList]; exact hd.len
        rw [lenN_eq, lenN_eq, h9, hsz]
        rfl
      refine ⟨fun a w he hw => ?_⟩
      refine ⟨he.defers, .int .i64 (Int.ofNat (es.size - (es.filter fun e => !isK slot e).size)), ?_, _, _, rfl, ⟨σ2, Sg.le_trans a1 (Sg.le_trans b1 c1), ?_, c3.write ho hy hp (by omega) ⟨_, clock, ⟨hd, h2.sub (by rw [Array.toList_filter]; exact List.filter_sublist)⟩, rfl⟩⟩, hw⟩
      · have h5 : a.tmps.getD 6 undef = _ := he.reads (.tmp 6) _ h6
        rw [results_eq, hres]
        simp [resOne, h5]
      · rw [hcnt]; simp only [Den]
    | _ => cases e
  · cases ec
end
end Go.Proofs.YtlicehodjhoamaaGreatDoor.Ev
namespace Go.Proofs.YtlicehodjhoamaaGreatDoor.Ev
open Go
set_option linter.unusedVariables false
set_option linter.unusedSimpArgs false
set_option maxRecDepth 100000
section
variable {G : World} {Q : Exit → Act → World → Prop} {F : Fm} {σ : Sg} {L : Blocks}
theorem free_rest {n i3 i4 i5 i6 i7 i8 i9 b0 b1 : Nat} {P : Program} {tm kt et ti tb : Nat} (hn : n = 29) (hu : P.underlying tm = some (.map kt et)) (hk : P.underlying kt = some (.int .u16))
    {p1 p2 p3 p4 p5 p6 p7 p8 p9 p10 p11 p12 p13 p14 p15 p16 p17 p18 p19 p20 : String} {a1 a2 a3 a4 a5 a6 a7 a8 a9 a10 a11 a12 a13 a14 a15 a16 a17 a18 a19 a20 : Array Edge} {y1 y2 y3 y4 y5 y6 y7 y8 y9 y10 y11 y12 y13 y14 y15 y16 y17 y18 y19 y20 u1 u2 u3 : Nat}
    {ρ : Slots} {L : Blocks} {b clock : Nat} {es : Array MapEntry} {slot : Int} (h7 : ρ.lookup 7 = some (.map (some b))) (h1 : ρ.lookup 1 = some (.int .i64 slot)) (h8 : ρ.lookup 8 = some (.int .i64 0)) (hS : Stm es clock) (hI : KI es.toList) (hz : es.size ≤ 1000000)
    (hQ : ∀ ρ' : Slots, ρ'.lookup 6 = some (.int .i64 (Int.ofNat (es.size - (es.filter fun e => !isK slot e).size))) → TQ G n ρ' ((b, .map (es.filter fun e => !isK slot e) clock) :: L) .ret Q) :
    T P G n ρ ((b, .map es clock) :: L)
      (.seq (.seq (.region i3 #[⟨some 14, .move (.tmp 7), y1, p1, a1, none⟩, ⟨some 15, .range tm (.tmp 14), y2, p2, a2, none⟩] false)
        (.block b0 (.loop (.seq (.region i4 #[⟨some 16, .next (.tmp 15) false, y3, p3, a3, none⟩, ⟨some 17, .extract (.tmp 16) 0, y4, p4, a4, none⟩] false)
          (.seq (.cond (.tmp 17) .skip (.exit b0))
            (.block b1 (.seq (.region i5 #[⟨some 18, .entry (.tmp 15), y5, p5, a5, none⟩, ⟨some 19, .extract (.tmp 18) 0, y6, p6, a6, none⟩, ⟨some 20, .extract (.tmp 18) 1, y7, p7, a7, none⟩, ⟨some 9, .assign (.tmp 19), y8, p8, a8, none⟩, ⟨some 10, .assign (.tmp 20), y9, p9, a9, none⟩] false)
              (.seq (.region i6 #[⟨some 21, .move (.tmp 10), y10, p10, a10, none⟩, ⟨some 22, .move (.tmp 1), y11, p11, a11, none⟩, ⟨some 23, .binOp .eql u1 (.tmp 21) (.tmp 22) u2, y12, p12, a12, none⟩] false)
                (.cond (.tmp 23)
                  (.seq (.region i7 #[⟨some 24, .move (.tmp 7), y13, p13, a13, none⟩, ⟨some 25, .move (.tmp 9), y14, p14, a14, none⟩, ⟨none, .call ⟨.builtin .delete, #[.tmp 24, .tmp 25], #[tm, u3]⟩, y15, p15, a15, none⟩] false)
                    (.region i8 #[⟨some 26, .move (.tmp 8), y16, p16, a16, none⟩, ⟨some 27, .binOp .add ti (.tmp 26) (.const (.int .i64 1)) tb, y17, p17, a17, none⟩, ⟨some 8, .assign (.tmp 27), y18, p18, a18, none⟩] false))
                  .skip)))))))))
        (.seq (.region i9 #[⟨some 28, .move (.tmp 8), y19, p19, a19, none⟩, ⟨some 6, .assign (.tmp 28), y20, p20, a20, none⟩] false) .ret)) Q := by
  subst hn
  refine T_seq (T_seq (T_region (TL_q (op_move h7) rfl ?_)))
  have hN : OpNew P G ((14, Value.map (some b)) :: ρ) ((b, .map es clock) :: L) (.range tm (.tmp 14)) y2 (fun b => .pointer (some ⟨b, 0, none⟩)) (.mapIter (some b) clock #[] clock) := ⟨fun r hr w hw o ho _ => by
    have hb : w.heap[b]? = some (.map es clock) := hw.get _ (List.mem_cons_self ..)
    have h : (Instr.range tm (.map (some b))).run P w = .ok (.pointer (some ⟨w.heap.size, 0, none⟩)) (w.alloc (.mapIter (some b) clock #[] clock)) := by
      simp [Instr.range, run_underlying hu, MapKept.run_getObj_map hb]
    have hx := hr (.tmp 14) _ rfl
    have h' : (execOp r o).run P w = .ok (.value (.pointer (some ⟨w.heap.size, 0, none⟩))) (w.alloc (.mapIter (some b) clock #[] clock)) := by simp [execOp, ho, hx, h]
    rw [h']
    exact ⟨_, ⟨w.heap.size, rfl, rfl⟩, hw.alloc _⟩⟩
  refine TL_new hN rfl fun it => TL_nil (TQ_then (T_block ?_))
  refine T_loopS (σ := Array Nat) (fun _ => True) (fun seen => [(8, .int .i64 (Int.ofNat (es.size - (keepE slot es seen).size))), (7, .map (some b)), (1, .int .i64 slot), (15, .pointer (some ⟨it, 0, none⟩))])
    (fun seen => (it, .mapIter (some b) clock seen clock) :: (b, .map (keepE slot es seen) clock) :: L) (fun seen => (leftOf es seen).size) #[] trivial ?_ ?_ ?_
  · refine ⟨?_, ?_, ?_, rfl, trivial⟩
    · rw [keepE_start, Nat.sub_self]; exact h8
    · exact h7
    · exact h1
  · intro w hw
    rw [keepE_start]
    exact hw
  · intro seen _
    refine T_seq (T_region (TL_opT (op_nextM rfl fun e he => hS.1 e ((keepE_sub slot es seen).subset he)) rfl ?_))
    rintro u M (⟨rfl, rfl, h0⟩ | ⟨e, he, rfl, rfl⟩)
    · rw [keepE_left] at h0
      refine TL_q (op_extract (i := 0) rfl rfl) rfl (TL_nil (TQ_then (T_seq (T_false rfl (T_exit (TQ_then_exit (TQ_then_exit (TQ_block_exit ?_))))))))
      rw [keepE_end h0]
      refine TQ_then (T_seq (T_region (TL_q (op_move rfl) rfl (TL_q (op_assign rfl) rfl (TL_nil (TQ_then (T_ret ?_)))))))
      exact TQ_heap (fun w hw => hw.tail) (hQ _ rfl)
    · rw [keepE_left] at he
      obtain ⟨hes, hun⟩ := mem_left he
      have hke : e ∈ (keepE slot es seen).toList := by
        unfold keepE
        rw [Array.toList_filter, List.mem_filter]
        exact ⟨hes, by rw [hun]; rfl⟩
      have hnd : ((keepE slot es seen).toList.map (·.born)).Nodup := ((keepE_sub slot es seen).map _).nodup hS.2
      obtain ⟨nk, hkey⟩ := hI.key e hes
      obtain ⟨nv, hval⟩ := hI.val e hes
      have hlt := left_shrinks es seen e he
      refine TL_q (op_extract (i := 0) rfl rfl) rfl (TL_nil (TQ_then (T_seq (T_true rfl (T_skip (TQ_then (T_block ?_)))))))
      refine T_seq (T_region (TL_q (op_entryM (e := e) rfl (List.mem_cons_self ..) (List.mem_cons_of_mem _ (List.mem_cons_self ..)) hke hnd) rfl (TL_q (op_extract (i := 0) (v := e.key) rfl rfl) rfl (TL_q (op_extract (i := 1) (v := e.val) rfl rfl) rfl (TL_q (op_assign rfl) rfl (TL_q (op_assign rfl) rfl (TL_nil (TQ_then ?_))))))))
      refine T_seq (T_region (TL_q (op_move rfl) rfl (TL_q (op_move rfl) rfl (TL_q (op_bin (a := .int .i64 nv) (b := .int .i64 slot) (by rw [← hval]; rfl) rfl bin_eql) rfl (TL_nil (TQ_then ?_))))))
      cases hc : (nv == slot) with
      | true =>
        have hik : isK slot e = true := by
          unfold isK
          rw [hval]
          simpa using hc
        refine T_true rfl ?_
        have hsz : (keepE slot es (seen.push e.born)).size + 1 = (keepE slot es seen).size := by
          rw [keepE_yes hS.2 hes hik]
          obtain ⟨j, hj, hje⟩ := List.mem_iff_getElem.1 hke
          have h2 : (keepE slot es seen).toList[j]? = some e := by rw [List.getElem?_eq_getElem hj, hje]
          rw [← Array.length_toList, Array.toList_filter, ← erase_filter hnd h2, List.length_eraseIdx_of_lt hj, ← Array.length_toList]
          omega
        have hle : (keepE slot es seen).size ≤ es.size := by
          rw [← Array.length_toList, ← Array.length_toList]
          exact (keepE_sub slot es seen).length_le
        refine T_seq (T_region (TL_q (op_move rfl) rfl (TL_q (op_move (v := e.key) rfl) rfl (TL_heap (fun w hw => hw.perm (List.Perm.swap ..)) (TL_opN (op_delM hu hk rfl rfl hke (hI.sub (keepE_sub slot es seen)) hnd) (TL_nil (TQ_then ?_)))))))
        refine T_region (TL_q (op_move rfl) rfl (TL_q (op_bin (a := .int .i64 (Int.ofNat (es.size - (keepE slot es seen).size))) rfl rfl (bin_add (by constructor <;> simp <;> omega))) rfl (TL_q (op_assign rfl) rfl (TL_nil (TQ_block ?_)))))
        refine TQ_roundS (seen.push e.born) trivial ?_ ?_ hlt
        · refine ⟨?_, rfl, rfl, rfl, trivial⟩
          show some (Value.int .i64 (Int.ofNat (es.size - (keepE slot es seen).size) + 1)) = _
          congr 2
          have : es.size - (keepE slot es (seen.push e.born)).size = es.size - (keepE slot es seen).size + 1 := by omega
          rw [this]
          rfl
        · intro w hw
          rw [keepE_yes hS.2 hes hik]
          exact hw.perm (List.Perm.swap ..)
      | false =>
        have hik : isK slot e = false := by
          unfold isK
          rw [hval]
          simpa using hc
        refine T_false rfl (T_skip (TQ_block ?_))
        refine TQ_roundS (seen.push e.born) trivial ?_ ?_ hlt
        · rw [keepE_no hS.2 hes hik]
          exact ⟨rfl, rfl, rfl, rfl, trivial⟩
        · rw [keepE_no hS.2 hes hik]
          exact fun w hw => hw
end
/-- Own ways, and one function that strikes integers out. -/
noncomputable def ownX (P : Program) (H : Nat → Nat) (k : Nat) (l : List (Nat × Way)) (fr : Nat) : Own := fun i => Bool.rec (ownL P H k l i) (some (freeA P (H fr) k fr)) (Nat.beq i fr)
theorem ownX_ok {P : Program} (hmix : P.follows .mixedOrders = true) (H : Nat → Nat) (k : Nat) (l : List (Nat × Way)) {fr : Nat} {fn : Func} {r0 r1 r2 rest : Code} (hf : P.funcs[fr]? = some fn) (hb : fn.body = some (.seq r0 (.seq r1 (.seq r2 rest)))) (hres : fn.results = #[.tmp 6])
    (hrest : ∀ {G : World} {ρ : Slots} {L : Blocks} {b clock : Nat} {es : Array MapEntry} {slot : Int} {Q : Exit → Act → World → Prop}, ρ.lookup 7 = some (.map (some b)) → ρ.lookup 1 = some (.int .i64 slot) → ρ.lookup 8 = some (.int .i64 0) → Stm es clock → KI es.toList → es.size ≤ 1000000 →
      (∀ ρ' : Slots, ρ'.lookup 6 = some (.int .i64 (Int.ofNat (es.size - (es.filter fun e => !isK slot e).size))) → TQ G fn.ntmps ρ' ((b, .map (es.filter fun e => !isK slot e) clock) :: L) .ret Q) →
      T P G fn.ntmps ρ ((b, .map es clock) :: L) rest Q) : OwnOk P (ownX P H k l fr) := by
  intro i f hx E hE G args m v m' σ As F L e hA hm
  unfold ownX at hx
  cases hb2 : Nat.beq i fr with
  | false => rw [hb2] at hx; exact ownL_ok hmix H k l i f hx E hE e hA hm
  | true =>
    rw [hb2] at hx
    cases hx
    obtain rfl : i = fr := Nat.eq_of_beq_eq_true hb2
    exact freeA_ok hmix hE hf hb hres hrest e hA hm
end Go.Proofs.YtlicehodjhoamaaGreatDoor.Ev
namespace Go.Proofs.YtlicehodjhoamaaGreatDoor.Ev
open Go
set_option linter.unusedVariables false
set_option linter.unusedSimpArgs false
/-! ### objects that are the same -/
noncomputable def beqM : List (AV × AV) → List (AV × AV) → Bool
  | [], [] => true
  | p :: l, q :: m => beqV p.1 q.1 && beqV p.2 q.2 && beqM l m
  | _, _ => false
theorem beqM_eq : ∀ (a b : List (AV × AV)), beqM a b = true → a = b
  | [], b, h => by cases b <;> simp [beqM] at h; rfl
  | p :: l, b, h => by
    cases b with
    | nil => simp [beqM] at h
    | cons q m =>
      simp [beqM] at h
      rw [beqM_eq l m h.2, show p = q from Prod.ext (beqV_eq _ _ h.1.1) (beqV_eq _ _ h.1.2)]
noncomputable def beqO : AO → AO → Bool
  | .cells l e, .cells m e' => Nat.beq e e' && beqVs l m
  | .row l n e sz lo, .row m n' e' sz' lo' => Nat.beq n n' && Nat.beq e e' && Nat.beq sz sz' && Nat.beq lo lo' && beqVs l m
  | .rowF l n e, .rowF m n' e' => Nat.beq n n' && Nat.beq e e' && beqVs l m
  | .map l, .map m => beqM l m
  | .it i, .it j => Nat.beq i j
  | _, _ => false
theorem beqO_eq (a b : AO) (h : beqO a b = true) : a = b := by
  cases a <;> cases b <;> simp [beqO] at h
  · rw [h.1, beqVs_eq _ _ h.2]
  · rw [h.1.1.1.1, h.1.1.1.2, h.1.1.2, h.1.2, beqVs_eq _ _ h.2]
  · rw [h.1.1, h.1.2, beqVs_eq _ _ h.2]
  · rw [beqM_eq _ _ h]
  · rw [h]
/-! ### rows -/
noncomputable def look (l : List (Nat × AO)) (i : Nat) : Option AO := List.rec none (fun p _ ih => Bool.rec ih (some p.2) (Nat.beq p.1 i)) l
noncomputable def toTrK {β : Type} (l : List (Nat × AO)) (t : Tr AO) : (Tr AO → β) → β := List.rec (motive := fun _ => (Tr AO → β) → β) (fun k => k t) (fun p _ ih k => ih fun t => Tr.setK 20 t p.1 p.2 k) l
noncomputable def delTrK {β : Type} (l : List (Nat × AO)) (t : Tr AO) : (Tr AO → β) → β := List.rec (motive := fun _ => (Tr AO → β) → β) (fun k => k t) (fun p _ ih k => ih fun t => Tr.setOK 20 t p.1 none k) l
def toTr : List (Nat × AO) → Tr AO → Tr AO
  | [], t => t
  | p :: l, t => Tr.set 20 (toTr l t) p.1 p.2
def delTr : List (Nat × AO) → Tr AO → Tr AO
  | [], t => t
  | p :: l, t => Tr.setO 20 (delTr l t) p.1 none
theorem toTrK_eq {β : Type} : ∀ (l : List (Nat × AO)) (t : Tr AO) (k : Tr AO → β), toTrK l t k = k (toTr l t)
  | [], t, k => rfl
  | p :: l, t, k => by
    have h : toTrK (p :: l) t k = toTrK l t fun t => Tr.setK 20 t p.1 p.2 k := rfl
    rw [h, toTrK_eq l, Tr.setK_eq]
    rfl
theorem delTrK_eq {β : Type} : ∀ (l : List (Nat × AO)) (t : Tr AO) (k : Tr AO → β), delTrK l t k = k (delTr l t)
  | [], t, k => rfl
  | p :: l, t, k => by
    have h : delTrK (p :: l) t k = delTrK l t fun t => Tr.setOK 20 t p.1 none k := rfl
    rw [h, delTrK_eq l, Tr.setOK_eq]
    rfl
theorem look_cons (p : Nat × AO) (l : List (Nat × AO)) (i : Nat) : look (p :: l) i = if i = p.1 then some p.2 else look l i := by
  have h : look (p :: l) i = Bool.rec (look l i) (some p.2) (Nat.beq p.1 i) := rfl
  rw [h]
  by_cases c : i = p.1
  · rw [if_pos c, bqT c.symm]
  · rw [if_neg c, bqF (Ne.symm c)]
noncomputable def smallL (l : List (Nat × AO)) : Bool := allB (fun p => Nat.ble p.1 999998) l
theorem toTr_get : ∀ {l : List (Nat × AO)} {t : Tr AO}, smallL l = true → ∀ i, (toTr l t).get i = (look l i).or (t.get i)
  | [], t, h, i => rfl
  | p :: l, t, h, i => by
    have hp := allB_ok h p (List.mem_cons_self ..)
    have hl : smallL l = true := by
      have h : Bool.rec false (smallL l) (Nat.ble p.1 999998) = true := h
      rw [hp] at h
      exact h
    have := Nat.le_of_ble_eq_true hp
    show (Tr.set 20 (toTr l t) p.1 p.2).get i = _
    rw [Tr.get_set 20 _ _ _ (by omega), toTr_get hl, look_cons]
    split <;> rfl
theorem delTr_get : ∀ {l : List (Nat × AO)} {t : Tr AO}, smallL l = true → ∀ i, (delTr l t).get i = if (look l i).isSome then none else t.get i
  | [], t, h, i => rfl
  | p :: l, t, h, i => by
    have hp := allB_ok h p (List.mem_cons_self ..)
    have hl : smallL l = true := by
      have h : Bool.rec false (smallL l) (Nat.ble p.1 999998) = true := h
      rw [hp] at h
      exact h
    have := Nat.le_of_ble_eq_true hp
    show (Tr.setO 20 (delTr l t) p.1 none).get i = _
    rw [Tr.get_setO 20 _ _ _ (by omega), delTr_get hl, look_cons]
    by_cases c : i = p.1
    · simp [c]
    · simp [c]
noncomputable def hasO (l : List (Nat × AO)) (m : Mem) : Bool := allB (fun p => Option.rec false (fun o => beqO p.2 o) (m.h.get p.1)) l
theorem hasO_look {m : Mem} : ∀ {l : List (Nat × AO)}, hasO l m = true → ∀ i o, look l i = some o → m.h.get i = some o
  | [], h, i, o, e => by cases e
  | p :: l, h, i, o, e => by
    have hp := allB_ok h p (List.mem_cons_self ..)
    have hl : hasO l m = true := by
      have h : Bool.rec false (hasO l m) (Option.rec false (fun o => beqO p.2 o) (m.h.get p.1) : Bool) = true := h
      rw [hp] at h
      exact h
    rw [look_cons] at e
    by_cases c : i = p.1
    · rw [if_pos c] at e
      cases e
      subst c
      cases hg : m.h.get p.1 with
      | none => rw [hg] at hp; cases hp
      | some q => rw [hg] at hp; rw [beqO_eq _ _ hp]
    · rw [if_neg c] at e
      exact hasO_look hl i o e
/-- What a call comes to: objects that it reads, objects that it writes, the value, objects behind. -/
structure Row where
  i : Nat
  args : List AV
  nx : Nat
  hr : List (Nat × AO)
  hw : List (Nat × AO)
  v : AV
  nx' : Nat
  h' : List (Nat × AO)
noncomputable def Row.fits (r : Row) (i : Nat) (args : List AV) (m : Mem) : Bool := Bool.rec false (Bool.rec false (Bool.rec false (Bool.rec false (hasO r.hw m) (hasO r.hr m)) (beqVs r.args args)) (Nat.beq r.nx m.nx)) (Nat.beq r.i i)
noncomputable def Row.out (r : Row) (m : Mem) : Option (AV × Mem) := delTrK r.hw m.h fun t => toTrK r.h' t fun t => some (r.v, ⟨t, r.nx'⟩)
noncomputable def Row.okB (E : FunE) (r : Row) : Bool := Bool.rec false (Bool.rec false (Bool.rec false (Bool.rec false (Bool.rec false
  (toTrK r.hr .leaf fun t => toTrK r.hw t fun t => Option.rec false (fun q => Bool.rec false (Bool.rec false (Bool.rec false (Bool.rec false
      (allB (fun p => Bool.rec (Option.rec true (fun _ => false) (q.2.h.get p.1)) true (Option.rec false (fun _ => true) (look r.h' p.1) : Bool)) r.hw)
      (hasO r.h' q.2)) (hasO r.hr q.2)) (Nat.beq q.2.nx r.nx')) (beqV r.v q.1)) (E r.i r.args ⟨t, r.nx⟩))
  (allB (fun p => Bool.rec (Option.rec false (fun _ => true) (look r.hw p.1)) true (Nat.ble r.nx p.1)) r.h')) (Nat.ble r.nx r.nx')) (smallL r.h')) (smallL r.hw)) (smallL r.hr)
theorem and_rec {a b : Bool} (h : (Bool.rec false b a : Bool) = true) : a = true ∧ b = true := by
  cases a with
  | false => cases h
  | true => exact ⟨rfl, h⟩
section
variable {P : Program}
theorem Row.ok {E : FunE} (hE : FunOk P E) {r : Row} (hr : r.okB E = true) {G : World} {i : Nat} {args : List AV} {m m' : Mem} {v : AV} {σ : Sg} {As : List Value} {F : Fm} {L : Blocks} (hf : r.fits i args m = true) (e : r.out m = some (v, m')) (hA : DenL σ args As) (hm : MemR σ m F L) : Spec P G i As.toArray L (Post σ v m' F) := by
  classical
  obtain ⟨f1, hf⟩ := and_rec hf
  obtain ⟨f2, hf⟩ := and_rec hf
  obtain ⟨f3, hf⟩ := and_rec hf
  obtain ⟨f4, f5⟩ := and_rec hf
  obtain rfl := Nat.eq_of_beq_eq_true f1
  have hnx := Nat.eq_of_beq_eq_true f2
  have hargs := beqVs_eq _ _ f3
  obtain ⟨s1, hr⟩ := and_rec hr
  obtain ⟨s2, hr⟩ := and_rec hr
  obtain ⟨s3, hr⟩ := and_rec hr
  obtain ⟨hle, hr⟩ := and_rec hr
  obtain ⟨hnew, hr⟩ := and_rec hr
  have hle := Nat.le_of_ble_eq_true hle
  rw [toTrK_eq, toTrK_eq] at hr
  unfold Row.out at e
  rw [delTrK_eq, toTrK_eq] at e
  cases e
  cases hq : E r.i r.args ⟨toTr r.hw (toTr r.hr .leaf), r.nx⟩ with
  | none => rw [hq] at hr; cases hr
  | some q =>
    rw [hq] at hr
    obtain ⟨u, m1⟩ := q
    dsimp only at hr
    obtain ⟨t1, hr⟩ := and_rec hr
    obtain ⟨t2, hr⟩ := and_rec hr
    obtain ⟨t3, hr⟩ := and_rec hr
    obtain ⟨t4, t5⟩ := and_rec hr
    have hv := beqV_eq _ _ t1
    have hn1 := Nat.eq_of_beq_eq_true t2
    -- what is handed over
    let dom : Nat → Prop := fun i => (look r.hw i).isSome = true ∨ (look r.hr i).isSome = true
    have hk : ∀ i, (toTr r.hw (toTr r.hr .leaf)).get i = (look r.hw i).or (look r.hr i) := fun i => by
      rw [toTr_get s2, toTr_get s1]
      cases look r.hr i <;> rfl
    have hkm : ∀ i o, (toTr r.hw (toTr r.hr .leaf)).get i = some o → m.h.get i = some o := fun i o h => by
      rw [hk] at h
      cases h1 : look r.hw i with
      | some o' => rw [h1] at h; cases h; exact hasO_look f5 i _ h1
      | none => rw [h1] at h; exact hasO_look f4 i o h
    have hkd : ∀ i, dom i → ∃ o, (toTr r.hw (toTr r.hr .leaf)).get i = some o := fun i h => by
      rw [hk]
      rcases h with h | h
      · obtain ⟨o, h⟩ := Option.isSome_iff_exists.1 h
        exact ⟨o, by rw [h]; rfl⟩
      · obtain ⟨o, h⟩ := Option.isSome_iff_exists.1 h
        cases h1 : look r.hw i with
        | some o' => exact ⟨o', rfl⟩
        | none => exact ⟨o, h⟩
    have hdk : ∀ i o, (toTr r.hw (toTr r.hr .leaf)).get i = some o → dom i := fun i o h => by
      rw [hk] at h
      cases h1 : look r.hw i with
      | some o' => exact Or.inl (by rw [h1]; rfl)
      | none => rw [h1] at h; exact Or.inr (by rw [show look r.hr i = some o from h]; rfl)
    let B : Blocks := L.filter fun p => decide (∀ j o x, dom j → m.h.get j = some o → σ j = some x → p.1 ≠ x.1)
    have hB : ∀ p, p ∈ B ↔ p ∈ L ∧ ∀ j o x, dom j → m.h.get j = some o → σ j = some x → p.1 ≠ x.1 := fun p => by
      show p ∈ L.filter _ ↔ _
      rw [List.mem_filter]
      simp
    have hFB : ∀ p ∈ F.b, p ∈ B := fun p hp => (hB p).2 ⟨hm.frame p hp, fun j o x _ h1 h2 => hm.apart j o x h1 h2 p hp⟩
    let z1 : Nat → Option AO := fun i => if dom i then F.z i else none
    let F1 : Fm := ⟨B, z1, fun i => i < m.nx ∧ σ i = none ∧ z1 i = none⟩
    have hm1 : MemR σ ⟨toTr r.hw (toTr r.hr .leaf), r.nx⟩ F1 L := by
      refine ⟨fun i o x h h2 => hm.get i o x (hkm i o h) h2, fun i j o o' x y h h' h2 h3 h4 => hm.inj i j o o' x y (hkm i o h) (hkm j o' h') h2 h3 h4, fun p hp => ((hB p).1 hp).1, fun i o x h h2 p hp => ((hB p).1 hp).2 i o x (hdk i o h) (hkm i o h) h2, fun i o h => ?_, fun i hi => hm.fresh i (by rw [← hnx]; exact hi), fun i o h => by rw [hnx]; exact hm.below i o (hkm i o h), hm.glb, fun i h => ⟨h.2.1, h.2.2, by rw [hnx]; exact h.1⟩⟩
      have h : (if dom i then F.z i else none) = some o := h
      by_cases c : dom i
      · rw [if_pos c] at h
        obtain ⟨g1, g2, g3⟩ := hm.ghost i o h
        obtain ⟨o', ho'⟩ := hkd i c
        have := hkm i o' ho'
        rw [g2] at this
        cases this
        exact ⟨g1, ho', by rw [hnx]; exact g3⟩
      · rw [if_neg c] at h; cases h
    have hsp := hE (G := G) hq (hargs ▸ hA) hm1
    refine hsp.mono fun V M ⟨σ', k1, k2, k3⟩ => ?_
    rw [← hv] at k2
    refine ⟨σ', k1, k2, ?_⟩
    have hget : ∀ i, (toTr r.h' (delTr r.hw m.h)).get i = (look r.h' i).or (if (look r.hw i).isSome then none else m.h.get i) := fun i => by rw [toTr_get s3, delTr_get s2]
    have hz1 : ∀ i, ¬ dom i → z1 i = none := fun i c => if_neg c
    have dead : ∀ i, i < m.nx → σ i = none → z1 i = none → σ' i = none := fun i h1 h2 h3 => (k3.dead i ⟨h1, h2, h3⟩).1
    -- what is known: from within, or from beside
    have cases2 : ∀ i o, (toTr r.h' (delTr r.hw m.h)).get i = some o → m1.h.get i = some o ∨ (¬ dom i ∧ m.h.get i = some o) := fun i o h => by
      rw [hget] at h
      cases h1 : look r.h' i with
      | some o' => rw [h1] at h; cases h; exact Or.inl (hasO_look t4 i _ h1)
      | none =>
        rw [h1] at h
        have h : (if (look r.hw i).isSome then none else m.h.get i) = some o := h
        cases h2 : look r.hw i with
        | some o' => rw [h2] at h; cases h
        | none =>
          rw [h2] at h
          have h : m.h.get i = some o := h
          cases h3 : look r.hr i with
          | some o' =>
            have := hasO_look f4 i _ h3
            rw [h] at this
            cases this
            exact Or.inl (hasO_look t3 i _ h3)
          | none =>
            refine Or.inr ⟨fun c => ?_, h⟩
            rcases c with c | c
            · rw [h2] at c; cases c
            · rw [h3] at c; cases c
    have beside : ∀ i o x, ¬ dom i → m.h.get i = some o → σ' i = some x → σ i = some x ∧ ∃ O, DenO σ' x.2 o O ∧ (x.1, O) ∈ B := fun i o x c h h2 => by
      have h3 : σ i = some x := by
        cases hs : σ i with
        | none => rw [dead i (hm.below i o h) hs (hz1 i c)] at h2; cases h2
        | some y => rw [k1 i y hs] at h2; exact h2
      obtain ⟨O, g1, g2⟩ := hm.get i o x h h3
      refine ⟨h3, O, g1.mono k1, (hB _).2 ⟨g2, fun j o' y hj h4 h5 e => ?_⟩⟩
      have := hm.inj i j o o' x y h h4 h3 h5 e
      subst this
      exact c hj
    refine ⟨fun i o x h h2 => ?_, fun i j o o' x y h h' h2 h3 h4 => ?_, fun p hp => k3.frame p (hFB p hp), fun i o x h h2 p hp => ?_, fun i o h => ?_, fun i hi => k3.fresh i (by rw [hn1]; exact hi), fun i o h => ?_, k3.glb, fun i h => ?_⟩
    · rcases cases2 i o h with h | ⟨c, h⟩
      · exact k3.get i o x h h2
      · obtain ⟨_, O, g1, g2⟩ := beside i o x c h h2
        exact ⟨O, g1, k3.frame _ g2⟩
    · rcases cases2 i o h with h | ⟨c, h⟩
      · rcases cases2 j o' h' with h' | ⟨c', h'⟩
        · exact k3.inj i j o o' x y h h' h2 h3 h4
        · obtain ⟨_, O, g1, g2⟩ := beside j o' y c' h' h3
          exact absurd h4.symm (k3.apart i o x h h2 _ g2)
      · obtain ⟨q1, O, g1, g2⟩ := beside i o x c h h2
        rcases cases2 j o' h' with h' | ⟨c', h'⟩
        · exact absurd h4 (k3.apart j o' y h' h3 _ g2)
        · obtain ⟨q2, _⟩ := beside j o' y c' h' h3
          exact hm.inj i j o o' x y h h' q1 q2 h4
    · rcases cases2 i o h with h | ⟨c, h⟩
      · exact k3.apart i o x h h2 p (hFB p hp)
      · exact hm.apart i o x h (beside i o x c h h2).1 p hp
    · obtain ⟨g1, g2, g3⟩ := hm.ghost i o h
      have hnh : i < r.nx := by rw [hnx]; exact g3
      by_cases c : dom i
      · have hz : F1.z i = some o := by show (if dom i then F.z i else none) = _; rw [if_pos c]; exact h
        obtain ⟨q1, q2, q3⟩ := k3.ghost i o hz
        refine ⟨q1, ?_, by dsimp only; omega⟩
        show (toTr r.h' (delTr r.hw m.h)).get i = some o
        rw [hget]
        cases h1 : look r.h' i with
        | some o' =>
          have := hasO_look t4 i _ h1
          rw [q2] at this
          rw [this]; rfl
        | none =>
          show (if (look r.hw i).isSome then none else m.h.get i) = some o
          cases h2 : look r.hw i with
          | none => exact g2
          | some o' =>
            exfalso
            have : ∃ p ∈ r.hw, p.1 = i := by
              clear f5 s2 t5 hr hk hkm hkd hdk hnew hget cases2
              revert h2
              generalize r.hw = l
              intro h2
              induction l with
              | nil => cases h2
              | cons p l ih =>
                rw [look_cons] at h2
                by_cases c : i = p.1
                · exact ⟨p, List.mem_cons_self .., c.symm⟩
                · rw [if_neg c] at h2
                  obtain ⟨p', hp', e'⟩ := ih h2
                  exact ⟨p', List.mem_cons_of_mem _ hp', e'⟩
            obtain ⟨p, hp, rfl⟩ := this
            have := allB_ok t5 p hp
            rw [h1, q2] at this
            cases this
      · refine ⟨dead i g3 g1 (hz1 i c), ?_, by dsimp only; omega⟩
        show (toTr r.h' (delTr r.hw m.h)).get i = some o
        rw [hget]
        have h2 : look r.hw i = none := by
          cases h2 : look r.hw i with
          | none => rfl
          | some o' => exact absurd (Or.inl (by rw [h2]; rfl)) c
        have h1 : look r.h' i = none := by
          cases h1 : look r.h' i with
          | none => rfl
          | some o' =>
            exfalso
            have : ∃ p ∈ r.h', p.1 = i := by
              clear s3 t4 hr hnew hget cases2
              revert h1
              generalize r.h' = l
              intro h1
              induction l with
              | nil => cases h1
              | cons p l ih =>
                rw [look_cons] at h1
                by_cases c : i = p.1
                · exact ⟨p, List.mem_cons_self .., c.symm⟩
                · rw [if_neg c] at h1
                  obtain ⟨p', hp', e'⟩ := ih h1
                  exact ⟨p', List.mem_cons_of_mem _ hp', e'⟩
            obtain ⟨p, hp, rfl⟩ := this
            have := allB_ok hnew p hp
            rw [h2] at this
            cases hb : Nat.ble r.nx p.1 with
            | false => rw [hb] at this; cases this
            | true => have := Nat.le_of_ble_eq_true hb; omega
        rw [h1, h2]
        exact g2
    · rcases cases2 i o h with h | ⟨c, h⟩
      · have := k3.below i o h; rw [hn1] at this; exact this
      · have := hm.below i o h; dsimp only; omega
    · obtain ⟨g1, g2, g3⟩ := hm.dead i h
      have hz : z1 i = none := by
        show (if dom i then F.z i else none) = none
        split
        · exact g2
        · rfl
      exact ⟨dead i g3 g1 hz, g2, by dsimp only; omega⟩
end
/-! ### functions by rows -/
noncomputable def memoE (rows : List Row) (E : FunE) : FunE := fun i args m => List.rec (E i args m) (fun r _ ih => Bool.rec ih (r.out m) (r.fits i args m)) rows
theorem memoE_ok {P : Program} {E : FunE} (hE : FunOk P E) : ∀ {rows : List Row}, (∀ r ∈ rows, ∃ E0, FunOk P E0 ∧ r.okB E0 = true) → FunOk P (memoE rows E)
  | [], h => hE
  | r :: rows, h => by
    rename_i G i args m v m' σ As F L
    intro e hA hm
    have e : (Bool.rec (memoE rows E i args m) (r.out m) (r.fits i args m) : Option (AV × Mem)) = some (v, m') := e
    cases hf : r.fits i args m with
    | false =>
      rw [hf] at e
      exact memoE_ok hE (fun r hr => h r (List.mem_cons_of_mem _ hr)) e hA hm
    | true =>
      rw [hf] at e
      obtain ⟨E0, h1, h2⟩ := h r (List.mem_cons_self ..)
      exact Row.ok h1 h2 hf e hA hm
/-- Functions of which some are told by rows. -/
noncomputable def funY (P : Program) (H : Nat → Nat) (k : Nat) (X : Own) (g : List Nat) (rows : List Row) (d : Nat) : FunE := Nat.rec (fun _ _ _ => none) (fun _ ih i args m => Bool.rec (Option.rec (stepC P H (fun n c => codeE P ih n k c) i args m) (fun f => f ih args m) (X i)) (memoE rows (stepC P H (fun n c => codeE P ih n k c)) i args m) (hasN g i)) d
theorem funY_ok (P : Program) (hmix : P.follows .mixedOrders = true) (H : Nat → Nat) (k : Nat) {X : Own} (hX : OwnOk P X) {g : List Nat} {rows : List Row} (hrows : ∀ r ∈ rows, ∃ E0, FunOk P E0 ∧ r.okB E0 = true) : ∀ d : Nat, FunOk P (funY P H k X g rows d)
  | 0 => fun e => by cases e
  | d + 1 => by
    rename_i G i args m v m' σ As F L
    intro e hA hm
    have ih : FunOk P (funY P H k X g rows d) := funY_ok P hmix H k hX hrows d
    have hstep : FunOk P (stepC P H fun n c => codeE P (funY P H k X g rows d) n k c) := fun e hA hm => stepC_ok (fun n c => codeE_ok hmix ih c) e hA hm
    have e : (Bool.rec (Option.rec (stepC P H (fun n c => codeE P (funY P H k X g rows d) n k c) i args m) (fun f => f (funY P H k X g rows d) args m) (X i)) (memoE rows (stepC P H (fun n c => codeE P (funY P H k X g rows d) n k c)) i args m) (hasN g i) : Option (AV × Mem)) = some (v, m') := e
    cases hb : hasN g i with
    | true => rw [hb] at e; exact memoE_ok hstep hrows e hA hm
    | false =>
      rw [hb] at e
      cases hx : X i with
      | none => rw [hx] at e; exact hstep e hA hm
      | some f => rw [hx] at e; exact hX i f hx _ ih e hA hm
end Go.Proofs.YtlicehodjhoamaaGreatDoor.Ev
namespace Go.Proofs.YtlicehodjhoamaaGreatDoor.Ev
open Go
set_option linter.unusedVariables false
set_option linter.unusedSimpArgs false
def hdN : List Nat → Nat
  | [] => 0
  | x :: _ => x
def tlN : List Nat → List Nat
  | [] => []
  | _ :: l => l
def kindN (n : Nat) : IntKind := Nat.rec .i8 (fun n _ => Nat.rec .i16 (fun n _ => Nat.rec .i32 (fun n _ => Nat.rec .i64 (fun n _ => Nat.rec .u8 (fun n _ => Nat.rec .u16 (fun n _ => Nat.rec .u32 (fun _ _ => .u64) n) n) n) n) n) n) n
noncomputable def repN {α : Type} (n : Nat) (x : α) (l : List α) : List α := Nat.rec l (fun _ ih => x :: ih) n
/-- So many values; 30, how many, a value: it so many times. -/
noncomputable def decL (d : List Nat → AV × List Nat) (n : Nat) : List Nat → List AV × List Nat := Nat.rec (motive := fun _ => List Nat → List AV × List Nat) (fun l => ([], l))
  (fun _ ih l => Bool.rec
    ((fun q => (fun r => (q.1 :: r.1, r.2)) (ih q.2)) (d l))
    ((fun q => (fun r => (repN (hdN (tlN l)) q.1 r.1, r.2)) (ih q.2)) (d (tlN (tlN l)))) (Nat.beq (hdN l) 30)) n
noncomputable def pickN {α : Type} (n : Nat) (x : α) (l : List α) : α := Option.rec x (fun y => y) (nth l n)
noncomputable def decV (f : Nat) : List Nat → AV × List Nat := Nat.rec (motive := fun _ => List Nat → AV × List Nat) (fun l => (.und, l))
  (fun _ ih l => (fun t r => pickN t (AV.und, r) [(.bool false, r), (.bool true, r), (.int (kindN (hdN r)) (.ofNat (hdN (tlN r))), tlN (tlN r)), (.int (kindN (hdN r)) (.negSucc (hdN (tlN r))), tlN (tlN r)),
    (.str (List.take (hdN r) (tlN r)), List.drop (hdN r) (tlN r)), (.ptr0, r), (.ptr (hdN r) (hdN (tlN r)), tlN (tlN r)), (.slc0 (hdN r), tlN r),
    (.slc (hdN r) (hdN (tlN r)) (hdN (tlN (tlN r))) (.num (hdN (tlN (tlN (tlN r))))), tlN (tlN (tlN (tlN r)))), (.slc (hdN r) (hdN (tlN r)) (hdN (tlN (tlN r))) (.rest (hdN (tlN (tlN (tlN r))))), tlN (tlN (tlN (tlN r)))),
    (.slcE, r), (.mp0, r), (.mp (hdN r), tlN r), ((fun q => (.fn (hdN r) q.1, q.2)) (decL ih (hdN (tlN r)) (tlN (tlN r)))), (.nilFn, r), ((fun q => (.ifc (hdN r) q.1, q.2)) (ih (tlN r))), (.nilI, r),
    ((fun q => (.agg q.1, q.2)) (decL ih (hdN r) (tlN r))), ((fun q => (.tup q.1, q.2)) (decL ih (hdN r) (tlN r))), (.und, r),
    (.int .i64 (.ofNat (hdN r)), tlN r), (.int .u16 (.ofNat (hdN r)), tlN r), (.int .u8 (.ofNat (hdN r)), tlN r), (.ptrK (hdN r), tlN r)]) (hdN l) (tlN l)) f
noncomputable def decP (n : Nat) : List Nat → List (AV × AV) × List Nat := Nat.rec (motive := fun _ => List Nat → List (AV × AV) × List Nat) (fun l => ([], l))
  (fun _ ih l => (fun a => (fun b => (fun r => ((a.1, b.1) :: r.1, r.2)) (ih b.2)) (decV 20 a.2)) (decV 20 l)) n
/-- An object: 0 groups cells type; 1 groups cells n type size lo; 2 groups cells n type; 3 entries; 4 number. -/
noncomputable def decO (l : List Nat) : AO × List Nat := (fun t r => pickN t (AO.it 0, r) [
    ((fun q => (.cells q.1 (hdN q.2), tlN q.2)) (decL (decV 20) (hdN r) (tlN r))),
    ((fun q => (.row q.1 (hdN q.2) (hdN (tlN q.2)) (hdN (tlN (tlN q.2))) (hdN (tlN (tlN (tlN q.2)))), tlN (tlN (tlN (tlN q.2))))) (decL (decV 20) (hdN r) (tlN r))),
    ((fun q => (.rowF q.1 (hdN q.2) (hdN (tlN q.2)), tlN (tlN q.2))) (decL (decV 20) (hdN r) (tlN r))),
    ((fun q => (.map q.1, q.2)) (decP (hdN r) (tlN r))),
    (.it (hdN r), tlN r)]) (hdN l) (tlN l)
noncomputable def decH (n : Nat) : List Nat → List (Nat × AO) × List Nat := Nat.rec (motive := fun _ => List Nat → List (Nat × AO) × List Nat) (fun l => ([], l))
  (fun _ ih l => (fun o => (fun r => ((hdN l, o.1) :: r.1, r.2)) (ih o.2)) (decO (tlN l))) n
/-- A row: the function, how many values, they; nx; objects that are read; objects that are written; the value; nx; objects. -/
noncomputable def rowN (l : List Nat) : Row := (fun a => (fun r => (fun w => (fun v => (fun h => ⟨hdN l, a.1, hdN a.2, r.1, w.1, v.1, hdN v.2, h.1⟩) (decH (hdN (tlN v.2)) (tlN (tlN v.2)))) (decV 20 w.2)) (decH (hdN r.2) (tlN r.2))) (decH (hdN (tlN a.2)) (tlN (tlN a.2)))) (decL (decV 20) (hdN (tlN l)) (tlN (tlN l)))
end Go.Proofs.YtlicehodjhoamaaGreatDoor.Ev
namespace Go.Proofs.YtlicehodjhoamaaGreatDoor.Ev
open Go
set_option linter.unusedVariables false
set_option linter.unusedSimpArgs false
noncomputable def ownM (P : Program) (H : Nat → Nat) (Z : FunE → Iter) (l : List Nat) (X : Own) : Own := fun i => Bool.rec (X i) (some (markF P H Z i)) (hasN l i)
theorem ownM_ok {P : Program} (hmix : P.follows .mixedOrders = true) (H : Nat → Nat) {Z : FunE → Iter} (hZ : ∀ E, FunOk P E → IterOk P (Z E)) (l : List Nat) {X : Own} (hX : OwnOk P X) : OwnOk P (ownM P H Z l X) := by
  intro i f hx E hE G args m v m' σ As F L e hA hm
  unfold ownM at hx
  cases hb : hasN l i with
  | false => rw [hb] at hx; exact hX i f hx E hE e hA hm
  | true =>
    rw [hb] at hx
    cases hx
    exact markF_ok hmix hE (hZ E hE) e hA hm
end Go.Proofs.YtlicehodjhoamaaGreatDoor.Ev
namespace Go.Proofs.YtlicehodjhoamaaGreatDoor.Ev
open Go
set_option linter.unusedVariables false
set_option linter.unusedSimpArgs false
def selfP (p : AV) (i : Nat) : Bool := match p with
  | .ptr0 => true
  | .ptr j 0 => Nat.beq j i
  | _ => false
theorem selfP_ok {p : AV} {i : Nat} {σ : Sg} {V : Value} {y : Nat × Nat} (h : selfP p i = true) (hy : σ i = some y) (hv : Den σ p V) : V = .pointer none ∨ V = .pointer (some ⟨y.1, 0, none⟩) := by
  unfold selfP at h
  split at h
  · left
    simpa [Den] using hv
  · rename_i j
    obtain rfl := Nat.eq_of_beq_eq_true h
    simp only [Den] at hv
    obtain ⟨z, hz, rfl⟩ := hv
    rw [hy] at hz
    cases hz
    exact Or.inr rfl
  · cases h
noncomputable def chkA (tb : Nat) (args : List AV) (m : Mem) : Option (AV × Mem) := match args with
  | [.ptr i 0] => ob (m.h.get i) fun o => match o with
    | .cells [p, v] e => bo (Nat.beq e tb) (bo (selfP p i) (bo (Nat.blt (Nat.succ i) 1000000) (Tr.setK 20 m.h i (.cells [.ptr i 0, v] e) fun h => some (.und, ⟨h, m.nx⟩))))
    | _ => none
  | _ => none
noncomputable def u8K {β : Type} (v : AV) (f : Nat → Option β) : Option β := match v with
  | .int .u8 (.ofNat b) => f b
  | _ => none
theorem u8K_some {β : Type} {v : AV} {f : Nat → Option β} {r : β} (h : u8K v f = some r) : ∃ b, v = .int .u8 (.ofNat b) ∧ f b = some r := by
  unfold u8K at h
  split at h
  · exact ⟨_, rfl, h⟩
  · cases h
noncomputable def u8s (l : List AV) : Option (List Nat) := List.rec (some []) (fun v _ ih => u8K v fun b => bo (Nat.blt b 256) (ob ih fun r => some (b :: r))) l
theorem u8s_ok {σ : Sg} : ∀ {l : List AV} {r : List Nat} {Ls : List Value}, u8s l = some r → DenL σ l Ls → (∀ b ∈ r, b < 256) ∧ Ls = (r.map UInt8.ofNat).map fun c => Value.int .u8 (c.toNat : Int)
  | [], r, Ls, e, h => by
    cases e
    obtain rfl := h.inv0
    exact ⟨by simp, rfl⟩
  | v :: l, r, Ls, e, h => by
    obtain ⟨b, rfl, e1⟩ := u8K_some (show u8K v (fun b => bo (Nat.blt b 256) (ob (u8s l) fun r => some (b :: r))) = some r from e)
    obtain ⟨hb, e2⟩ := bo_some e1
    obtain ⟨r', hr, e3⟩ := ob_some e2
    cases e3
    have hb : b < 256 := by simpa using hb
    obtain ⟨V, M, rfl, h1, h2⟩ := h.inv
    obtain ⟨k1, rfl⟩ := u8s_ok hr h2
    obtain rfl : V = .int .u8 (Int.ofNat b) := by simpa [Den] using h1
    refine ⟨fun x hx => ?_, ?_⟩
    · rcases List.mem_cons.1 hx with rfl | hx
      · exact hb
      · exact k1 x hx
    · rw [List.map_cons, List.map_cons]
      congr 2
      show (b : Int) = ((UInt8.ofNat b).toNat : Int)
      congr 1
      simp
      omega
/-- The bytes of a row. -/
noncomputable def rowB (o : AO) (te n : Nat) : Option (List Nat) := match o with
  | .row l k e sz _ => bo (Nat.beq e te) (bo (Nat.beq k n) (bo (Nat.beq sz 1) (u8s l)))
  | .rowF l k e => bo (Nat.beq e te) (bo (Nat.beq k n) (u8s l))
  | _ => none
noncomputable def strA (tb te : Nat) (args : List AV) (m : Mem) : Option (AV × Mem) := match args with
  | [.ptr i 0] => ob (m.h.get i) fun o => match o with
    | .cells [p, .slc j 0 n (.rest 0)] e => bo (Nat.beq e tb) (bo (selfP p i) (bo (Nat.blt 0 n) (bo (notB (Nat.beq i j)) (ob (m.h.get j) fun q => ob (rowB q te n) fun l => delK m i fun m => delK m j fun m => some (.str l, m)))))
    | _ => none
  | _ => none
section
variable {P : Program} {G : World} {F : Fm} {σ : Sg} {L : Blocks}
theorem chkA_ok {f tb : Nat} (hspec : ∀ {G : World} {L : Blocks} (b : Nat) (p v : Value), p = .pointer none ∨ p = .pointer (some ⟨b, 0, none⟩) → Spec P G f #[.pointer (some ⟨b, 0, none⟩)] ((b, .cells #[p, v] tb (0, 0)) :: L) fun u M => M = (b, .cells #[.pointer (some ⟨b, 0, none⟩), v] tb (0, 0)) :: L)
    {args : List AV} {m m' : Mem} {r : AV} {As : List Value} (e : chkA tb args m = some (r, m')) (hA : DenL σ args As) (hm : MemR σ m F L) : Spec P G f As.toArray L (Post σ r m' F) := by
  unfold chkA at e
  split at e
  · rename_i i
    obtain ⟨o, ho, e⟩ := ob_some e
    split at e
    · rename_i p v te
      obtain ⟨h1, e⟩ := bo_some e
      obtain ⟨h2, e⟩ := bo_some e
      obtain ⟨h3, e⟩ := bo_some e
      rw [Tr.setK_eq] at e
      cases e
      obtain rfl := Nat.eq_of_beq_eq_true h1
      have h3 : i + 1 < 1000000 := Eq.mp Nat.blt_eq h3
      obtain ⟨A, _, rfl, a1, a2⟩ := hA.inv
      obtain rfl := a2.inv0
      simp only [Den] at a1
      obtain ⟨y, hy, rfl⟩ := a1
      obtain ⟨O, ⟨Ls, hL, rfl⟩, h4⟩ := hm.get i _ y ho hy
      obtain ⟨B, _, rfl, b1, b2⟩ := hL.inv
      obtain ⟨C, _, rfl, c1, c2⟩ := b2.inv
      obtain rfl := c2.inv0
      obtain ⟨s, t, rfl⟩ := List.append_of_mem h4
      have hp : (s ++ (y.1, Obj.cells [B, C].toArray te (0, 0)) :: t).Perm ((y.1, Obj.cells [B, C].toArray te (0, 0)) :: (s ++ t)) := List.perm_middle
      refine ⟨fun w hw => Calls.mono ((hspec y.1 B C (selfP_ok h2 hy b1)).out w (hw.perm hp)) fun e w' hh => ?_⟩
      obtain ⟨u, M, rfl, rfl, k3⟩ := hh
      refine ⟨u, _, rfl, ⟨σ, σ.le_refl, by simp [Den], hm.write ho hy hp (by omega) ⟨[.pointer (some ⟨y.1, 0, none⟩), C], .cons ?_ (.cons c1 .nil), rfl⟩⟩, k3⟩
      simp only [Den]
      exact ⟨y, hy, rfl⟩
    · cases e
  · cases e
theorem rowB_ok {o : AO} {te n κ : Nat} {l : List Nat} {O : Obj} (e : rowB o te n = some l) (h : DenO σ κ o O) : (∀ b ∈ l, b < 256) ∧ l.length = n ∧ ∃ cur fr, O = .cells cur te fr ∧ n ≤ κ ∧ κ ≤ maxLen ∧ cur.size = κ ∧ cur.toList.take n = (l.map UInt8.ofNat).map fun c => Value.int .u8 (c.toNat : Int) := by
  unfold rowB at e
  split at e
  · obtain ⟨h1, e1⟩ := bo_some e
    obtain ⟨h2, e2⟩ := bo_some e1
    obtain ⟨h3, e3⟩ := bo_some e2
    obtain rfl := Nat.eq_of_beq_eq_true h1
    obtain rfl := Nat.eq_of_beq_eq_true h2
    obtain rfl := Nat.eq_of_beq_eq_true h3
    obtain ⟨Ls, cur, q1, rfl, q2, q3, q4, q5, q6, q7⟩ := h
    have hl := q1.length
    obtain ⟨k1, rfl⟩ := u8s_ok e3 q1
    simp only [List.length_map] at hl
    exact ⟨k1, by omega, cur, _, rfl, q3, q5, by omega, by rw [Nat.mul_one] at q7; exact q7⟩
  · obtain ⟨h1, e1⟩ := bo_some e
    obtain ⟨h2, e2⟩ := bo_some e1
    obtain rfl := Nat.eq_of_beq_eq_true h1
    obtain rfl := Nat.eq_of_beq_eq_true h2
    obtain ⟨Ls, cur, fr, q1, rfl, q2, q3, q4, q5, q6, q7⟩ := h
    have hl := q1.length
    obtain ⟨k1, rfl⟩ := u8s_ok e2 q1
    simp only [List.length_map] at hl
    exact ⟨k1, by omega, cur, fr, rfl, q3, q4, q5, q6⟩
  · cases e
theorem strA_ok {f tb te : Nat} (hspec : ∀ {G : World} {L : Blocks} (b g cap : Nat) (p : Value) (l : List UInt8) (cur : Array Value) (fr : Nat × Nat), p = .pointer none ∨ p = .pointer (some ⟨b, 0, none⟩) → l ≠ [] → l.length ≤ cap → cap ≤ maxLen → cur.size = cap → cur.toList.take l.length = (l.map fun c => Value.int .u8 (c.toNat : Int)) →
      Spec P G f #[.pointer (some ⟨b, 0, none⟩)] ((b, .cells #[p, .slice (some ⟨g, 0, none⟩) l.length cap] tb (0, 0)) :: (g, .cells cur te fr) :: L) fun u M => u = .string (bs l) ∧ M = L)
    {args : List AV} {m m' : Mem} {r : AV} {As : List Value} (e : strA tb te args m = some (r, m')) (hA : DenL σ args As) (hm : MemR σ m F L) : Spec P G f As.toArray L (Post σ r m' F) := by
  unfold strA at e
  split at e
  · rename_i i
    obtain ⟨o, ho, e⟩ := ob_some e
    split at e
    · rename_i p j n tb'
      obtain ⟨h1, e⟩ := bo_some e
      obtain ⟨h2, e⟩ := bo_some e
      obtain ⟨h3, e⟩ := bo_some e
      obtain ⟨hij, e⟩ := bo_some e
      obtain ⟨q, hq, e⟩ := ob_some e
      obtain ⟨l, hl, e⟩ := ob_some e
      obtain ⟨hi, e⟩ := delK_some e
      obtain ⟨hj, e⟩ := delK_some e
      cases e
      obtain rfl := Nat.eq_of_beq_eq_true h1
      have hne : j ≠ i := fun h => by
        rw [notB_eq, h, Nat.beq_refl] at hij
        cases hij
      have h3 : 0 < n := Eq.mp Nat.blt_eq h3
      obtain ⟨A, _, rfl, a1, a2⟩ := hA.inv
      obtain rfl := a2.inv0
      simp only [Den] at a1
      obtain ⟨y, hy, rfl⟩ := a1
      obtain ⟨O, ⟨Ls, hL, rfl⟩, h4⟩ := hm.get i _ y ho hy
      obtain ⟨B, _, rfl, b1, b2⟩ := hL.inv
      obtain ⟨C, _, rfl, c1, c2⟩ := b2.inv
      obtain rfl := c2.inv0
      simp only [Den] at c1
      obtain ⟨z, hz, rfl⟩ := c1
      obtain ⟨s, t, hst⟩ := List.append_of_mem h4
      have hp : L.Perm ((y.1, Obj.cells [B, .slice (some ⟨z.1, 0, none⟩) n (Cp.of z.2 (.rest 0))].toArray tb' (0, 0)) :: (s ++ t)) := by rw [hst]; exact List.perm_middle
      have hm1 := hm.drop ho hy hp (by omega)
      have hq1 : (Tr.del 20 m.h i).get j = some q := by rw [Tr.get_del _ _ _ (by omega), if_neg hne]; exact hq
      obtain ⟨O2, d1, d2⟩ := hm1.get j _ z hq1 hz
      obtain ⟨r1, r2, cur, fr, rfl, r3, r4, r5, r6⟩ := rowB_ok hl d1
      obtain ⟨s2, t2, hst2⟩ := List.append_of_mem d2
      have hp2 : (s ++ t).Perm ((z.1, Obj.cells cur te fr) :: (s2 ++ t2)) := by rw [hst2]; exact List.perm_middle
      have hm2 := hm1.drop hq1 hz hp2 (by omega)
      have hlen : (l.map UInt8.ofNat).length = n := by rw [List.length_map, r2]
      refine ⟨fun w hw => ?_⟩
      have hw2 := hw.perm (hp.trans (hp2.cons _))
      have hsp := hspec (G := G) (L := s2 ++ t2) y.1 z.1 z.2 B (l.map UInt8.ofNat) cur fr (selfP_ok h2 hy b1) (fun h0 => by rw [h0] at hlen; simp at hlen; omega) (by omega) r4 r5 (by rw [hlen]; exact r6)
      rw [hlen] at hsp
      refine Calls.mono (hsp.out w hw2) fun e w' hh => ?_
      obtain ⟨u, M, rfl, ⟨rfl, rfl⟩, k3⟩ := hh
      refine ⟨_, _, rfl, ⟨σ, σ.le_refl, ?_, hm2⟩, k3⟩
      simp only [Den]
      exact ⟨r1, rfl⟩
    · cases e
  · cases e
/-- Own ways, and a builder's. -/
noncomputable def ownB (tb te fc fs : Nat) (X : Own) : Own := fun i => Bool.rec (Bool.rec (X i) (some fun _ => strA tb te) (Nat.beq i fs)) (some fun _ => chkA tb) (Nat.beq i fc)
theorem ownB_ok {tb te fc fs : Nat} {X : Own} (hX : OwnOk P X)
    (h1 : ∀ {G : World} {L : Blocks} (b : Nat) (p v : Value), p = .pointer none ∨ p = .pointer (some ⟨b, 0, none⟩) → Spec P G fc #[.pointer (some ⟨b, 0, none⟩)] ((b, .cells #[p, v] tb (0, 0)) :: L) fun u M => M = (b, .cells #[.pointer (some ⟨b, 0, none⟩), v] tb (0, 0)) :: L)
    (h2 : ∀ {G : World} {L : Blocks} (b g cap : Nat) (p : Value) (l : List UInt8) (cur : Array Value) (fr : Nat × Nat), p = .pointer none ∨ p = .pointer (some ⟨b, 0, none⟩) → l ≠ [] → l.length ≤ cap → cap ≤ maxLen → cur.size = cap → cur.toList.take l.length = (l.map fun c => Value.int .u8 (c.toNat : Int)) →
      Spec P G fs #[.pointer (some ⟨b, 0, none⟩)] ((b, .cells #[p, .slice (some ⟨g, 0, none⟩) l.length cap] tb (0, 0)) :: (g, .cells cur te fr) :: L) fun u M => u = .string (bs l) ∧ M = L) : OwnOk P (ownB tb te fc fs X) := by
  intro i f hx E hE G args m v m' σ As F L e hA hm
  unfold ownB at hx
  cases hb : Nat.beq i fc with
  | true =>
    rw [hb] at hx
    cases hx
    obtain rfl := Nat.eq_of_beq_eq_true hb
    exact chkA_ok h1 e hA hm
  | false =>
    rw [hb] at hx
    cases hb2 : Nat.beq i fs with
    | true =>
      rw [hb2] at hx
      cases hx
      obtain rfl := Nat.eq_of_beq_eq_true hb2
      exact strA_ok h2 e hA hm
    | false =>
      rw [hb2] at hx
      exact hX i f hx E hE e hA hm
end
end Go.Proofs.YtlicehodjhoamaaGreatDoor.Ev
namespace Go.Proofs.YtlicehodjhoamaaGreatDoor.Ev
open Go
set_option linter.unusedVariables false
set_option linter.unusedSimpArgs false
noncomputable def memoK (rows : List (Nat × Row)) (E : FunE) : FunE := fun i args m => List.rec (E i args m) (fun p _ ih => Bool.rec ih (Bool.rec ih (p.2.out m) (p.2.fits i args m)) (Nat.beq p.1 m.nx)) rows
theorem memoK_ok {P : Program} {E : FunE} (hE : FunOk P E) : ∀ {rows : List (Nat × Row)}, (∀ p ∈ rows, ∃ E0, FunOk P E0 ∧ p.2.okB E0 = true) → FunOk P (memoK rows E)
  | [], h => hE
  | p :: rows, h => by
    rename_i G i args m v m' σ As F L
    intro e hA hm
    have e : (Bool.rec (memoK rows E i args m) (Bool.rec (memoK rows E i args m) (p.2.out m) (p.2.fits i args m)) (Nat.beq p.1 m.nx) : Option (AV × Mem)) = some (v, m') := e
    cases hn : Nat.beq p.1 m.nx with
    | false =>
      rw [hn] at e
      exact memoK_ok hE (fun r hr => h r (List.mem_cons_of_mem _ hr)) e hA hm
    | true =>
      rw [hn] at e
      cases hf : p.2.fits i args m with
      | false =>
        rw [hf] at e
        exact memoK_ok hE (fun r hr => h r (List.mem_cons_of_mem _ hr)) e hA hm
      | true =>
        rw [hf] at e
        obtain ⟨E0, h1, h2⟩ := h p (List.mem_cons_self ..)
        exact Row.ok h1 h2 hf e hA hm
/-- Functions of which some are told by rows. -/
noncomputable def funK (P : Program) (H : Nat → Nat) (k : Nat) (X : Own) (g : List Nat) (rows : List (Nat × Row)) (d : Nat) : FunE := Nat.rec (fun _ _ _ => none) (fun _ ih i args m => Bool.rec (Option.rec (stepC P H (fun n c => codeE P ih n k c) i args m) (fun f => f ih args m) (X i)) (memoK rows (stepC P H (fun n c => codeE P ih n k c)) i args m) (hasN g i)) d
theorem funK_ok (P : Program) (hmix : P.follows .mixedOrders = true) (H : Nat → Nat) (k : Nat) {X : Own} (hX : OwnOk P X) {g : List Nat} {rows : List (Nat × Row)} (hrows : ∀ r ∈ rows, ∃ E0, FunOk P E0 ∧ r.2.okB E0 = true) : ∀ d : Nat, FunOk P (funK P H k X g rows d)
  | 0 => fun e => by cases e
  | d + 1 => by
    rename_i G i args m v m' σ As F L
    intro e hA hm
    have ih : FunOk P (funK P H k X g rows d) := funK_ok P hmix H k hX hrows d
    have hstep : FunOk P (stepC P H fun n c => codeE P (funK P H k X g rows d) n k c) := fun e hA hm => stepC_ok (fun n c => codeE_ok hmix ih c) e hA hm
    have e : (Bool.rec (Option.rec (stepC P H (fun n c => codeE P (funK P H k X g rows d) n k c) i args m) (fun f => f (funK P H k X g rows d) args m) (X i)) (memoK rows (stepC P H (fun n c => codeE P (funK P H k X g rows d) n k c)) i args m) (hasN g i) : Option (AV × Mem)) = some (v, m') := e
    cases hb : hasN g i with
    | true => rw [hb] at e; exact memoK_ok hstep hrows e hA hm
    | false =>
      rw [hb] at e
      cases hx : X i with
      | none => rw [hx] at e; exact hstep e hA hm
      | some f => rw [hx] at e; exact hX i f hx _ ih e hA hm
end Go.Proofs.YtlicehodjhoamaaGreatDoor.Ev
namespace Go.Proofs.YtlicehodjhoamaaGreatDoor.Ev
open Go
set_option linter.unusedVariables false
set_option linter.unusedSimpArgs false
noncomputable def cloneS (args : List AV) (m : Mem) : Option (AV × Mem) := match args with
  | [.str l] => Bool.rec (bo (Nat.ble (lenN l) 1000) (some (.str l, ⟨m.h, Nat.succ m.nx⟩))) (some (.str l, m)) (Nat.beq (lenN l) 0)
  | _ => none
noncomputable def ownS (fc : Nat) (X : Own) : Own := fun i => Bool.rec (X i) (some fun _ => cloneS) (Nat.beq i fc)
theorem MemR.next {σ : Sg} {m : Mem} {F : Fm} {L : Blocks} (h : MemR σ m F L) : MemR σ ⟨m.h, Nat.succ m.nx⟩ F L :=
  ⟨h.get, h.inj, h.frame, h.apart, fun i o e => ⟨(h.ghost i o e).1, (h.ghost i o e).2.1, Nat.lt_succ_of_lt (h.ghost i o e).2.2⟩, fun i hi => h.fresh i (Nat.le_of_succ_le hi), fun i o e => Nat.lt_succ_of_lt (h.below i o e), h.glb, fun i hi => ⟨(h.dead i hi).1, (h.dead i hi).2.1, Nat.lt_succ_of_lt (h.dead i hi).2.2⟩⟩
theorem ownS_ok {P : Program} {fc : Nat} {X : Own} (hX : OwnOk P X)
    (hC : ∀ {G : World} {L : Blocks} (l : List UInt8), l ≠ [] → l.length ≤ 1000 → Spec P G fc #[.string (bs l)] L fun u M => u = .string (bs l) ∧ M = L)
    (hC0 : ∀ {G : World} {L : Blocks}, Spec P G fc #[.string (bs [])] L fun u M => u = .string (bs []) ∧ M = L) : OwnOk P (ownS fc X) := by
  intro i f hx E hE G args m v m' σ As F L e hA hm
  unfold ownS at hx
  cases hb : Nat.beq i fc with
  | false => rw [hb] at hx; exact hX i f hx E hE e hA hm
  | true =>
    rw [hb] at hx
    cases hx
    obtain rfl := Nat.eq_of_beq_eq_true hb
    have e : cloneS args m = some (v, m') := e
    unfold cloneS at e
    split at e
    · rename_i l _
      cases hz : Nat.beq (lenN l) 0 with
      | true =>
        rw [hz] at e
        cases e
        have hz := Nat.eq_of_beq_eq_true hz
        rw [lenN_eq] at hz
        obtain rfl := List.eq_nil_of_length_eq_zero hz
        obtain ⟨V, _, rfl, k1, k2⟩ := hA.inv
        obtain rfl := k2.inv0
        have k1' := k1
        simp only [Den] at k1
        obtain ⟨hl, rfl⟩ := k1
        refine ⟨fun w hw => ((hC0 (G := G) (L := L)).out w hw).mono fun e w' hh => ?_⟩
        obtain ⟨u, M, he, ⟨rfl, rfl⟩, hM⟩ := hh
        exact ⟨_, _, he, ⟨σ, σ.le_refl, k1', hm⟩, hM⟩
      | false =>
      rw [hz] at e
      obtain ⟨h2, e⟩ := bo_some e
      cases e
      have h1 : lenN l ≠ 0 := fun h => by rw [h] at hz; cases hz
      have h2 := Nat.le_of_ble_eq_true h2
      rw [lenN_eq] at h1 h2
      obtain ⟨V, _, rfl, k1, k2⟩ := hA.inv
      obtain rfl := k2.inv0
      have k1' := k1
      simp only [Den] at k1
      obtain ⟨hl, rfl⟩ := k1
      refine ⟨fun w hw => ((hC (G := G) (L := L) (l.map UInt8.ofNat) (fun h => ?_) (by simpa using h2)).out w hw).mono fun e w' hh => ?_⟩
      · rw [List.map_eq_nil_iff] at h
        subst h
        exact h1 rfl
      · obtain ⟨u, M, he, ⟨rfl, rfl⟩, hM⟩ := hh
        exact ⟨_, _, he, ⟨σ, σ.le_refl, k1', hm.next⟩, hM⟩
    · cases e
end Go.Proofs.YtlicehodjhoamaaGreatDoor.Ev
namespace Go.Proofs.YtlicehodjhoamaaGreatDoor
open Go.RowKit
theorem follows_mixed : Tryz.prog.follows .mixedOrders = true := by kernel_rfl
theorem pl_48 : plainTy Tryz.prog 48 = true := by kernel_rfl
theorem info_48 : (Tryz.prog.info? 5).map (fun i => (i.zero, i.size, i.bytes)) = some (some (.int .u8 0), 1, 1) := by kernel_rfl
theorem ety_48 : ElemTy Tryz.prog 48 5 1 1 (.int .u8 0) := by
  obtain ⟨i, h1, h2, h3, h4⟩ := info_parts info_48
  exact ⟨Tryz.underlying48, ⟨i, h1, h2, h3, h4⟩, rfl, by decide⟩
theorem pl_83 : plainTy Tryz.prog 83 = true := by kernel_rfl
theorem one_83 : oneTy Tryz.prog 83 = true := by kernel_rfl
theorem fld_85_0 : fieldOff Tryz.prog 85 0 = some 0 := by kernel_rfl
theorem fld_85_1 : fieldOff Tryz.prog 85 1 = some 1 := by kernel_rfl
end Go.Proofs.YtlicehodjhoamaaGreatDoor
namespace Go.Proofs.YtlicehodjhoamaaGreatDoor
open Go.RowKit
set_option linter.unusedVariables false
set_option linter.unusedSimpArgs false
section
variable {G : World} {P : Program} {n : Nat} {ρ : Slots} {L : Blocks} {ty : TypeId} {Q : Exit → Act → World → Prop}
theorem pbin_same {t e : TypeId} {j : TypeInfo} {a : Addr} (hp : P.underlying t = some (.pointer e)) (he : P.info? e = some j) : Bin P .neq t (.pointer (some a)) (.pointer (some a)) (.bool false) := ⟨fun x y w => by
  simp only [eqGuard]
  simpa using Lib.run_neq_ptr_same w a hp he⟩
theorem Has.shape {w : World} {b : Nat} {C : Array Value} {e : TypeId} {fr : Nat × Nat} (h : Has w L) (hm : (b, Obj.cells C e fr) ∈ L) : w.shape? b = some (e, C.size) := by
  unfold World.shape?; rw [h.get _ hm]
theorem op_to_unsafe {s d t : TypeId} {x : Operand} {j : TypeInfo} {b off : Nat} {C : Array Value} {te : TypeId} {fr : Nat × Nat} (hx : ev ρ x = some (.pointer (some ⟨b, off, none⟩))) (hs : P.underlying s = some (.pointer t)) (hd : P.underlying d = some .unsafePointer)
    (ht : P.info? t = some j) (hj : Nat.beq j.size 0 = false) (hm : (b, Obj.cells C te fr) ∈ L) (ho : off < C.size) : OpQ P ρ L (.convert s d x) ty (.pointer (some ⟨b, off, none⟩)) :=
  ⟨fun r hr w hw o ho' _ => by
    simp only [execOp, ho', hr _ _ hx]
    rw [Sem.run_bind, Lib.run_to_unsafe w ⟨b, off, none⟩ hs hd ht (Nat.ne_of_beq_eq_false hj) (hw.shape hm) ho]
    rfl⟩
theorem op_from_unsafe {s d u : TypeId} {x : Operand} {j : TypeInfo} {b off : Nat} {C : Array Value} {te : TypeId} {fr : Nat × Nat} (hx : ev ρ x = some (.pointer (some ⟨b, off, none⟩))) (hs : P.underlying s = some .unsafePointer) (hd : P.underlying d = some (.pointer u))
    (hu : P.info? u = some j) (hm : (b, Obj.cells C te fr) ∈ L) (hl : liesAt P P.depth te (C.size / P.cellsOf te) off u 1 = true) : OpQ P ρ L (.convert s d x) ty (.pointer (some ⟨b, off, none⟩)) :=
  ⟨fun r hr w hw o ho' _ => by
    simp only [execOp, ho', hr _ _ hx]
    rw [Sem.run_bind, Lib.run_from_unsafe w ⟨b, off, none⟩ hs hd hu (hw.shape hm) hl]
    rfl⟩
theorem op_noEscape {f : FuncId} {fn : Func} {x : Operand} {ats : Array TypeId} {v : Value} (hx : ev ρ x = some v) (hf : P.funcs[f]? = some fn) (hname : (fn.name == "runtime.NumGoroutine") = false) (hb : fn.body.isNone = true) (hn : Extern.findNext fn = none) (he : Extern.find fn = some Extern.AbiNoEscape.same) :
    OpQ P ρ L (.call ⟨.value (.func f), #[x], ats⟩) ty v :=
  ⟨fun r hr w hw o ho _ => by
    have hrf : r (.func f) = .func (.func f) #[] #[] := hr _ _ rfl
    have : execOp r o = callFunc f #[v] := by
      simp only [execOp, ho, resolve, hrf, Deferred.ofValue]
      show invoke (.fn (.func f) #[]) _ = _
      simp [invoke, hr _ _ hx]
    rw [this, run_callFunc_extern hf hname hb hn he, Lib.run_noEscape]
    rfl⟩
theorem op_sliceData {x : Operand} {t : TypeId} {g m c : Nat} (hx : ev ρ x = some (.slice (some ⟨g, 0, none⟩) m c)) (hc : c ≠ 0) : OpQ P ρ L (.call ⟨.builtin .unsafeSliceData, #[x], #[t]⟩) ty (.pointer (some ⟨g, 0, none⟩)) :=
  ⟨fun r hr w hw o ho _ => by simp [execOp, ho, hr _ _ hx, resolve, invoke, builtin, Lib.run_unsafeSliceData_row w _ _ _ _ _ hc]⟩
theorem op_unsafeString {x y : Operand} {pt it e : TypeId} {g cap : Nat} {cur : Array Value} {fr : Nat × Nat} {l : List UInt8} (hx : ev ρ x = some (.pointer (some ⟨g, 0, none⟩))) (hy : ev ρ y = some (.int .i64 (l.length : Nat))) (hp : P.underlying pt = some (.pointer e)) (hc : P.cellsOf e = 1)
    (h0 : l ≠ []) (hn : l.length ≤ cap) (hcap : cap ≤ maxLen) (hsz : cur.size = cap) (hcells : ∀ (j : Nat) (c : UInt8), l[j]? = some c → cur[j]? = some (Value.int .u8 (c.toNat : Int))) :
    OpV P G ρ ((g, .cells cur e fr) :: L) (.call ⟨.builtin .unsafeString, #[x, y], #[pt, it]⟩) ty (.string (bs l)) L :=
  .run fun r hr w hw o ho _ => by
    have hm := List.mem_cons_self (a := (g, Obj.cells cur e fr)) (l := L)
    have hrun := Lib.run_unsafeString_row (P := P) w pt it o.type e hp hc g cur.size (hw.has.shape hm) l h0 (by omega) (by unfold maxLen at hcap; omega) (fun j c hj => by rw [addr_add, Nat.zero_add]; exact hw.cell hm (hcells j c hj))
    refine ⟨w.freeze ⟨g, 0, none⟩ l.length, ?_, ?_⟩
    · simp [execOp, ho, hr _ _ hx, hr _ _ hy, resolve, invoke, builtin, hrun]
      rfl
    · refine ⟨hw.still.trans ?_, hw.tail.nodup, fun p hp => ?_⟩
      · unfold World.freeze
        split
        · exact Still.refl _
        · exact ⟨rfl, rfl, rfl, by simp⟩
      · have hne : p.1 ≠ g := hw.ne hp
        unfold World.freeze
        split
        · exact hw.tail.get p hp
        · show (w.heap.modify g _)[p.1]? = _
          rw [Array.getElem?_modify, if_neg (Ne.symm hne)]
          exact hw.tail.get p hp
end

theorem lies_builder : liesAt Tryz.prog Tryz.prog.depth 85 (2 / Tryz.prog.cellsOf 85) 0 85 1 = true := by kernel_rfl
theorem cells_byte : Tryz.prog.cellsOf 5 = 1 := by kernel_rfl
theorem info_builder : (Tryz.prog.info? 85).map (fun i => Nat.beq i.size 0) = some false := by kernel_rfl

set_option maxRecDepth 100000 in
set_option maxHeartbeats 1000000 in
theorem copyCheck_spec {G : World} {L : Blocks} (b : Nat) (p v : Value) (hp : p = .pointer none ∨ p = .pointer (some ⟨b, 0, none⟩)) :
    Spec Tryz.prog G 71 #[.pointer (some ⟨b, 0, none⟩)] ((b, .cells #[p, v] 85 (0, 0)) :: L) fun u M => M = (b, .cells #[.pointer (some ⟨b, 0, none⟩), v] 85 (0, 0)) :: L := by
  obtain ⟨j, hj, hj0⟩ : ∃ j, Tryz.prog.info? 85 = some j ∧ Nat.beq j.size 0 = false := by
    have := info_builder
    cases h : Tryz.prog.info? 85 with
    | none => rw [h] at this; cases this
    | some j => rw [h] at this; exact ⟨j, rfl, Option.some.inj this⟩
  rcases hp with rfl | rfl
  · refine Spec_of (n := 20) Tryz.func71 rfl rfl rfl ?_
    repeat (first | with_reducible refine T_seq ?_ | with_reducible refine T_block ?_ | with_reducible refine T_region ?_ | with_reducible refine TL_nil ?_ | with_reducible refine TQ_then ?_ | with_reducible refine TQ_block ?_ | with_reducible refine T_skip ?_ | with_reducible refine T_label ?_ | with_reducible refine T_exit ?_ | with_reducible refine T_ret ?_ | with_reducible refine TQ_then_exit ?_ | with_reducible refine TQ_then_ret ?_ | with_reducible refine TQ_then_goto ?_ | with_reducible refine TQ_block_exit ?_ | with_reducible refine TQ_block_ret ?_ | with_reducible refine TQ_block_goto ?_ | with_reducible refine TQ_fall ?_ | (refine TQ_block_past ?_ ?_; (· decide)) | refine TL_q (op_move rfl) rfl ?_ | refine TL_q (op_assign rfl) rfl ?_ | (refine' TL_q (op_bin rfl rfl ?_) rfl ?_; rotate_left 1; (· first | exact bin_eql | exact bin_neq | exact sbin_eql | exact sbin_neq | exact pbin_eql Tryz.underlying83 | exact pbin_neq Tryz.underlying83)) | refine TL_q (op_nilCheck rfl) rfl ?_ | refine TL_q (op_fld rfl fld_85_0) rfl ?_ | (refine' TL_q (op_ld rfl pl_83 ?_ ?_) rfl ?_; rotate_left 4; (· repeat (first | assumption | exact List.mem_cons_self | (apply List.mem_append_left; first | assumption | exact List.mem_cons_self) | apply List.mem_cons_of_mem | apply List.mem_append_right)); (· first | assumption | rfl)) | (refine' TL_st rfl rfl one_83 rfl ?_ rfl ?_; rotate_left 1; (· first | assumption | rfl)) | (refine T_yes rfl ?_ ?_; (· first | with_reducible rfl | assumption | exact Bool.not_false | exact Bool.not_true)) | (refine T_no rfl ?_ ?_; (· first | with_reducible rfl | assumption | exact Bool.not_false | exact Bool.not_true))) --R:run:N
    refine TL_q (op_to_unsafe rfl Tryz.underlying83 Tryz.underlying213 hj hj0 (List.mem_cons_self ..) (by simp)) rfl ?_
    refine TL_q (op_noEscape rfl Tryz.func119 rfl rfl rfl rfl) rfl ?_
    refine TL_q (op_from_unsafe rfl Tryz.underlying213 Tryz.underlying83 hj (List.mem_cons_self ..) lies_builder) rfl ?_
    repeat (first | with_reducible refine T_seq ?_ | with_reducible refine T_block ?_ | with_reducible refine T_region ?_ | with_reducible refine TL_nil ?_ | with_reducible refine TQ_then ?_ | with_reducible refine TQ_block ?_ | with_reducible refine T_skip ?_ | with_reducible refine T_label ?_ | with_reducible refine T_exit ?_ | with_reducible refine T_ret ?_ | with_reducible refine TQ_then_exit ?_ | with_reducible refine TQ_then_ret ?_ | with_reducible refine TQ_then_goto ?_ | with_reducible refine TQ_block_exit ?_ | with_reducible refine TQ_block_ret ?_ | with_reducible refine TQ_block_goto ?_ | with_reducible refine TQ_fall ?_ | (refine TQ_block_past ?_ ?_; (· decide)) | refine TL_q (op_move rfl) rfl ?_ | refine TL_q (op_assign rfl) rfl ?_ | (refine' TL_q (op_bin rfl rfl ?_) rfl ?_; rotate_left 1; (· first | exact bin_eql | exact bin_neq | exact sbin_eql | exact sbin_neq | exact pbin_eql Tryz.underlying83 | exact pbin_neq Tryz.underlying83)) | refine TL_q (op_nilCheck rfl) rfl ?_ | refine TL_q (op_fld rfl fld_85_0) rfl ?_ | (refine' TL_q (op_ld rfl pl_83 ?_ ?_) rfl ?_; rotate_left 4; (· repeat (first | assumption | exact List.mem_cons_self | (apply List.mem_append_left; first | assumption | exact List.mem_cons_self) | apply List.mem_cons_of_mem | apply List.mem_append_right)); (· first | assumption | rfl)) | (refine' TL_st rfl rfl one_83 rfl ?_ rfl ?_; rotate_left 1; (· first | assumption | rfl)) | (refine T_yes rfl ?_ ?_; (· first | with_reducible rfl | assumption | exact Bool.not_false | exact Bool.not_true)) | (refine T_no rfl ?_ ?_; (· first | with_reducible rfl | assumption | exact Bool.not_false | exact Bool.not_true))) --R:run:N
    refine TQ_ret0 rfl ?_
    rfl
  · refine Spec_of (n := 20) Tryz.func71 rfl rfl rfl ?_
    repeat (first | with_reducible refine T_seq ?_ | with_reducible refine T_block ?_ | with_reducible refine T_region ?_ | with_reducible refine TL_nil ?_ | with_reducible refine TQ_then ?_ | with_reducible refine TQ_block ?_ | with_reducible refine T_skip ?_ | with_reducible refine T_label ?_ | with_reducible refine T_exit ?_ | with_reducible refine T_ret ?_ | with_reducible refine TQ_then_exit ?_ | with_reducible refine TQ_then_ret ?_ | with_reducible refine TQ_then_goto ?_ | with_reducible refine TQ_block_exit ?_ | with_reducible refine TQ_block_ret ?_ | with_reducible refine TQ_block_goto ?_ | with_reducible refine TQ_fall ?_ | (refine TQ_block_past ?_ ?_; (· decide)) | refine TL_q (op_move rfl) rfl ?_ | refine TL_q (op_assign rfl) rfl ?_ | (refine' TL_q (op_bin rfl rfl ?_) rfl ?_; rotate_left 1; (· first | exact bin_eql | exact bin_neq | exact sbin_eql | exact sbin_neq | exact pbin_eql Tryz.underlying83 | exact pbin_neq Tryz.underlying83)) | refine TL_q (op_nilCheck rfl) rfl ?_ | refine TL_q (op_fld rfl fld_85_0) rfl ?_ | (refine' TL_q (op_ld rfl pl_83 ?_ ?_) rfl ?_; rotate_left 4; (· repeat (first | assumption | exact List.mem_cons_self | (apply List.mem_append_left; first | assumption | exact List.mem_cons_self) | apply List.mem_cons_of_mem | apply List.mem_append_right)); (· first | assumption | rfl)) | (refine' TL_st rfl rfl one_83 rfl ?_ rfl ?_; rotate_left 1; (· first | assumption | rfl)) | (refine T_yes rfl ?_ ?_; (· first | with_reducible rfl | assumption | exact Bool.not_false | exact Bool.not_true)) | (refine T_no rfl ?_ ?_; (· first | with_reducible rfl | assumption | exact Bool.not_false | exact Bool.not_true))) --R:run:N
    refine TL_q (op_bin rfl rfl (pbin_same Tryz.underlying83 hj)) rfl ?_
    repeat (first | with_reducible refine T_seq ?_ | with_reducible refine T_block ?_ | with_reducible refine T_region ?_ | with_reducible refine TL_nil ?_ | with_reducible refine TQ_then ?_ | with_reducible refine TQ_block ?_ | with_reducible refine T_skip ?_ | with_reducible refine T_label ?_ | with_reducible refine T_exit ?_ | with_reducible refine T_ret ?_ | with_reducible refine TQ_then_exit ?_ | with_reducible refine TQ_then_ret ?_ | with_reducible refine TQ_then_goto ?_ | with_reducible refine TQ_block_exit ?_ | with_reducible refine TQ_block_ret ?_ | with_reducible refine TQ_block_goto ?_ | with_reducible refine TQ_fall ?_ | (refine TQ_block_past ?_ ?_; (· decide)) | refine TL_q (op_move rfl) rfl ?_ | refine TL_q (op_assign rfl) rfl ?_ | (refine' TL_q (op_bin rfl rfl ?_) rfl ?_; rotate_left 1; (· first | exact bin_eql | exact bin_neq | exact sbin_eql | exact sbin_neq | exact pbin_eql Tryz.underlying83 | exact pbin_neq Tryz.underlying83)) | refine TL_q (op_nilCheck rfl) rfl ?_ | refine TL_q (op_fld rfl fld_85_0) rfl ?_ | (refine' TL_q (op_ld rfl pl_83 ?_ ?_) rfl ?_; rotate_left 4; (· repeat (first | assumption | exact List.mem_cons_self | (apply List.mem_append_left; first | assumption | exact List.mem_cons_self) | apply List.mem_cons_of_mem | apply List.mem_append_right)); (· first | assumption | rfl)) | (refine' TL_st rfl rfl one_83 rfl ?_ rfl ?_; rotate_left 1; (· first | assumption | rfl)) | (refine T_yes rfl ?_ ?_; (· first | with_reducible rfl | assumption | exact Bool.not_false | exact Bool.not_true)) | (refine T_no rfl ?_ ?_; (· first | with_reducible rfl | assumption | exact Bool.not_false | exact Bool.not_true))) --R:run:N
    refine TQ_ret0 rfl ?_
    rfl

set_option maxRecDepth 100000 in
set_option maxHeartbeats 1000000 in
theorem String_specF {G : World} {L : Blocks} (b g cap : Nat) (p : Value) (l : List UInt8) (cur : Array Value) (fr : Nat × Nat) (hp : p = .pointer none ∨ p = .pointer (some ⟨b, 0, none⟩)) (h0 : l ≠ []) (h3 : l.length ≤ cap) (h4 : cap ≤ maxLen) (h5 : cur.size = cap) (h6 : cur.toList.take l.length = (l.map fun c => Value.int .u8 (c.toNat : Int))) :
    Spec Tryz.prog G 39 #[.pointer (some ⟨b, 0, none⟩)] ((b, .cells #[p, .slice (some ⟨g, 0, none⟩) l.length cap] 85 (0, 0)) :: (g, .cells cur 5 fr) :: L) fun u M => u = .string (bs l) ∧ M = L := by
  have hl0 : l.length ≠ 0 := by simpa using h0
  refine Spec_of (n := 14) Tryz.func39 rfl rfl rfl ?_
  repeat (first | with_reducible refine T_seq ?_ | with_reducible refine T_block ?_ | with_reducible refine T_region ?_ | with_reducible refine TL_nil ?_ | with_reducible refine TQ_then ?_ | with_reducible refine TQ_block ?_ | with_reducible refine T_skip ?_ | with_reducible refine T_label ?_ | with_reducible refine T_exit ?_ | with_reducible refine T_ret ?_ | with_reducible refine TQ_then_exit ?_ | with_reducible refine TQ_then_ret ?_ | with_reducible refine TQ_then_goto ?_ | with_reducible refine TQ_block_exit ?_ | with_reducible refine TQ_block_ret ?_ | with_reducible refine TQ_block_goto ?_ | with_reducible refine TQ_fall ?_ | (refine TQ_block_past ?_ ?_; (· decide)) | refine TL_q (op_move rfl) rfl ?_ | refine TL_q (op_assign rfl) rfl ?_ | refine TL_q (op_nilCheck rfl) rfl ?_ | refine TL_q (op_len_slice rfl Tryz.underlying48) rfl ?_ | refine TL_q (op_fld rfl fld_85_1) rfl ?_ | (refine' TL_q (op_ld rfl pl_48 ?_ ?_) rfl ?_; rotate_left 4; (· repeat (first | assumption | exact List.mem_cons_self | (apply List.mem_append_left; first | assumption | exact List.mem_cons_self) | apply List.mem_cons_of_mem | apply List.mem_append_right)); (· first | assumption | rfl)) | (refine T_yes rfl ?_ ?_; (· first | with_reducible rfl | assumption | exact Bool.not_false | exact Bool.not_true)) | (refine T_no rfl ?_ ?_; (· first | with_reducible rfl | assumption | exact Bool.not_false | exact Bool.not_true))) --R:run:N
  refine T_draw follows_mixed ([(b, .cells #[p, .slice (some ⟨g, 0, none⟩) l.length cap] 85 (0, 0))]) [] ?_
  first | (refine' TA_take 0 rfl rfl (by kernel_rfl) (quiet_q (op_move rfl)) ?_ ?_; (· first | assumption | (intro p hp; grind)))
  first | (refine' TA_take 1 rfl rfl (by kernel_rfl) (quiet_q (op_nilCheck rfl)) ?_ ?_; (· first | assumption | (intro p hp; grind)))
  first | (refine' TA_take 2 rfl rfl (by kernel_rfl) (quiet_q (op_fld rfl fld_85_1)) ?_ ?_; (· first | assumption | (intro p hp; grind)))
  first | (refine' TA_take 3 rfl rfl (by kernel_rfl) (quiet_q (op_ld rfl pl_48 ?_ ?_)) ?_ ?_; rotate_left 4; (· repeat (first | assumption | exact List.mem_cons_self | (apply List.mem_append_left; first | assumption | exact List.mem_cons_self) | apply List.mem_cons_of_mem | apply List.mem_append_right)); (· first | assumption | rfl); (· first | assumption | (intro p hp; grind)))
  first | (refine' TA_take 4 rfl rfl (by kernel_rfl) (quiet_q (op_sliceData rfl (by omega))) ?_ ?_; (· first | assumption | (intro p hp; grind)))
  first | (refine' TA_take 5 rfl rfl (by kernel_rfl) (quiet_q (op_move rfl)) ?_ ?_; (· first | assumption | (intro p hp; grind)))
  first | (refine' TA_take 6 rfl rfl (by kernel_rfl) (quiet_q (op_nilCheck rfl)) ?_ ?_; (· first | assumption | (intro p hp; grind)))
  first | (refine' TA_take 7 rfl rfl (by kernel_rfl) (quiet_q (op_fld rfl fld_85_1)) ?_ ?_; (· first | assumption | (intro p hp; grind)))
  first | (refine' TA_take 8 rfl rfl (by kernel_rfl) (quiet_q (op_ld rfl pl_48 ?_ ?_)) ?_ ?_; rotate_left 4; (· repeat (first | assumption | exact List.mem_cons_self | (apply List.mem_append_left; first | assumption | exact List.mem_cons_self) | apply List.mem_cons_of_mem | apply List.mem_append_right)); (· first | assumption | rfl); (· first | assumption | (intro p hp; grind)))
  first | (refine' TA_take 9 rfl rfl (by kernel_rfl) (quiet_q (op_len_slice rfl Tryz.underlying48)) ?_ ?_; (· first | assumption | (intro p hp; grind)))
  refine TA_perm (List.Perm.swap _ _ _) (TA_oneD 10 (by kernel_rfl) rfl rfl rfl rfl (op_unsafeString rfl rfl Tryz.underlying157 cells_byte h0 h3 h4 h5 ?_) ?_); (· intro j c hj; have hjl := (List.getElem?_eq_some_iff.1 hj).1; have : (cur.toList.take l.length)[j]? = some (Value.int .u8 (c.toNat : Int)) := (by rw [h6, List.getElem?_map, hj]; rfl); rw [List.getElem?_take_of_lt (by omega)] at this; simpa using this); rintro _ _ ⟨rfl, rfl⟩; refine ⟨Or.inr (by first | assumption | (intro p hp; grind)), ?_⟩
  first | (refine' TA_take 11 rfl rfl (by kernel_rfl) (quiet_q (op_assign rfl)) ?_ ?_; (· first | assumption | (intro p hp; grind)))
  refine TA_done (by kernel_rfl) ?_
  repeat (first | with_reducible refine T_seq ?_ | with_reducible refine T_block ?_ | with_reducible refine T_region ?_ | with_reducible refine TL_nil ?_ | with_reducible refine TQ_then ?_ | with_reducible refine TQ_block ?_ | with_reducible refine T_skip ?_ | with_reducible refine T_label ?_ | with_reducible refine T_exit ?_ | with_reducible refine T_ret ?_ | with_reducible refine TQ_then_exit ?_ | with_reducible refine TQ_then_ret ?_ | with_reducible refine TQ_then_goto ?_ | with_reducible refine TQ_block_exit ?_ | with_reducible refine TQ_block_ret ?_ | with_reducible refine TQ_block_goto ?_ | with_reducible refine TQ_fall ?_ | (refine TQ_block_past ?_ ?_; (· decide)) | refine TL_q (op_move rfl) rfl ?_ | refine TL_q (op_assign rfl) rfl ?_ | refine TL_q (op_nilCheck rfl) rfl ?_ | refine TL_q (op_len_slice rfl Tryz.underlying48) rfl ?_ | refine TL_q (op_fld rfl fld_85_1) rfl ?_ | (refine' TL_q (op_ld rfl pl_48 ?_ ?_) rfl ?_; rotate_left 4; (· repeat (first | assumption | exact List.mem_cons_self | (apply List.mem_append_left; first | assumption | exact List.mem_cons_self) | apply List.mem_cons_of_mem | apply List.mem_append_right)); (· first | assumption | rfl)) | (refine T_yes rfl ?_ ?_; (· first | with_reducible rfl | assumption | exact Bool.not_false | exact Bool.not_true)) | (refine T_no rfl ?_ ?_; (· first | with_reducible rfl | assumption | exact Bool.not_false | exact Bool.not_true))) --R:run:N
  refine TQ_heap (fun w h => h.tail) ?_
  refine TQ_ret1 2 _ rfl rfl ?_
  exact ⟨rfl, rfl⟩

end Go.Proofs.YtlicehodjhoamaaGreatDoor
namespace Go.Proofs.YtlicehodjhoamaaGreatDoor
open Go.RowKit
set_option linter.unusedVariables false
set_option linter.unusedSimpArgs false
theorem putAt_all {C : Array Value} {l : List Value} (h : C.size = l.length) : putAt C 0 l = l.toArray := by
  unfold putAt
  rw [List.take_zero, Nat.zero_add, List.drop_eq_nil_of_le (by simp [h])]
  simp
set_option maxRecDepth 100000 in
set_option maxHeartbeats 1000000 in
theorem Clone_specF {G : World} {L : Blocks} (l : List UInt8) (h0 : l ≠ []) (h3 : l.length ≤ 1000) :
    Spec Tryz.prog G 412 #[.string (bs l)] L fun u M => u = .string (bs l) ∧ M = L := by
  have hl0 : l.length ≠ 0 := by simpa using h0
  have hb0 : ((l.length : Int) == 0) = false := by
    rw [beq_eq_false_iff_ne]
    omega
  refine Spec_of (n := 18) Tryz.func412 rfl rfl rfl ?_
  repeat (first | with_reducible refine T_seq ?_ | with_reducible refine T_block ?_ | with_reducible refine T_region ?_ | with_reducible refine TL_nil ?_ | with_reducible refine TQ_then ?_ | with_reducible refine TQ_block ?_ | with_reducible refine T_skip ?_ | with_reducible refine T_label ?_ | with_reducible refine T_exit ?_ | with_reducible refine T_ret ?_ | with_reducible refine TQ_then_exit ?_ | with_reducible refine TQ_then_ret ?_ | with_reducible refine TQ_then_goto ?_ | with_reducible refine TQ_block_exit ?_ | with_reducible refine TQ_block_ret ?_ | with_reducible refine TQ_block_goto ?_ | with_reducible refine TQ_fall ?_ | (refine TQ_block_past ?_ ?_; (· decide)) | refine TL_q (op_move rfl) rfl ?_ | refine TL_q (op_assign rfl) rfl ?_ | (refine' TL_q (op_bin rfl rfl ?_) rfl ?_; rotate_left 1; (· first | exact bin_eql | exact sbin_eql)) | refine TL_q (op_len_str rfl Tryz.underlying9) rfl ?_ | refine TL_q (op_len_slice rfl Tryz.underlying48) rfl ?_ | (refine' TL_q (op_idx ety_48 rfl rfl ?_) rfl ?_; (· omega)) | (refine' TL_q (op_idxI ety_48 rfl rfl ?_ ?_) rfl ?_; (· omega); (· omega)) | (refine T_yes rfl ?_ ?_; (· first | with_reducible rfl | assumption | exact Bool.not_false | exact Bool.not_true)) | (refine T_no rfl ?_ ?_; (· first | with_reducible rfl | assumption | exact Bool.not_false | exact Bool.not_true))) --R:run:N
  refine TL_new (op_make ety_48 rfl rfl (by omega) (by omega) (by omega) (by omega) rfl) rfl ?_
  intro g
  repeat (first | with_reducible refine T_seq ?_ | with_reducible refine T_block ?_ | with_reducible refine T_region ?_ | with_reducible refine TL_nil ?_ | with_reducible refine TQ_then ?_ | with_reducible refine TQ_block ?_ | with_reducible refine T_skip ?_ | with_reducible refine T_label ?_ | with_reducible refine T_exit ?_ | with_reducible refine T_ret ?_ | with_reducible refine TQ_then_exit ?_ | with_reducible refine TQ_then_ret ?_ | with_reducible refine TQ_then_goto ?_ | with_reducible refine TQ_block_exit ?_ | with_reducible refine TQ_block_ret ?_ | with_reducible refine TQ_block_goto ?_ | with_reducible refine TQ_fall ?_ | (refine TQ_block_past ?_ ?_; (· decide)) | refine TL_q (op_move rfl) rfl ?_ | refine TL_q (op_assign rfl) rfl ?_ | (refine' TL_q (op_bin rfl rfl ?_) rfl ?_; rotate_left 1; (· first | exact bin_eql | exact sbin_eql)) | refine TL_q (op_len_str rfl Tryz.underlying9) rfl ?_ | refine TL_q (op_len_slice rfl Tryz.underlying48) rfl ?_ | (refine' TL_q (op_idx ety_48 rfl rfl ?_) rfl ?_; (· omega)) | (refine' TL_q (op_idxI ety_48 rfl rfl ?_ ?_) rfl ?_; (· omega); (· omega)) | (refine T_yes rfl ?_ ?_; (· first | with_reducible rfl | assumption | exact Bool.not_false | exact Bool.not_true)) | (refine T_no rfl ?_ ?_; (· first | with_reducible rfl | assumption | exact Bool.not_false | exact Bool.not_true))) --R:run:N
  have hsz : (madeCells (Value.int .u8 0).cells ((l.length : Int).toNat * 1)).size = l.length := by
    have := size_madeCells (z := (Value.int .u8 0).cells) (n := (l.length : Int).toNat * 1)
    simpa using this
  refine TL_op (Ev.op_copyS (k := l.length) (news := l.map fun b => Value.int .u8 b.toNat) ety_48 rfl rfl ?_ (by simp) (by rw [hsz]; omega) (Or.inl rfl)) rfl ?_
  · refine ⟨by simp, fun v hv => ?_, Or.inr ⟨Tryz.underlying9, rfl, l, rfl, by simp, rfl⟩⟩
    obtain ⟨b, _, rfl⟩ := List.mem_map.1 hv
    rfl
  rw [putAt_all (by rw [hsz]; simp)]
  repeat (first | with_reducible refine T_seq ?_ | with_reducible refine T_block ?_ | with_reducible refine T_region ?_ | with_reducible refine TL_nil ?_ | with_reducible refine TQ_then ?_ | with_reducible refine TQ_block ?_ | with_reducible refine T_skip ?_ | with_reducible refine T_label ?_ | with_reducible refine T_exit ?_ | with_reducible refine T_ret ?_ | with_reducible refine TQ_then_exit ?_ | with_reducible refine TQ_then_ret ?_ | with_reducible refine TQ_then_goto ?_ | with_reducible refine TQ_block_exit ?_ | with_reducible refine TQ_block_ret ?_ | with_reducible refine TQ_block_goto ?_ | with_reducible refine TQ_fall ?_ | (refine TQ_block_past ?_ ?_; (· decide)) | refine TL_q (op_move rfl) rfl ?_ | refine TL_q (op_assign rfl) rfl ?_ | (refine' TL_q (op_bin rfl rfl ?_) rfl ?_; rotate_left 1; (· first | exact bin_eql | exact sbin_eql)) | refine TL_q (op_len_str rfl Tryz.underlying9) rfl ?_ | refine TL_q (op_len_slice rfl Tryz.underlying48) rfl ?_ | (refine' TL_q (op_idx ety_48 rfl rfl ?_) rfl ?_; (· omega)) | (refine' TL_q (op_idxI ety_48 rfl rfl ?_ ?_) rfl ?_; (· omega); (· omega)) | (refine T_yes rfl ?_ ?_; (· first | with_reducible rfl | assumption | exact Bool.not_false | exact Bool.not_true)) | (refine T_no rfl ?_ ?_; (· first | with_reducible rfl | assumption | exact Bool.not_false | exact Bool.not_true))) --R:run:N
  refine TL_op (op_unsafeString (l := l) rfl rfl Tryz.underlying157 cells_byte h0 (Nat.le_refl _) (by unfold maxLen; omega) (by simp) (fun j c hj => by simp [hj])) rfl ?_
  repeat (first | with_reducible refine T_seq ?_ | with_reducible refine T_block ?_ | with_reducible refine T_region ?_ | with_reducible refine TL_nil ?_ | with_reducible refine TQ_then ?_ | with_reducible refine TQ_block ?_ | with_reducible refine T_skip ?_ | with_reducible refine T_label ?_ | with_reducible refine T_exit ?_ | with_reducible refine T_ret ?_ | with_reducible refine TQ_then_exit ?_ | with_reducible refine TQ_then_ret ?_ | with_reducible refine TQ_then_goto ?_ | with_reducible refine TQ_block_exit ?_ | with_reducible refine TQ_block_ret ?_ | with_reducible refine TQ_block_goto ?_ | with_reducible refine TQ_fall ?_ | (refine TQ_block_past ?_ ?_; (· decide)) | refine TL_q (op_move rfl) rfl ?_ | refine TL_q (op_assign rfl) rfl ?_ | (refine' TL_q (op_bin rfl rfl ?_) rfl ?_; rotate_left 1; (· first | exact bin_eql | exact sbin_eql)) | refine TL_q (op_len_str rfl Tryz.underlying9) rfl ?_ | refine TL_q (op_len_slice rfl Tryz.underlying48) rfl ?_ | (refine' TL_q (op_idx ety_48 rfl rfl ?_) rfl ?_; (· omega)) | (refine' TL_q (op_idxI ety_48 rfl rfl ?_ ?_) rfl ?_; (· omega); (· omega)) | (refine T_yes rfl ?_ ?_; (· first | with_reducible rfl | assumption | exact Bool.not_false | exact Bool.not_true)) | (refine T_no rfl ?_ ?_; (· first | with_reducible rfl | assumption | exact Bool.not_false | exact Bool.not_true))) --R:run:N
  refine TQ_ret1 2 _ rfl rfl ?_
  exact ⟨rfl, rfl⟩
set_option maxRecDepth 100000 in
set_option maxHeartbeats 1000000 in
theorem Clone_spec0 {G : World} {L : Blocks} :
    Spec Tryz.prog G 412 #[.string (bs [])] L fun u M => u = .string (bs []) ∧ M = L := by
  refine Spec_of (n := 18) Tryz.func412 rfl rfl rfl ?_
  repeat (first | with_reducible refine T_seq ?_ | with_reducible refine T_block ?_ | with_reducible refine T_region ?_ | with_reducible refine TL_nil ?_ | with_reducible refine TQ_then ?_ | with_reducible refine TQ_block ?_ | with_reducible refine T_skip ?_ | with_reducible refine T_label ?_ | with_reducible refine T_exit ?_ | with_reducible refine T_ret ?_ | with_reducible refine TQ_then_exit ?_ | with_reducible refine TQ_then_ret ?_ | with_reducible refine TQ_then_goto ?_ | with_reducible refine TQ_block_exit ?_ | with_reducible refine TQ_block_ret ?_ | with_reducible refine TQ_block_goto ?_ | with_reducible refine TQ_fall ?_ | (refine TQ_block_past ?_ ?_; (· decide)) | refine TL_q (op_move rfl) rfl ?_ | refine TL_q (op_assign rfl) rfl ?_ | (refine' TL_q (op_bin rfl rfl ?_) rfl ?_; rotate_left 1; (· first | exact bin_eql | exact sbin_eql)) | refine TL_q (op_len_str rfl Tryz.underlying9) rfl ?_ | refine TL_q (op_len_slice rfl Tryz.underlying48) rfl ?_ | (refine' TL_q (op_idx ety_48 rfl rfl ?_) rfl ?_; (· omega)) | (refine' TL_q (op_idxI ety_48 rfl rfl ?_ ?_) rfl ?_; (· omega); (· omega)) | (refine T_yes rfl ?_ ?_; (· first | with_reducible rfl | assumption | exact Bool.not_false | exact Bool.not_true)) | (refine T_no rfl ?_ ?_; (· first | with_reducible rfl | assumption | exact Bool.not_false | exact Bool.not_true))) --R:run:N
  refine TQ_ret1 2 _ rfl rfl ?_
  exact ⟨rfl, rfl⟩
end Go.Proofs.YtlicehodjhoamaaGreatDoor
namespace Go.Proofs.YtlicehodjhoamaaGreatDoor.Ev
open Go
set_option linter.unusedVariables false
set_option linter.unusedSimpArgs false
mutual
/-- Does it read as one value alone? -/
def detV : AV → Bool
  | .bool _ => true
  | .int _ _ => true
  | .str _ => true
  | .ptrK _ => true
  | .ifc _ v => detV v
  | _ => false
def detL : List AV → Bool
  | [] => true
  | v :: l => detV v && detL l
end
theorem detV_ok {σ : Sg} : ∀ {v : AV} {V W : Value}, detV v = true → Den σ v V → Den σ v W → V = W
  | .bool b, V, W, _, h, k => by simp only [Den] at h k; rw [h, k]
  | .int kd n, V, W, _, h, k => by simp only [Den] at h k; rw [h, k]
  | .str l, V, W, _, h, k => by simp only [Den] at h k; rw [h.2, k.2]
  | .ptrK i, V, W, _, h, k => by
    simp only [Den] at h k
    obtain ⟨x, hx, rfl⟩ := h
    obtain ⟨y, hy, rfl⟩ := k
    rw [hx] at hy
    cases hy
    rfl
  | .ifc t v, V, W, hd, h, k => by
    simp only [Den] at h k
    obtain ⟨U, hU, rfl⟩ := h
    obtain ⟨U', hU', rfl⟩ := k
    rw [detV_ok (v := v) (by simpa [detV] using hd) hU hU']
theorem detL_ok {σ : Sg} : ∀ {l : List AV} {V W : List Value}, detL l = true → DenL σ l V → DenL σ l W → V = W
  | [], V, W, _, h, k => by rw [h.inv0, k.inv0]
  | v :: l, V, W, hd, h, k => by
    have hd : detV v = true ∧ detL l = true := by simpa [detL] using hd
    obtain ⟨A, M, rfl, h1, h2⟩ := h.inv
    obtain ⟨B, N, rfl, k1, k2⟩ := k.inv
    rw [detV_ok hd.1 h1 k1, detL_ok hd.2 h2 k2]
def detO : AO → Bool
  | .cells l _ => detL l
  | _ => false
theorem detO_ok {σ : Sg} {κ κ' : Nat} {o : AO} {O O' : Obj} (hd : detO o = true) (h : DenO σ κ o O) (k : DenO σ κ' o O') : O = O' := by
  cases o with
  | cells l e =>
    obtain ⟨M, h1, rfl⟩ := h
    obtain ⟨N, k1, rfl⟩ := k
    rw [detL_ok hd h1 k1]
  | _ => cases hd
noncomputable def laidB (l : List (Nat × AO)) : Bool := allB (fun p => Bool.rec false (detO p.2) (Nat.blt p.1 100)) l
noncomputable def endB (E : FunE) (f : Nat) (laid : List (Nat × AO)) (nx : Nat) : Bool := toTrK laid .leaf fun t => Option.rec false (fun q => Bool.rec false (hasO laid q.2) (beqV (.bool true) q.1)) (E f [] ⟨t, nx⟩)
theorem look_mem {l : List (Nat × AO)} {i : Nat} {o : AO} (h : look l i = some o) : (i, o) ∈ l := by
  induction l with
  | nil => cases h
  | cons p l ih =>
    rw [look_cons] at h
    split at h
    · rename_i e
      cases h
      rw [e]
      exact List.mem_cons_self ..
    · exact List.mem_cons_of_mem _ (ih h)
theorem closed_S {P : Program} {E : FunE} {f nx : Nat} {laid : List (Nat × AO)} {σ : Sg} (hE : FunOk P E) (hend : endB E f laid nx = true) (hlaid : laidB laid = true) (hn : 100 ≤ nx) (hlow : ∀ i, i < 100 → σ i = some (i, 0)) (hfresh : ∀ i, nx ≤ i → σ i = none)
    {G : World} {L : Blocks} (hL : ∀ i o, look laid i = some o → ∃ O, DenO σ 0 o O ∧ (i, O) ∈ L) : Spec P G f #[] L fun u M => u = .bool true ∧ ∀ p ∈ L, p ∈ M := by
  refine ⟨fun w hw => ?_⟩
  have hnd := hw.nodup
  have hfact : ∀ i o, look laid i = some o → i < 100 ∧ detO o = true := fun i o h => by
    have h1 : Bool.rec false (detO o) (Nat.blt i 100) = true := allB_ok hlaid _ (look_mem h)
    cases hb : Nat.blt i 100 with
    | false => rw [hb] at h1; cases h1
    | true =>
      rw [hb] at h1
      exact ⟨by simpa using hb, h1⟩
  let F : Fm := ⟨L.filter fun p => (look laid p.1).isNone, fun _ => none, fun _ => False⟩
  have hF : ∀ p, p ∈ F.b ↔ p ∈ L ∧ look laid p.1 = none := fun p => by
    show p ∈ L.filter _ ↔ _
    rw [List.mem_filter]
    simp
  have hsm : smallL laid = true := by
    have : ∀ l : List (Nat × AO), (∀ p ∈ l, p.1 < 100) → smallL l = true := fun l => by
      induction l with
      | nil => intro _; rfl
      | cons p l ih =>
        intro h
        show Bool.rec false (smallL l) (Nat.ble p.1 999998) = true
        have := h p (List.mem_cons_self ..)
        rw [show Nat.ble p.1 999998 = true from Nat.ble_eq_true_of_le (by omega)]
        exact ih fun q hq => h q (List.mem_cons_of_mem _ hq)
    refine this _ fun p hp => ?_
    have h1 : Bool.rec false (detO p.2) (Nat.blt p.1 100) = true := allB_ok hlaid _ hp
    cases hb : Nat.blt p.1 100 with
    | false => rw [hb] at h1; cases h1
    | true => simpa using hb
  have hget : ∀ i, (toTr laid .leaf).get i = look laid i := fun i => by
    rw [toTr_get hsm]
    cases look laid i <;> rfl
  have hm : MemR σ ⟨toTr laid .leaf, nx⟩ F L := by
    refine ⟨fun i o x e ex => ?_, fun i j o o' x y e e' ex ey exy => ?_, fun p hp => ((hF p).1 hp).1, fun i o x e ex p hp => ?_, fun i o e => (by cases e), fun i hi => hfresh i hi, fun i o e => ?_, fun g hg => hlow g hg, fun i e => e.elim⟩
    · rw [hget] at e
      rw [hlow i (hfact i o e).1] at ex
      cases ex
      exact hL i o e
    · rw [hget] at e e'
      rw [hlow i (hfact i o e).1] at ex
      rw [hlow j (hfact j o' e').1] at ey
      cases ex
      cases ey
      exact exy
    · rw [hget] at e
      rw [hlow i (hfact i o e).1] at ex
      cases ex
      intro hpi
      have := ((hF p).1 hp).2
      rw [hpi, e] at this
      cases this
    · rw [hget] at e
      have := (hfact i o e).1
      dsimp only
      omega
  unfold endB at hend
  rw [toTrK_eq] at hend
  cases hq : E f [] ⟨toTr laid .leaf, nx⟩ with
  | none => rw [hq] at hend; cases hend
  | some q =>
    rw [hq] at hend
    obtain ⟨v, m'⟩ := q
    obtain ⟨hv, hh⟩ := and_rec hend
    obtain rfl : AV.bool true = v := beqV_eq _ _ hv
    have hsp := hE (G := G) hq (.nil (σ := σ)) hm
    refine (hsp.out w hw).mono fun e w' ⟨u, M, he, ⟨σ', k1, k2, k3⟩, hM⟩ => ⟨u, M, he, ⟨by simpa [Den] using k2, fun p hp => ?_⟩, hM⟩
    cases hl : look laid p.1 with
    | none => exact k3.frame p ((hF p).2 ⟨hp, hl⟩)
    | some o =>
      obtain ⟨h100, hdet⟩ := hfact _ _ hl
      obtain ⟨O, hO, hOL⟩ := hL _ _ hl
      obtain ⟨O', g1, g2⟩ := k3.get p.1 o (p.1, 0) (hasO_look hh _ _ hl) (k1 _ _ (hlow _ h100))
      have hOO : O = O' := detO_ok hdet (hO.mono k1) g1
      subst hOO
      have : p = (p.1, O) := by
        obtain ⟨A, B, rfl⟩ := List.append_of_mem hp
        rw [List.map_append, List.map_cons, List.nodup_append, List.nodup_cons] at hnd
        rcases List.mem_append.1 hOL with h | h
        · exact absurd rfl (hnd.2.2 p.1 (List.mem_map.2 ⟨_, h, rfl⟩) p.1 (List.mem_cons_self ..))
        · rcases List.mem_cons.1 h with h | h
          · exact h.symm
          · exact absurd (List.mem_map.2 ⟨_, h, rfl⟩) hnd.2.1.1
      rw [this]
      exact g2
end Go.Proofs.YtlicehodjhoamaaGreatDoor.Ev
