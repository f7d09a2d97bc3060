/-
 Part 4: Jj JX JK JL JY JZ JS JN JP JV JW JT JO J4 Yb Yc J3 Nm Ca.
-/
import Derived.Test.YtgjlbilcnlffgaaGreatDoorZt3
import Derived.LoopN
import Derived.Test.YtgjlbilcnlffgaaGreatDoorZt1
import Derived.RangeFuncIn
import Derived.RangeFuncRecord
import Derived.OrdersIn
import Derived.TacticsIn
import Derived.Recover
import Derived.Scope
import Derived.Maps.RangeRun
import Derived.Lib.Builder
import Derived.Lib.UnsafeStr
import Derived.Laws.Externs
import Derived.Below
import Derived.Lib.ItoaNum
set_option maxRecDepth 100000
set_option maxHeartbeats 1000000
set_option linter.unusedVariables false
set_option linter.unusedSimpArgs false
namespace Go.Proofs.YtgjlbilcnlffgaaGreatDoor.Ev
open Go
structure R3 where
 x : Exit
 s : Fr AV
 m : Mem
noncomputable def loopE (body : Fr AV → Mem → Option R3) (k : Nat) : Fr AV → Mem → Option R3 := Nat.rec (motive := fun _ => Fr AV → Mem → Option R3) (fun _ _ => none)
 (fun _ ih s m => ob (body s m) fun r => Exit.rec (ih r.s r.m) (fun _ => some r) (fun _ => some r) (some r) (fun _ => some r) (some r) r.x) k
noncomputable def codeE (P : Program) (E : jU) (n k : Nat) (c : Code) : Fr AV → Mem → Option R3 := Code.rec (motive := fun _ => Fr AV → Mem → Option R3)
 (fun s m => some ⟨.normal, s, m⟩)
 (fun _ ops draw s m => Fr.flushK s fun thr t => bo (Nat.ble thr 1000000) (ob (Bool.rec (listE P E ops n ops.toList (.base thr t) m) (drawE P E ops n (.base thr t) m) draw) fun r => some ⟨.normal, r.1, r.2⟩))
 (fun _ _ ia ib s m => ob (ia s m) fun r => Exit.rec (ib r.s r.m) (fun _ => some r) (fun _ => some r) (some r) (fun _ => some r) (some r) r.x)
 (fun c _ _ it ie s m => ob (opd s c) fun v => v.asBool fun b => Bool.rec (ie s m) (it s m) b)
 (fun id _ ih s m => ob (ih s m) fun r => Exit.rec (some r) (fun j => Bool.rec (some r) (some ⟨.normal, r.s, r.m⟩) (Nat.beq j id)) (fun _ => some r) (some r) (fun _ => some r) (some r) r.x)
 (fun _ ih s m => loopE ih k s m)
 (fun _ _ _ _ _ _ _ _ => none)
 (fun id s m => some ⟨.exit id, s, m⟩)
 (fun _ ih s m => ob (ih s m) fun r => Exit.rec (some r) (fun _ => some r) (fun _ => none) (some r) (fun _ => some r) (some r) r.x)
 (fun _ s m => some ⟨.normal, s, m⟩)
 (fun l s m => some ⟨.goto l, s, m⟩)
 (fun s m => some ⟨.ret, s, m⟩)
 (fun _ _ _ => none) c
section
variable {P : Program} {G : World} {F : Fm} {E : jU} {n k : Nat}
theorem zT {K : Act → World → Prop} {Q : Exit → Act → World → Prop} {ρ : jh} {L : ja} {x : Exit} (hx : x ≠ .normal) (h : TQ G n ρ L x Q) : TQ G n ρ L x (Exit.then K Q) := by
 cases x with
 | normal => exact absurd rfl hx
 | _ => exact ⟨fun a w he hw => h.out a w he hw⟩
theorem yT {Q : Exit → Act → World → Prop} {ρ : jh} {L : ja} {x : Exit} {id : Nat} (hx : ∀ j, x = .exit j → j ≠ id) (h : TQ G n ρ L x Q) : TQ G n ρ L x (Exit.inBlock id Q) := by
 cases x with
 | exit j => exact kN (by simpa using hx j rfl) h
 | _ => exact ⟨fun a w he hw => h.out a w he hw⟩
theorem aap {c : Code} {Q : Exit → Act → World → Prop} {ρ : jh} {L : ja} (k : Nat) (h : ∀ a w, Env n ρ a → Heap G w L → Code.rounds P c Q k a w) : T P G n ρ L (.loop c) Q := ⟨fun a w he hw => wp_loop_rounds k (h a w he hw)⟩
theorem ac8 {c : Code} {Q : Exit → Act → World → Prop} {ρ : jh} {L : ja} (h : T P G n ρ L c (Exit.noGoto Q)) : T P G n ρ L (.scope c) Q := ⟨fun a w he hw => wp_scope_straight (h.out a w he hw)⟩
def QD (P : Program) (G : World) (F : Fm) (n : Nat) (ev : Fr AV → Mem → Option R3) (c : Code) : Prop := ∀ {s : Fr AV} {m : Mem} {r : R3} {σ : Sg} {ρ : jh} {L : ja} {Q : Exit → Act → World → Prop}, ev s m = some r → SlR σ s ρ → MemR σ m F L →
 (∀ (σ' : Sg) (ρ' : jh) (L' : ja), σ.le σ' → SlR σ' r.s ρ' → MemR σ' r.m F L' → TQ G n ρ' L' r.x Q) → T P G n ρ L c Q
theorem aaq {body : Fr AV → Mem → Option R3} {c : Code} (h : QD P G F n body c) : ∀ (k : Nat) {s : Fr AV} {m : Mem} {r : R3} {σ : Sg} {ρ : jh} {L : ja} {Q : Exit → Act → World → Prop}, loopE body k s m = some r → SlR σ s ρ → MemR σ m F L →
 (∀ (σ' : Sg) (ρ' : jh) (L' : ja), σ.le σ' → SlR σ' r.s ρ' → MemR σ' r.m F L' → TQ G n ρ' L' r.x Q) → ∀ a w, Env n ρ a → Heap G w L → Code.rounds P c Q k a w
 | 0, s, m, r, σ, ρ, L, Q, e, hs, hm, hQ => by cases e
 | k + 1, s, m, r, σ, ρ, L, Q, e, hs, hm, hQ => by
   intro a w he hw
   rw [rounds_succ]
   have e : ob (body s m) (fun r => Exit.rec (loopE body k r.s r.m) (fun _ => some r) (fun _ => some r) (some r) (fun _ => some r) (some r) r.x) = some r := e
   obtain ⟨⟨x, s1, m1⟩, e1, e⟩ := jd e
   refine (h (Q := Exit.then (Code.rounds P c Q k) Q) e1 hs hm fun σ' ρ' L' h1 h2 h3 => ?_).out a w he hw
   cases x with
   | normal => exact ⟨fun a w he hw => aaq h k e h2 h3 (fun σ'' ρ'' L'' q1 q2 q3 => hQ σ'' ρ'' L'' (Sg.le_trans h1 q1) q2 q3) a w he hw⟩
   | _ => cases e; exact zT (by simp) (hQ σ' ρ' L' h1 h2 h3)
theorem ql (kb : P.follows .mixedOrders = true) (hE : jV P E) : ∀ c : Code, QD P G F n (codeE P E n k c) c := by
 intro c
 induction c with
 | skip =>
   intro s m r σ ρ L Q e hs hm hQ
   cases e
   exact uH (hQ σ ρ L σ.le_refl hs hm)
 | region id ops draw =>
   intro s m r σ ρ L Q e hs hm hQ
   have e : Fr.flushK s (fun thr t => bo (Nat.ble thr 1000000) (ob (Bool.rec (listE P E ops n ops.toList (.base thr t) m) (drawE P E ops n (.base thr t) m) draw) fun r => some ⟨.normal, r.1, r.2⟩)) = some r := e
   rw [Fr.flushK_eq] at e
   obtain ⟨ht, e⟩ := je e
   obtain ⟨⟨s1, m1⟩, e1, e⟩ := jd e
   cases e
   have hs := hs.flush (Nat.le_of_ble_eq_true ht)
   cases draw with
   | true => exact ae5 kb hE e1 hs hm hQ
   | false =>
     obtain ⟨l⟩ := ops
     exact jL (qk hE l e1 hs hm hQ)
 | seq a b iha ihb =>
   intro s m r σ ρ L Q e hs hm hQ
   obtain ⟨⟨x, s1, m1⟩, e1, e⟩ := jd (show ob (codeE P E n k a s m) (fun r => Exit.rec (codeE P E n k b r.s r.m) (fun _ => some r) (fun _ => some r) (some r) (fun _ => some r) (some r) r.x) = some r from e)
   refine jH (iha e1 hs hm fun σ' ρ' L' h1 h2 h3 => ?_)
   cases x with
   | normal => exact jR (ihb e h2 h3 fun σ'' ρ'' L'' q1 q2 q3 => hQ σ'' ρ'' L'' (Sg.le_trans h1 q1) q2 q3)
   | _ => cases e; exact zT (by simp) (hQ σ' ρ' L' h1 h2 h3)
 | cond c a b iha ihb =>
   intro s m r σ ρ L Q e hs hm hQ
   obtain ⟨v, e1, e⟩ := jd (show ob (opd s c) (fun v => v.asBool fun b' => Bool.rec (codeE P E n k b s m) (codeE P E n k a s m) b') = some r from e)
   obtain ⟨t, rfl, e'⟩ := qQ e
   obtain ⟨V, h1, h2⟩ := ju hs e1
   obtain rfl : V = .bool t := by simpa [Den] using h2
   cases t with
   | true => exact J5 h1 (iha e' hs hm hQ)
   | false => exact yH h1 (ihb e' hs hm hQ)
 | block id c ih =>
   intro s m r σ ρ L Q e hs hm hQ
   obtain ⟨⟨x, s1, m1⟩, e1, e⟩ := jd (show ob (codeE P E n k c s m) (fun r => Exit.rec (some r) (fun j => Bool.rec (some r) (some ⟨.normal, r.s, r.m⟩) (Nat.beq j id)) (fun _ => some r) (some r) (fun _ => some r) (some r) r.x) = some r from e)
   refine qK (ih e1 hs hm fun σ' ρ' L' h1 h2 h3 => ?_)
   cases x with
   | exit j =>
     have e : (Bool.rec (some ⟨.exit j, s1, m1⟩) (some ⟨.normal, s1, m1⟩) (Nat.beq j id) : Option R3) = some r := e
     by_cases c : j = id
     · rw [bqT c] at e
       cases e
       subst c
       exact j6 (hQ σ' ρ' L' h1 h2 h3)
     · rw [bqF c] at e
       cases e
       exact yT (fun i hi => by cases hi; exact c) (hQ σ' ρ' L' h1 h2 h3)
   | _ => cases e; exact yT (by simp) (hQ σ' ρ' L' h1 h2 h3)
 | loop c ih =>
   intro s m r σ ρ L Q e hs hm hQ
   exact aap k (aaq ih k e hs hm hQ)
 | rangeFunc f ps a b iha ihb =>
   intro s m r σ ρ L Q e hs hm hQ
   cases e
 | exit id =>
   intro s m r σ ρ L Q e hs hm hQ
   cases e
   exact ym (hQ σ ρ L σ.le_refl hs hm)
 | scope c ih =>
   intro s m r σ ρ L Q e hs hm hQ
   obtain ⟨⟨x, s1, m1⟩, e1, e⟩ := jd (show ob (codeE P E n k c s m) (fun r => Exit.rec (some r) (fun _ => some r) (fun _ => none) (some r) (fun _ => some r) (some r) r.x) = some r from e)
   refine ac8 (ih e1 hs hm fun σ' ρ' L' h1 h2 h3 => ?_)
   cases x with
   | goto l => cases e
   | _ => cases e; exact ⟨fun a w he hw => (hQ σ' ρ' L' h1 h2 h3).out a w he hw⟩
 | label l =>
   intro s m r σ ρ L Q e hs hm hQ
   cases e
   exact yG (hQ σ ρ L σ.le_refl hs hm)
 | goto l =>
   intro s m r σ ρ L Q e hs hm hQ
   cases e
   exact afX (hQ σ ρ L σ.le_refl hs hm)
 | ret =>
   intro s m r σ ρ L Q e hs hm hQ
   cases e
   exact Kw (hQ σ ρ L σ.le_refl hs hm)
 | refuse why =>
   intro s m r σ ρ L Q e hs hm hQ
   cases e
end
noncomputable def resE (P : Program) (s : Fr AV) (m : Mem) (l : List ResultVar) : Option (List AV) := List.rec (some [])
 (fun x _ ih => ResultVar.rec (fun t => ob (s.get t) fun v => ob ih fun vs => some (v :: vs)) (fun a t => ob (s.get a) fun p => p.asPtr fun i o => ob (ldA P m t i o) fun v => ob ih fun vs => some (v :: vs)) x) l
def QE (l : List AV) : AV := match l with
 | [v] => v
 | l => .tup l
section
variable {P : Program} {G : World} {F : Fm} {L : ja} {E : jU} {n k : Nat} {σ : Sg} {ρ : jh}
def QF (tmps : Array Value) : ResultVar → Sem Value
 | .tmp t => pure (tmps.getD t undef)
 | .cell a t => do loadVar t (← asAddr (tmps.getD a undef))
theorem QG (fn : Func) (tmps : Array Value) : results fn tmps = (do
 let vs ← fn.results.mapM (QF tmps)
 pure (if h : vs.size = 1 then vs[0] else .tuple vs)) := by
 unfold results
 congr 1
theorem QH {s : Fr AV} {m : Mem} (hs : SlR σ s ρ) (hm : MemR σ m F L) {a : Act} (he : Env n ρ a) : ∀ {l : List ResultVar} {vs : List AV}, resE P s m l = some vs → ∃ Vs : List Value, DenL σ vs Vs ∧ ∀ w, Has w L → (l.mapM (QF a.tmps)).run P w = .ok Vs w
 | [], vs, e => by cases e; exact ⟨[], .nil, fun w _ => by simp⟩
 | .tmp t :: l, vs, e => by
   obtain ⟨v, e1, e⟩ := jd (show ob (s.get t) (fun v => ob (resE P s m l) fun vs => some (v :: vs)) = some vs from e)
   obtain ⟨us, e2, e⟩ := jd e
   cases e
   obtain ⟨V, h1, h2⟩ := hs.get t v e1
   obtain ⟨Vs, h3, h4⟩ := QH hs hm he e2
   have h5 : a.tmps.getD t undef = V := he.reads (.tmp t) V h1
   exact ⟨V :: Vs, .cons h2 h3, fun w hw => by simp [List.mapM_cons, QF, h5, h4 w hw]⟩
 | .cell c t :: l, vs, e => by
   obtain ⟨p, e1, e⟩ := jd (show ob (s.get c) (fun p => p.asPtr fun i o => ob (ldA P m t i o) fun v => ob (resE P s m l) fun vs => some (v :: vs)) = some vs from e)
   obtain ⟨i, o, rfl, e'⟩ := qH e
   obtain ⟨v, e3, e'⟩ := jd e'
   obtain ⟨us, e2, e'⟩ := jd e'
   cases e'
   obtain ⟨V, h1, h2⟩ := hs.get c _ e1
   simp only [Den] at h2
   obtain ⟨y, hy, rfl⟩ := h2
   obtain ⟨U, h6, h7⟩ := aaj (P := P) hm hy e3
   obtain ⟨Vs, h3, h4⟩ := QH hs hm he e2
   have h5 : a.tmps.getD c undef = _ := he.reads (.tmp c) _ h1
   exact ⟨U :: Vs, .cons h6 h3, fun w hw => by simp [List.mapM_cons, QF, h5, asAddr, h7 w hw, h4 w hw]⟩
theorem yy {fn : Func} {s : Fr AV} {m : Mem} (hs : SlR σ s ρ) (hm : MemR σ m F L) {a : Act} (he : Env n ρ a) {vs : List AV} (e : resE P s m fn.results.toList = some vs) : ∃ V, Den σ (QE vs) V ∧ ∀ w, Has w L → (results fn a.tmps).run P w = .ok V w := by
 obtain ⟨Vs, h1, h2⟩ := QH (P := P) hs hm he e
 refine ⟨if h : Vs.length = 1 then Vs[0] else .tuple Vs.toArray, ?_, fun w hw => ?_⟩
 · unfold QE
   split
   · obtain ⟨V, M, rfl, k1, k2⟩ := h1.inv
     rw [k2.inv0]
     simpa using k1
   · rename_i hne
     have : Vs.length ≠ 1 := fun h => by
      rw [h1.length] at h
      obtain ⟨v, rfl⟩ := List.length_eq_one_iff.1 h
      exact hne v rfl
     rw [dif_neg this]
     simp only [Den]
     exact ⟨Vs, h1, rfl⟩
 · rw [QG, Array.mapM_eq_mapM_toList]
   simp [h2 w hw]
end
noncomputable def argF (vs : List AV) : Nat → Fr AV → Fr AV := List.rec (fun _ s => s) (fun v _ ih k s => ih (Nat.succ k) (.put k v s)) vs
noncomputable def stepC (P : Program) (H : Nat → Nat) (ev : Nat → Code → Fr AV → Mem → Option R3) (i : Nat) (args : List AV) (m : Mem) : Option (AV × Mem) := ob P.funcs[i]? fun fn => ob fn.body fun c => bo (Nat.ble (lenN args) fn.ntmps) (ob (ev fn.ntmps c (argF args 0 (.base (H i) .leaf)) m) fun r =>
 Exit.rec (ob (resE P r.s r.m fn.results.toList) fun vs => some (QE vs, r.m)) (fun _ => none) (fun _ => none) (ob (resE P r.s r.m fn.results.toList) fun vs => some (QE vs, r.m)) (fun _ => none) none r.x)
noncomputable def funE (P : Program) (H : Nat → Nat) (k d : Nat) : jU := Nat.rec (fun _ _ _ => none) (fun _ ih => stepC P H fun n c => codeE P ih n k c) d
theorem yU {σ : Sg} : ∀ {vs : List AV} {Vs : List Value} {k : Nat} {s : Fr AV} {ρ : jh}, DenL σ vs Vs → SlR σ s ρ → (∀ t, k ≤ t → ρ.lookup t = none) → ∃ ρ' : jh, SlR σ (argF vs k s) ρ' ∧ ∀ t v, ρ'.lookup t = some v → (kY k Vs).lookup t = some v ∨ ρ.lookup t = some v
 | [], Vs, k, s, ρ, h, hs, hk => ⟨ρ, hs, fun t v e => Or.inr e⟩
 | v :: vs, Vs, k, s, ρ, h, hs, hk => by
   obtain ⟨V, M, rfl, h1, h2⟩ := h.inv
   obtain ⟨ρ', q1, q2⟩ := yU (k := k + 1) h2 (hs.put (d := k) h1) (fun t ht => by
    rw [List.lookup_cons, show (t == k) = false by simpa using (show t ≠ k by omega)]
    exact hk t (by omega))
   refine ⟨ρ', q1, fun t v e => ?_⟩
   rcases q2 t v e with e | e
   · by_cases c : t = k
     · obtain ⟨h3, _⟩ := qx M (k + 1) t v e
       omega
     · left
       rw [kY, List.lookup_cons, show (t == k) = false by simpa using c]
       exact e
   · by_cases c : t = k
     · subst c
       left
       rw [List.lookup_cons] at e
       simp at e
       subst e
       rw [kY, List.lookup_cons]
       simp
     · rw [List.lookup_cons, show (t == k) = false by simpa using c] at e
       exact Or.inr e
theorem QI {P : Program} {H : Nat → Nat} {ev : Nat → Code → Fr AV → Mem → Option R3} {G : World} {i : Nat} {args : List AV} {m : Mem} {v : AV} {m' : Mem} {σ : Sg} {As : List Value} {F : Fm} {L : ja} (hev : ∀ n c, QD P G F n (ev n c) c) (e : stepC P H ev i args m = some (v, m')) (hA : DenL σ args As) (hm : MemR σ m F L) : Spec P G i As.toArray L (kB σ v m' F) := by
 obtain ⟨fn, hf, e⟩ := jd e
 obtain ⟨c, hb, e⟩ := jd e
 obtain ⟨hn, e⟩ := je e
 obtain ⟨⟨x, s1, m1⟩, e1, e⟩ := jd e
 obtain ⟨ρ', q1, q2⟩ := yU (k := 0) (s := Fr.base (H i) .leaf) (ρ := []) hA (SlR.leaf hm.glb) (fun t _ => rfl)
 refine jw (n := fn.ntmps) hf hb rfl (by rw [List.size_toArray, hA.length, ← jP]; exact hn) ?_
 refine Ve ρ' (fun t u h => by
  rcases q2 t u h with h | h
  · exact h
  · cases h) (fun w hw => hw) ?_
 refine hev _ c e1 q1 hm fun σ' ρ'' L' h1 h2 h3 => ?_
 have fin : ∀ vs, resE P s1 m1 fn.results.toList = some vs → some (QE vs, m1) = some (v, m') → TQ G fn.ntmps ρ'' L' .ret (bodyPost P fn (jN G (kB σ v m' F))) := fun vs hv he => by
  cases he
  refine ⟨fun a w he hw => ?_⟩
  obtain ⟨V, k1, k2⟩ := yy (P := P) h2 h3 he hv
  exact ⟨he.defers, V, k2 w hw.has, V, L', rfl, ⟨σ', h1, k1, h3⟩, hw⟩
 cases x with
 | normal =>
   obtain ⟨vs, hv, e⟩ := jd e
   exact uY (fin vs hv e)
 | ret =>
   obtain ⟨vs, hv, e⟩ := jd e
   exact fin vs hv e
 | _ => cases e
end Go.Proofs.YtgjlbilcnlffgaaGreatDoor.Ev
namespace Go.Proofs.YtgjlbilcnlffgaaGreatDoor.Ev
open Go
structure Wide (R : Fence) : Prop where
 fn : ∀ f, R.fn f
 depth : R.depth = none
 same : ∀ P, Machine.fenced P R = Machine.fenced P Fence.wide
theorem wide_wide : Wide Fence.wide := ⟨fun _ => trivial, rfl, fun _ => rfl⟩
theorem yb (l : Nat) : Wide (Fence.wide.inRound l) := ⟨fun _ => trivial, rfl, fun _ => rfl⟩
def kU (o : Oper) : Bool := match o.op with
 | .defer _ => false
 | _ => true
theorem Zz {o : Oper} (h : kU o = true) : ∀ c, o.op ≠ .defer c := fun c e => by
 unfold kU at h
 rw [e] at h
 cases h
section
variable {R : Fence} {k : Nat} {P : Program} {ops : Array Oper} {Q : Exit → Act → World → Prop}
theorem Wide.calls (hR : Wide R) {f : FuncId} {args : Array Value} {w : World} {Φ : Ending → World → Prop} (h : Calls P f args w Φ) : CallsIn R k P f args w Φ := by
 refine ⟨hR.fn f, fun cs _ => ?_⟩
 rw [hR.same]
 exact (callsIn_wide (n := 0).2 h).2 cs (room_wide _)
theorem Wide.rows (hR : Wide R) {row : String} {args : Array Value} {w : World} {Φ : Value → World → Prop} (h : Rows P row args w Φ) : RowsIn R k P row args w Φ := fun c cs _ => by
 rw [hR.same]
 obtain ⟨v, w', r, s⟩ := h c cs
 exact ⟨v, w', r, stepsIn_wide.2 s⟩
theorem Wide.oper (hR : Wide R) {o : Oper} {a : Act} {w : World} {K : Act → World → Prop} (hp : kU o = true) (h : o.wp P a w K Q) : o.wpIn R k P a w K Q := by
 refine ⟨fun f _ => hR.fn f, ?_⟩
 rw [Oper.semAt_eq _ _ _ (Zz hp)]
 unfold Oper.wp at h
 have hd : R.depth.isSome = true → 1 ≤ k := fun h => by rw [hR.depth] at h; cases h
 cases hr : (execOp a.eval o).run P w with
 | ok x w' =>
   rw [hr] at h
   cases x <;> simp only [Oper.upon, Oper.uponIn] at h ⊢ <;> first
    | exact h
    | exact ⟨hd, hR.calls h⟩
    | exact ⟨hd, hR.rows h⟩
    | exact h.elim
 | halt x w' =>
   rw [hr] at h
   cases x <;> simp only [Oper.upon, Oper.uponIn] at h ⊢ <;> exact h
theorem Wide.op (hR : Wide R) (hlo : ¬ LetsOut Q) (hp : ∀ (i : Nat) (o : Oper), ops[i]? = some o → kU o = true) {i : Nat} {a : Act} {w : World} {K : Act → World → Prop} (h : wpOp P ops Q i K a w) : wpOpIn R k P ops Q i K a w := by
 unfold wpOp at h
 unfold wpOpIn
 cases ho : ops[i]? with
 | none => rw [ho] at h; exact h
 | some o =>
   rw [ho] at h
   dsimp only at h ⊢
   split
   · rename_i hw
     rw [if_pos hw] at h
     exact hR.oper (hp i o ho) (h.resolve_right fun h => hlo h.2)
   · rename_i hw
     rw [if_neg hw] at h
     exact ⟨fun f _ => hR.fn f, h⟩
theorem Wide.any (hR : Wide R) {md : Region.Mode} (hlo : ¬ LetsOut Q) (hp : ∀ (i : Nat) (o : Oper), ops[i]? = some o → kU o = true) : ∀ (f : Nat) {listed : Array Bool} {a : Act} {w : World}, wpAny P md ops Q f listed a w → wpAnyIn R k P md ops Q f listed a w
 | 0, listed, a, w, h => h
 | f + 1, listed, a, w, h => ⟨h.1, fun i hi => wpOpIn_mono (fun a w h => Wide.any hR hlo hp f h) (hR.op hlo hp (h.2 i hi))⟩
theorem Wide.list (hR : Wide R) (hlo : ¬ LetsOut Q) : ∀ (l : List Oper) {a : Act} {w : World}, (∀ o ∈ l, kU o = true) → wpList P ops Q l a w → wpListIn R k P ops Q l a w
 | [], a, w, hp, h => h
 | o :: l, a, w, hp, h => by
   unfold wpList at h
   unfold wpListIn
   split
   · rename_i hw
     rw [if_pos hw] at h
     exact Oper.wpIn_mono (fun a w h => Wide.list hR hlo l (fun o ho => hp o (List.mem_cons_of_mem _ ho)) h) (hR.oper (hp o (List.mem_cons_self ..)) (h.resolve_right fun h => hlo h.2))
   · rename_i hw
     rw [if_neg hw] at h
     exact ⟨fun f _ => hR.fn f, Wide.list hR hlo l (fun o ho => hp o (List.mem_cons_of_mem _ ho)) h⟩
end
noncomputable def codeI (P : Program) (E : jU) (n : Nat) (c : Code) : Fr AV → Mem → Option R3 := Code.rec (motive := fun _ => Fr AV → Mem → Option R3)
 (fun s m => some ⟨.normal, s, m⟩)
 (fun _ ops draw s m => Fr.flushK s fun thr t => bo (Nat.ble thr 1000000) (bo (allB kU ops.toList) (ob (Bool.rec (listE P E ops n ops.toList (.base thr t) m) (drawE P E ops n (.base thr t) m) draw) fun r => some ⟨.normal, r.1, r.2⟩)))
 (fun _ _ ia ib s m => ob (ia s m) fun r => Exit.rec (ib r.s r.m) (fun _ => some r) (fun _ => some r) (some r) (fun _ => some r) (some r) r.x)
 (fun c _ _ it ie s m => ob (opd s c) fun v => v.asBool fun b => Bool.rec (ie s m) (it s m) b)
 (fun id _ ih s m => ob (ih s m) fun r => Exit.rec (some r) (fun j => Bool.rec (some r) (some ⟨.normal, r.s, r.m⟩) (Nat.beq j id)) (fun _ => some r) (some r) (fun _ => some r) (some r) r.x)
 (fun _ _ _ _ => none)
 (fun _ _ _ _ _ _ _ _ => none)
 (fun id s m => some ⟨.exit id, s, m⟩)
 (fun _ _ _ _ => none)
 (fun _ _ _ => none)
 (fun _ _ _ => none)
 (fun s m => some ⟨.ret, s, m⟩)
 (fun _ _ _ => none) c
section
variable {P : Program} {G : World} {F : Fm} {E : jU} {n k : Nat} {R : Fence}
structure TI (R : Fence) (k : Nat) (P : Program) (G : World) (n : Nat) (ρ : jh) (L : ja) (c : Code) (Q : Exit → Act → World → Prop) : Prop where
 out : ∀ a w, Env n ρ a → Heap G w L → c.wpIn R k P Q a w
def ahL (R : Fence) (k : Nat) (P : Program) (G : World) (F : Fm) (n : Nat) (ev : Fr AV → Mem → Option R3) (c : Code) : Prop := ∀ {s : Fr AV} {m : Mem} {r : R3} {σ : Sg} {ρ : jh} {L : ja} {Q : Exit → Act → World → Prop}, ¬ LetsOut Q → ev s m = some r → SlR σ s ρ → MemR σ m F L →
 (∀ (σ' : Sg) (ρ' : jh) (L' : ja), σ.le σ' → SlR σ' r.s ρ' → MemR σ' r.m F L' → TQ G n ρ' L' r.x Q) → TI R k P G n ρ L c Q
theorem W4 (hR : Wide R) (kb : P.follows .mixedOrders = true) (hE : jV P E) : ∀ c : Code, ahL R k P G F n (codeI P E n c) c := by
 intro c
 induction c with
 | skip =>
   intro s m r σ ρ L Q hlo e hs hm hQ
   cases e
   exact ⟨fun a w he hw => wpIn_skip ((hQ σ ρ L σ.le_refl hs hm).out a w he hw)⟩
 | region id ops draw =>
   intro s m r σ ρ L Q hlo e hs hm hQ
   have e : Fr.flushK s (fun thr t => bo (Nat.ble thr 1000000) (bo (allB kU ops.toList) (ob (Bool.rec (listE P E ops n ops.toList (.base thr t) m) (drawE P E ops n (.base thr t) m) draw) fun r => some ⟨.normal, r.1, r.2⟩))) = some r := e
   rw [Fr.flushK_eq] at e
   obtain ⟨ht, e⟩ := je e
   obtain ⟨hp, e⟩ := je e
   obtain ⟨⟨s1, m1⟩, e1, e⟩ := jd e
   cases e
   have hs := hs.flush (Nat.le_of_ble_eq_true ht)
   have hp : ∀ o ∈ ops.toList, kU o = true := fun o ho => kp hp o ho
   refine ⟨fun a w he hw => ?_⟩
   cases draw with
   | true =>
     refine wpIn_region_any kb (hR.any hlo (fun i o ho => hp o (by rw [Array.mem_toList_iff]; exact Array.mem_of_getElem? ho)) _ ((VF hE e1 hs hm hQ).sound _ _ _ _ a _ he (hw.same ⟨rfl, rfl, rfl, Nat.le_refl _⟩ rfl)))
   | false =>
     obtain ⟨l⟩ := ops
     exact wpIn_region_lit (hR.list hlo l hp ((qk hE l e1 hs hm hQ).out a w he hw))
 | seq a b iha ihb =>
   intro s m r σ ρ L Q hlo e hs hm hQ
   obtain ⟨⟨x, s1, m1⟩, e1, e⟩ := jd (show ob (codeI P E n a s m) (fun r => Exit.rec (codeI P E n b r.s r.m) (fun _ => some r) (fun _ => some r) (some r) (fun _ => some r) (some r) r.x) = some r from e)
   refine ⟨fun A w he hw => wpIn_seq ((iha (Q := Exit.then (b.wpIn R k P Q) Q) hlo e1 hs hm fun σ' ρ' L' h1 h2 h3 => ?_).out A w he hw)⟩
   cases x with
   | normal => exact ⟨fun A w he hw => (ihb hlo e h2 h3 fun σ'' ρ'' L'' q1 q2 q3 => hQ σ'' ρ'' L'' (Sg.le_trans h1 q1) q2 q3).out A w he hw⟩
   | _ => cases e; exact zT (by simp) (hQ σ' ρ' L' h1 h2 h3)
 | cond c a b iha ihb =>
   intro s m r σ ρ L Q hlo e hs hm hQ
   obtain ⟨v, e1, e⟩ := jd (show ob (opd s c) (fun v => v.asBool fun b' => Bool.rec (codeI P E n b s m) (codeI P E n a s m) b') = some r from e)
   obtain ⟨t, rfl, e'⟩ := qQ e
   obtain ⟨V, h1, h2⟩ := ju hs e1
   obtain rfl : V = .bool t := by simpa [Den] using h2
   cases t with
   | true => exact ⟨fun A w he hw => wpIn_cond_true (he.reads c _ h1) ((iha hlo e' hs hm hQ).out A w he hw)⟩
   | false => exact ⟨fun A w he hw => wpIn_cond_false (he.reads c _ h1) ((ihb hlo e' hs hm hQ).out A w he hw)⟩
 | block id c ih =>
   intro s m r σ ρ L Q hlo e hs hm hQ
   obtain ⟨⟨x, s1, m1⟩, e1, e⟩ := jd (show ob (codeI P E n c s m) (fun r => Exit.rec (some r) (fun j => Bool.rec (some r) (some ⟨.normal, r.s, r.m⟩) (Nat.beq j id)) (fun _ => some r) (some r) (fun _ => some r) (some r) r.x) = some r from e)
   refine ⟨fun A w he hw => wpIn_block ((ih (Q := Exit.inBlock id Q) hlo e1 hs hm fun σ' ρ' L' h1 h2 h3 => ?_).out A w he hw)⟩
   cases x with
   | exit j =>
     have e : (Bool.rec (some ⟨.exit j, s1, m1⟩) (some ⟨.normal, s1, m1⟩) (Nat.beq j id) : Option R3) = some r := e
     by_cases c : j = id
     · rw [bqT c] at e
       cases e
       subst c
       exact j6 (hQ σ' ρ' L' h1 h2 h3)
     · rw [bqF c] at e
       cases e
       exact yT (fun i hi => by cases hi; exact c) (hQ σ' ρ' L' h1 h2 h3)
   | _ => cases e; exact yT (by simp) (hQ σ' ρ' L' h1 h2 h3)
 | exit id =>
   intro s m r σ ρ L Q hlo e hs hm hQ
   cases e
   exact ⟨fun a w he hw => wpIn_exit ((hQ σ ρ L σ.le_refl hs hm).out a w he hw)⟩
 | ret =>
   intro s m r σ ρ L Q hlo e hs hm hQ
   cases e
   exact ⟨fun a w he hw => wpIn_ret ((hQ σ ρ L σ.le_refl hs hm).out a w he hw)⟩
 | _ =>
   intro s m r σ ρ L Q hlo e hs hm hQ
   cases e
end
end Go.Proofs.YtgjlbilcnlffgaaGreatDoor.Ev
namespace Go.Proofs.YtgjlbilcnlffgaaGreatDoor.Ev
open Go
def qh (D : List Deferred) (a : Act) : Act := { tmps := a.tmps, defers := a.defers ++ D }
section
variable {P : Program} {ops : Array Oper}
theorem UH {o : Oper} {a : Act} {D : List Deferred} {next next' : Act → World → Prop} {Q Q' : Exit → Act → World → Prop} (hn : ∀ a w, next a w → next' (qh D a) w) (hQ : ∀ e a w, Q e a w → Q' e (qh D a) w) {r : Result Next} (h : o.upon P a next Q r) : o.upon P (qh D a) next' Q' r := by
 have hp : ∀ (d : Option Nat) (v : Value), qh D (a.put d v) = (qh D a).put d v := fun d v => by cases d <;> rfl
 unfold Oper.upon at h ⊢
 split at h
 · rw [← hp]; exact hn _ _ h
 · rw [← hp]; exact hn _ _ h
 · rename_i d w'
   have : ({ qh D a with defers := d :: (qh D a).defers } : Act).put o.dst undef = qh D (({ a with defers := d :: a.defers } : Act).put o.dst undef) := by cases o.dst <;> rfl
   rw [this]; exact hn _ _ h
 · refine Calls.mono h fun e w' hh => ?_
   cases e with
   | returned v => dsimp only at hh ⊢; rw [← hp]; exact hn _ _ hh
   | panicked ch => exact hQ _ _ _ hh
   | outgrown => obtain ⟨a0, w0, h0⟩ := hh; exact ⟨_, w0, hQ _ _ _ h0⟩
 · refine Rows.mono h fun v w' hh => ?_
   rw [← hp]; exact hn _ _ hh
 · exact hQ _ _ _ h
 · exact h.elim
theorem qT {D : List Deferred} {Q Q' : Exit → Act → World → Prop} (hQ : ∀ e a w, Q e a w → Q' e (qh D a) w) : ∀ (l : List Oper) (a : Act) (w : World), wpList P ops Q l a w → wpList P ops Q' l (qh D a) w
 | [], a, w, h => hQ _ _ _ h
 | o :: l, a, w, h => by
   have hp : ∀ (d : Option Nat) (v : Value), qh D (a.put d v) = (qh D a).put d v := fun d v => by cases d <;> rfl
   unfold wpList at h ⊢
   have hw : (qh D a).tmps = a.tmps := rfl
   rw [hw]
   split
   · rename_i hwt
     rw [if_pos hwt] at h
     rcases h with h | ⟨h1, a0, w0, h2⟩
     · left
       exact UH (fun a w h => qT hQ l a w h) hQ h
     · exact Or.inr ⟨h1, _, w0, hQ _ _ _ h2⟩
   · rename_i hwt
     rw [if_neg hwt] at h
     rw [← hp]
     exact qT hQ l _ w h
theorem abt {o : Oper} {a : Act} {next next' : Act → World → Prop} {K : Act → World → Prop} {Q : Exit → Act → World → Prop} (hn : ∀ a w, next a w → next' a w) {r : Result Next} (h : o.upon P a next (Exit.then K Q) r) : o.upon P a next' Q r := by
 unfold Oper.upon at h ⊢
 split at h
 · exact hn _ _ h
 · exact hn _ _ h
 · exact hn _ _ h
 · refine Calls.mono h fun e w' hh => ?_
   cases e with
   | returned v => exact hn _ _ hh
   | panicked ch => exact hh
   | outgrown => exact hh
 · exact Rows.mono h fun v w' hh => hn _ _ hh
 · exact h
 · exact h.elim
theorem wpList_app {Q : Exit → Act → World → Prop} {l2 : List Oper} : ∀ (l : List Oper) (a : Act) (w : World), wpList P ops (Exit.then (wpList P ops Q l2) Q) l a w → wpList P ops Q (l ++ l2) a w
 | [], a, w, h => h
 | o :: l, a, w, h => by
   rw [List.cons_append]
   unfold wpList at h ⊢
   split
   · rename_i hwt
     rw [if_pos hwt] at h
     rcases h with h | h
     · exact Or.inl (abt (fun a w h => wpList_app l a w h) h)
     · exact Or.inr h
   · rename_i hwt
     rw [if_neg hwt] at h
     exact wpList_app l _ w h
theorem qs {Q : Exit → Act → List Frame → World → Prop} {cs : List Frame} (hk : ∀ a w, ¬ Q .outgrown a cs w) : ∀ (l : List Nat) (a : Act) (w : World), wpOps P ops (fun e a w => Q e a cs w) l a w → wpOpsS P ops Q l a cs w
 | [], a, w, h => h
 | i :: l, a, w, h => by
   unfold wpOps at h
   unfold wpOpsS
   cases ho : ops[i]? with
   | none =>
     rw [ho] at h
     exact qs hk l a w h
   | some o =>
     rw [ho] at h
     dsimp only at h ⊢
     by_cases hwt : Region.wanted o (yielded ops a.tmps) = true
     · rw [if_pos hwt] at h ⊢
       rcases h with h | ⟨_, a0, w0, h⟩
       · unfold Oper.wp at h
         cases hr : (execOp a.eval o).run P w with
         | halt x w' => rw [hr] at h; cases x <;> first | exact h | exact h.elim
         | ok x w' =>
           rw [hr] at h
           cases x with
           | value v => exact qs hk l _ _ h
           | skip => exact qs hk l _ _ h
           | defer d => exact qs hk l _ _ h
           | enter f args =>
             refine Calls.mono h fun e w' hh => ?_
             cases e with
             | returned v => exact qs hk l _ _ hh
             | panicked ch => exact hh
             | outgrown => exact hh
           | row r args => exact Rows.mono h fun v w' hh => qs hk l _ _ hh
           | _ => exact h.elim
       · exact absurd h (hk a0 w0)
     · rw [if_neg hwt] at h ⊢
       exact qs hk l _ w h
end
def aga (o : Oper) : Option Nat := match o with
 | ⟨some d, .call ⟨.builtin .recover, _, _⟩, _, _, _, none⟩ => some d
 | _ => none
theorem abu {o : Oper} {d : Nat} (h : aga o = some d) : o.dst = some d ∧ o.guard = none ∧ ∀ (P : Program) (ρ : Operand → Value) (w : World), (execOp ρ o).run P w = .ok .recover w := by
 unfold aga at h
 split at h
 · cases h
   exact ⟨rfl, rfl, fun P ρ w => by simp [execOp, resolve, invoke, builtin]⟩
 · cases h
noncomputable def recF (P : Program) (E : jU) (H k g : Nat) (caps : List AV) (m : Mem) : Option Mem :=
 ob P.funcs[g]? fun fn => ob fn.body fun c => bo (Nat.ble (lenN caps) fn.ntmps) (match c with
  | .seq (.region _ ⟨o :: rest⟩ false) y =>
    ob (aga o) fun d => bo (Nat.blt d fn.ntmps) (ob (listE P E ⟨o :: rest⟩ fn.ntmps rest (.put d .nilI (argF caps 0 (.base H .leaf))) m) fun r1 =>
     ob (codeE P E fn.ntmps k y r1.1 r1.2) fun r => Exit.rec (bo fn.results.isEmpty (some r.m)) (fun _ => none) (fun _ => none) (bo fn.results.isEmpty (some r.m)) (fun _ => none) none r.x)
  | _ => none)
section
variable {P : Program} {G : World} {E : jU} {k : Nat} {F : Fm} {σ : Sg} {L : ja}
theorem QJ {args : List Value} {n : Nat} (h : args.length ≤ n) : Env n (kY 0 args) { tmps := args.toArray ++ Array.replicate (n - args.toArray.size) undef, defers := [] } := by
 refine ⟨by simp; omega, rfl, fun t v hv => ?_⟩
 obtain ⟨_, h2⟩ := qx args 0 t v hv
 have h3 : args.toArray[t]? = some v := by simpa using h2
 have h4 := (Array.getElem?_eq_some_iff.1 h3).1
 show (args.toArray ++ _)[t]? = some v
 rw [Array.getElem?_append_left h4]
 exact h3
theorem ae6 (kb : P.follows .mixedOrders = true) (hE : jV P E) {H g : Nat} {caps : List AV} {m m' : Mem} {Caps : List Value} (e : recF P E H k g caps m = some m') (hA : DenL σ caps Caps) (hm : MemR σ m F L) :
 ∀ w, Heap G w L → CallsD P g Caps.toArray .returning w fun e u' w' => ∃ v, e = .returned v ∧ u' = .returning ∧ ∃ (σ' : Sg) (L' : ja), σ.le σ' ∧ MemR σ' m' F L' ∧ Heap G w' L' := by
 intro w hw
 obtain ⟨fn, hf, e⟩ := jd e
 obtain ⟨c, hb, e⟩ := jd e
 obtain ⟨hn, e⟩ := je e
 split at e
 · rename_i id o rest y ex
   obtain ⟨d, hrd, e⟩ := jd e
   obtain ⟨hdst, hgd, hrun⟩ := abu hrd
   obtain ⟨hd, e⟩ := je e
   obtain ⟨⟨s1, m1⟩, e1, e⟩ := jd e
   obtain ⟨⟨x, s2, m2⟩, e2, e⟩ := jd e
   obtain ⟨ρ', q1, q2⟩ := yU (k := 0) (s := Fr.base H .leaf) (ρ := []) hA (SlR.leaf hm.glb) (fun t _ => rfl)
   have hlen : Caps.length ≤ fn.ntmps := by rw [hA.length, ← jP]; exact Nat.le_of_ble_eq_true hn
   have he0 : Env fn.ntmps ρ' { tmps := Caps.toArray ++ Array.replicate (fn.ntmps - Caps.toArray.size) undef, defers := [] } := (QJ hlen).weak fun t u h => by
    rcases q2 t u h with h | h
    · exact h
    · cases h
   refine callsD_of_wpS hf hb fun c₀ cs hu => ?_
   have hc : ({ c₀ with mode := .returning } : Frame) = c₀ := by cases c₀; dsimp only at hu; rw [hu]
   have fin : fn.results.isEmpty = true → some m2 = some m' → ∀ (σ2 : Sg) (ρ2 : jh) (L2 : ja), σ.le σ2 → SlR σ2 s2 ρ2 → MemR σ2 m2 F L2 → TQ G fn.ntmps ρ2 L2 .ret (fun e a w => bodyPostS P fn c₀ cs (fun e u' w' => ∃ v, e = .returned v ∧ u' = .returning ∧ ∃ (σ' : Sg) (L' : ja), σ.le σ' ∧ MemR σ' m' F L' ∧ Heap G w' L') e a (c₀ :: cs) w) := fun hr hmm σ2 ρ2 L2 h1 h2 h3 => by
    cases hmm
    refine ⟨fun a w he hw => ⟨he.defers, .returning, by rw [hc], ?_⟩⟩
    have hr' : fn.results = #[] := by simpa using hr
    exact ⟨.tuple #[], by simp [results, hr'], _, rfl, rfl, σ2, L2, h1, h3, hw⟩
   refine wpS_seq (wpS_region ?_)
   rw [List.range_eq_range', show (Array.mk (o :: rest)).size = rest.length + 1 from by simp, List.range'_succ]
   have ho : (Array.mk (o :: rest))[0]? = some o := rfl
   have hrec : recoverD (c₀ :: cs) = none := by simp [recoverD, hu]
   unfold wpOpsS
   rw [ho]
   dsimp only
   rw [if_pos (by simp [Region.wanted, hgd]), hrun]
   dsimp only
   rw [hrec, hdst]
   dsimp only
   have hlk : ∀ j, rest[j]? = (Array.mk (o :: rest))[0 + 1 + j]? := fun j => by simp [Nat.add_comm 1 j]
   refine qs (fun a w h => ?_) _ _ w ?_
   · obtain ⟨u', v, h, _⟩ := (show ∃ u' v, Ending.outgrown = .returned v ∧ _ from h)
     cases h
   rw [wpOps_eq_wpList rest (0 + 1) hlk]
   refine (qk (G := G) hE rest e1 (q1.put (d := d) (V := .nilIface) (by simp [Den])) hm fun σ1 ρ1 L1 h1 h2 h3 => ⟨fun a w he hw => ?_⟩).out _ _ (he0.put d (by simpa using hd) _) hw
   refine wpS_of_wp ((ql kb hE y e2 h2 h3 fun σ2 ρ2 L2 k1 k2 k3 => ?_).out a w he hw)
   cases x with
   | normal =>
     obtain ⟨hr, e⟩ := je e
     exact ⟨fun a w he hw => (fin hr e σ2 ρ2 L2 (Sg.le_trans h1 k1) k2 k3).out a w he hw⟩
   | ret =>
     obtain ⟨hr, e⟩ := je e
     exact fin hr e σ2 ρ2 L2 (Sg.le_trans h1 k1) k2 k3
   | _ => cases e
 · cases e
end
def agb (o : Oper) : Option Operand := match o with
 | ⟨none, .defer ⟨.value x, ⟨[]⟩, _⟩, _, _, _, none⟩ => some x
 | _ => none
theorem abv {o : Oper} {x : Operand} (h : agb o = some x) : o.dst = none ∧ o.guard = none ∧ ∀ (P : Program) (ρ : Operand → Value) (w : World) (g : FuncId) (cap : Array Value), ρ x = .func (.func g) #[] cap → (execOp ρ o).run P w = .ok (.defer ⟨.fn (.func g) cap, #[]⟩) w := by
 unfold agb at h
 split at h
 · cases h
   exact ⟨rfl, rfl, fun P ρ w g cap hx => by simp [execOp, resolve, hx, Deferred.ofValue]⟩
 · cases h
noncomputable def defF (P : Program) (H : Nat → Nat) (k i : Nat) (E : jU) (args : List AV) (m : Mem) : Option (AV × Mem) :=
 ob P.funcs[i]? fun fn => ob fn.body fun c => bo (Nat.ble (lenN args) fn.ntmps) (match c with
  | .seq (.region _ ⟨ops0⟩ false) (.seq (.region _ ⟨[o1, o2]⟩ false) (.seq (.region _ ⟨ops2⟩ false) .ret)) =>
    ob (listE P E ⟨ops0⟩ fn.ntmps ops0 (argF args 0 (.base (H i) .leaf)) m) fun r0 =>
    ob (listE P E ⟨[o1, o2]⟩ fn.ntmps [o1] r0.1 r0.2) fun r1 =>
    ob (agb o2) fun x => ob (opd r1.1 x) fun v => (match v with
     | .fn g cap => bo (jX P g) (ob (listE P E ⟨ops2⟩ fn.ntmps ops2 r1.1 r1.2) fun r2 =>
        ob (recF P E (H g) k g cap r2.2) fun m3 => ob (resE P r2.1 m3 fn.results.toList) fun vs => some (QE vs, m3))
     | _ => none)
  | _ => none)
section
variable {P : Program} {G : World} {E : jU} {k : Nat} {F : Fm} {σ : Sg} {L : ja}
theorem ae7 (kb : P.follows .mixedOrders = true) (hE : jV P E) {H : Nat → Nat} {i : Nat} {args : List AV} {m m' : Mem} {v : AV} {As : List Value} (e : defF P H k i E args m = some (v, m')) (hA : DenL σ args As) (hm : MemR σ m F L) : Spec P G i As.toArray L (kB σ v m' F) := by
 refine ⟨fun w hw => ?_⟩
 obtain ⟨fn, hf, e⟩ := jd e
 obtain ⟨c, hb, e⟩ := jd e
 obtain ⟨hn, e⟩ := je e
 split at e
 · rename_i id0 ops0 id1 o1 o2 id2 ops2 ex
   obtain ⟨⟨s0, m0⟩, e0, e⟩ := jd e
   obtain ⟨⟨s1, m1⟩, e1, e⟩ := jd e
   obtain ⟨x, hdd, e⟩ := jd e
   obtain ⟨u, hx, e⟩ := jd e
   split at e
   · rename_i g cap
     obtain ⟨hbg, e⟩ := je e
     obtain ⟨⟨s2, m2⟩, e2, e⟩ := jd e
     obtain ⟨m3, e3, e⟩ := jd e
     obtain ⟨vs, e4, e⟩ := jd e
     cases e
     obtain ⟨ρ', q1, q2⟩ := yU (k := 0) (s := Fr.base (H i) .leaf) (ρ := []) hA (SlR.leaf hm.glb) (fun t _ => rfl)
     have hlen : As.length ≤ fn.ntmps := by rw [hA.length, ← jP]; exact Nat.le_of_ble_eq_true hn
     have he0 : Env fn.ntmps ρ' { tmps := As.toArray ++ Array.replicate (fn.ntmps - As.toArray.size) undef, defers := [] } := (QJ hlen).weak fun t u h => by
      rcases q2 t u h with h | h
      · exact h
      · cases h
     obtain ⟨hdst, hgd, hrun⟩ := abv hdd
     refine calls_of_wp_defers hf hb ((jH (jL (qk hE ops0 e0 q1 hm fun σ0 ρ0 L0 a1 a2 a3 => jR ?_))).out _ w he0 hw)
     refine ⟨fun a w he hw => wp_seq (wp_region_lit (wpList_app [o1] a w ?_))⟩
     refine (qk hE [o1] e1 a2 a3 fun σ1 ρ1 L1 b1 b2 b3 => ⟨fun a w he hw => ?_⟩).out a w he hw
     obtain ⟨V, hV, hVd⟩ := ju b2 hx
     simp only [Den] at hVd
     obtain ⟨Cap, hCap, rfl⟩ := hVd
     have hax : a.eval x = .func (.func g) #[] Cap.toArray := he.reads _ _ hV
     refine (show wpList P _ _ [o2] a w from ?_)
     unfold wpList
     rw [if_pos (by simp [Region.wanted, hgd])]
     left
     unfold Oper.wp
     rw [hrun P a.eval w g Cap.toArray hax, Oper.upon_defer, hdst]
     have hact : ({ a with defers := ⟨.fn (.func g) Cap.toArray, #[]⟩ :: a.defers } : Act).put none undef = qh [⟨.fn (.func g) Cap.toArray, #[]⟩] a := by
      show ({ a with defers := _ } : Act) = _
      unfold qh
      rw [he.defers]
      rfl
     rw [hact]
     refine wpList_nil (wp_seq (wp_region_lit (qT (Q := fun e a w => Exit.then (Code.ret.wp P (bodyPostD P fn (jN G (kB σ _ m' F)))) (bodyPostD P fn (jN G (kB σ _ m' F))) e (qh [⟨.fn (.func g) Cap.toArray, #[]⟩] a) w) (fun e a w h => h) ops2 a w ?_)))
     refine (qk hE ops2 e2 b2 b3 fun σ2 ρ2 L2 c1 c2 c3 => ⟨fun a w he hw => ?_⟩).out a w he hw
     refine wp_ret ?_
     show Leaves P fn a.tmps _ (a.defers ++ [_]) .returning w
     rw [he.defers]
     refine leaves_cons (by simp) (f := g) (args := Cap.toArray) ?_ ?_
     · rw [show invoke (.fn (.func g) Cap.toArray) #[] = callFunc g Cap.toArray from by simp [invoke]]
       exact kH hbg ..
     · refine (ae6 kb hE e3 (hCap.mono c1 _) c3 w hw).mono fun e u' w' h => ?_
       obtain ⟨v, rfl, rfl, σ3, L3, d1, d2, d3⟩ := h
       have hs3 := c2.mono d1
       obtain ⟨V, k1, k2⟩ := yy (P := P) hs3 d2 he e4
       exact ⟨V, k2 w' d3.has, V, L3, rfl, ⟨σ3, Sg.le_trans a1 (Sg.le_trans b1 (Sg.le_trans c1 d1)), k1, d2⟩, d3⟩
   · cases e
 · cases e
end
end Go.Proofs.YtgjlbilcnlffgaaGreatDoor.Ev
namespace Go.Proofs.YtgjlbilcnlffgaaGreatDoor.Ev
open Go
noncomputable def jumpE (P : Program) (E : jU) (n k : Nat) (c : Code) (j : Nat) : R3 → Option R3 := Nat.rec (fun r => Exit.rec (some r) (fun _ => some r) (fun _ => none) (some r) (fun _ => some r) (some r) r.x)
 (fun _ ih r => Exit.rec (some r) (fun _ => some r) (fun l => ob (findLabel c l) fun rest => ob (codeE P E n k rest r.s r.m) ih) (some r) (fun _ => some r) (some r) r.x) j
noncomputable def scopeE (P : Program) (E : jU) (n k : Nat) (c : Code) (s : Fr AV) (m : Mem) : Option R3 := ob (codeE P E n k c s m) (jumpE P E n k c k)
noncomputable def codeJ (P : Program) (E : jU) (k n : Nat) (c : Code) : Fr AV → Mem → Option R3 := Code.rec (motive := fun _ => Fr AV → Mem → Option R3)
 (codeE P E n k .skip)
 (fun id ops draw => codeE P E n k (.region id ops draw))
 (fun a _ _ ib s m => ob (codeE P E n k a s m) fun r => Exit.rec (ib r.s r.m) (fun _ => some r) (fun _ => some r) (some r) (fun _ => some r) (some r) r.x)
 (fun c a b _ _ => codeE P E n k (.cond c a b))
 (fun id a _ => codeE P E n k (.block id a))
 (fun a _ => codeE P E n k (.loop a))
 (fun f ps a b _ _ => codeE P E n k (.rangeFunc f ps a b))
 (fun id => codeE P E n k (.exit id))
 (fun a _ => scopeE P E n k a)
 (fun l => codeE P E n k (.label l))
 (fun l => codeE P E n k (.goto l))
 (codeE P E n k .ret)
 (fun w => codeE P E n k (.refuse w)) c
section
variable {P : Program} {G : World} {F : Fm} {E : jU} {n k : Nat}
theorem ac9 (kb : P.follows .mixedOrders = true) (hE : jV P E) {c : Code} {Q : Exit → Act → World → Prop} : ∀ (j : Nat) {r r' : R3} {σ : Sg} {ρ : jh} {L : ja}, jumpE P E n k c j r = some r' → SlR σ r.s ρ → MemR σ r.m F L →
 (∀ (σ' : Sg) (ρ' : jh) (L' : ja), σ.le σ' → SlR σ' r'.s ρ' → MemR σ' r'.m F L' → TQ G n ρ' L' r'.x Q) →
 ∀ a w, Env n ρ a → Heap G w L → ∀ (b : Frame) (kk : List Item) (cs : List Frame) (s0 : Machine), Arrives P s0 b (.inScope c :: kk) cs r.x a w → ∃ e a' w', Q e a' w' ∧ Arrives P s0 b kk cs e a' w' := by
 intro j
 induction j with
 | zero =>
   intro r r' σ ρ L e hs hm hQ a w he hw b kk cs s0 harr
   obtain ⟨x, s, m⟩ := r
   cases x with
   | normal => cases e; exact ⟨_, a, w, (hQ σ ρ L σ.le_refl hs hm).out a w he hw, Steps.trans harr (.one step_inScope)⟩
   | exit id => cases e; exact ⟨_, a, w, (hQ σ ρ L σ.le_refl hs hm).out a w he hw, fun k' hk => harr k' (by simp [exitTo, hk])⟩
   | goto l => cases e
   | ret => cases e; exact ⟨_, a, w, (hQ σ ρ L σ.le_refl hs hm).out a w he hw, harr⟩
   | panic ch => cases e; exact ⟨_, a, w, (hQ σ ρ L σ.le_refl hs hm).out a w he hw, harr⟩
   | outgrown => cases e; exact ⟨_, a, w, (hQ σ ρ L σ.le_refl hs hm).out a w he hw, harr⟩
 | succ j ih =>
   intro r r' σ ρ L e hs hm hQ a w he hw b kk cs s0 harr
   obtain ⟨x, s, m⟩ := r
   cases x with
   | normal => cases e; exact ⟨_, a, w, (hQ σ ρ L σ.le_refl hs hm).out a w he hw, Steps.trans harr (.one step_inScope)⟩
   | exit id => cases e; exact ⟨_, a, w, (hQ σ ρ L σ.le_refl hs hm).out a w he hw, fun k' hk => harr k' (by simp [exitTo, hk])⟩
   | goto l =>
     obtain ⟨rest, hf, e⟩ := jd (show ob (findLabel c l) (fun rest => ob (codeE P E n k rest s m) (jumpE P E n k c j)) = some r' from e)
     obtain ⟨r1, e1, e⟩ := jd e
     have hg : gotoIn l (.inScope c :: kk) = some (.code rest :: .inScope c :: kk) := by simp [gotoIn, hf]
     have hT : T P G n ρ L rest (fun e a w => e = r1.x ∧ ∃ (σ' : Sg) (ρ' : jh) (L' : ja), σ.le σ' ∧ SlR σ' r1.s ρ' ∧ MemR σ' r1.m F L' ∧ Env n ρ' a ∧ Heap G w L') :=
      ql kb hE rest e1 hs hm fun σ' ρ' L' h1 h2 h3 => ⟨fun a w he hw => ⟨rfl, σ', ρ', L', h1, h2, h3, he, hw⟩⟩
     obtain ⟨e2, a2, w2, ⟨rfl, σ', ρ', L', h1, h2, h3, h4, h5⟩, harr2⟩ := hT.out a w he hw b (.inScope c :: kk) cs
     exact ih e h2 h3 (fun σ'' ρ'' L'' q1 q2 q3 => hQ σ'' ρ'' L'' (Sg.le_trans h1 q1) q2 q3) a2 w2 h4 h5 b kk cs s0 (.of_steps (harr _ hg) harr2)
   | ret => cases e; exact ⟨_, a, w, (hQ σ ρ L σ.le_refl hs hm).out a w he hw, harr⟩
   | panic ch => cases e; exact ⟨_, a, w, (hQ σ ρ L σ.le_refl hs hm).out a w he hw, harr⟩
   | outgrown => cases e; exact ⟨_, a, w, (hQ σ ρ L σ.le_refl hs hm).out a w he hw, harr⟩
theorem abw (kb : P.follows .mixedOrders = true) (hE : jV P E) (c : Code) : QD P G F n (scopeE P E n k c) (.scope c) := by
 intro s m r σ ρ L Q e hs hm hQ
 obtain ⟨r1, e1, e⟩ := jd e
 have hT : T P G n ρ L c (fun e a w => e = r1.x ∧ ∃ (σ' : Sg) (ρ' : jh) (L' : ja), σ.le σ' ∧ SlR σ' r1.s ρ' ∧ MemR σ' r1.m F L' ∧ Env n ρ' a ∧ Heap G w L') :=
  ql kb hE c e1 hs hm fun σ' ρ' L' h1 h2 h3 => ⟨fun a w he hw => ⟨rfl, σ', ρ', L', h1, h2, h3, he, hw⟩⟩
 refine ⟨fun a w he hw b kk cs => ?_⟩
 obtain ⟨e2, a2, w2, ⟨rfl, σ', ρ', L', h1, h2, h3, h4, h5⟩, harr2⟩ := hT.out a w he hw b (.inScope c :: kk) cs
 exact ac9 kb hE k e h2 h3 (fun σ'' ρ'' L'' q1 q2 q3 => hQ σ'' ρ'' L'' (Sg.le_trans h1 q1) q2 q3) a2 w2 h4 h5 b kk cs _ (.of_steps (.one step_scope) harr2)
theorem ada (kb : P.follows .mixedOrders = true) (hE : jV P E) : ∀ c : Code, QD P G F n (codeJ P E k n c) c := by
 intro c
 induction c with
 | seq a b _ ihb =>
   intro s m r σ ρ L Q e hs hm hQ
   obtain ⟨⟨x, s1, m1⟩, e1, e⟩ := jd (show ob (codeE P E n k a s m) (fun r => Exit.rec (codeJ P E k n b r.s r.m) (fun _ => some r) (fun _ => some r) (some r) (fun _ => some r) (some r) r.x) = some r from e)
   refine jH (ql kb hE a e1 hs hm fun σ' ρ' L' h1 h2 h3 => ?_)
   cases x with
   | normal => exact jR (ihb e h2 h3 fun σ'' ρ'' L'' q1 q2 q3 => hQ σ'' ρ'' L'' (Sg.le_trans h1 q1) q2 q3)
   | _ => cases e; exact zT (by simp) (hQ σ' ρ' L' h1 h2 h3)
 | scope c _ => intro s m r σ ρ L Q e hs hm hQ; exact abw kb hE c e hs hm hQ
 | _ => intro s m r σ ρ L Q e hs hm hQ; exact ql (k := k) kb hE _ e hs hm hQ
end
abbrev Own := Nat → Option (jU → List AV → Mem → Option (AV × Mem))
def uD (P : Program) (X : Own) : Prop := ∀ (i : Nat) (f : jU → List AV → Mem → Option (AV × Mem)), X i = some f → ∀ E, jV P E → ∀ {G : World} {args : List AV} {m : Mem} {v : AV} {m' : Mem} {σ : Sg} {As : List Value} {F : Fm} {L : ja}, f E args m = some (v, m') → DenL σ args As → MemR σ m F L → Spec P G i As.toArray L (kB σ v m' F)
noncomputable def funX (P : Program) (H : Nat → Nat) (k : Nat) (X : Own) (d : Nat) : jU := Nat.rec (fun _ _ _ => none) (fun _ ih i args m => Option.rec (stepC P H (fun n c => codeE P ih n k c) i args m) (fun f => f ih args m) (X i)) d
theorem aar (P : Program) (kb : P.follows .mixedOrders = true) (H : Nat → Nat) (k : Nat) {X : Own} (hX : uD P X) : ∀ d : Nat, jV P (funX P H k X d)
 | 0 => fun e => by cases e
 | d + 1 => by
   rename_i G i args m v m' σ As F L
   intro e hA hm
   have ih : jV P (funX P H k X d) := aar P kb H k hX d
   cases hx : X i with
   | none =>
     have e' : (Option.rec (stepC P H (fun n c => codeE P (funX P H k X d) n k c) i args m) (fun f => f (funX P H k X d) args m) (X i) : Option (AV × Mem)) = some (v, m') := e
     rw [hx] at e'
     exact QI (fun n c => ql kb ih c) e' hA hm
   | some f =>
     have e' : (Option.rec (stepC P H (fun n c => codeE P (funX P H k X d) n k c) i args m) (fun f => f (funX P H k X d) args m) (X i) : Option (AV × Mem)) = some (v, m') := e
     rw [hx] at e'
     exact hX i f hx _ ih e' hA hm
inductive Way where
 | defers
 | jumps
noncomputable def Way.go (P : Program) (H : Nat → Nat) (k i : Nat) (x : Way) (E : jU) : List AV → Mem → Option (AV × Mem) := Way.rec (defF P H k i E) (stepC P H (codeJ P E k) i) x
theorem Way.ok {P : Program} (kb : P.follows .mixedOrders = true) {H : Nat → Nat} {k i : Nat} {x : Way} {E : jU} (hE : jV P E) {G : World} {args : List AV} {m : Mem} {v : AV} {m' : Mem} {σ : Sg} {As : List Value} {F : Fm} {L : ja} (e : x.go P H k i E args m = some (v, m')) (hA : DenL σ args As) (hm : MemR σ m F L) : Spec P G i As.toArray L (kB σ v m' F) := by
 cases x with
 | defers => exact ae7 kb hE e hA hm
 | jumps => exact QI (fun n c => ada kb hE c) e hA hm
noncomputable def ownL (P : Program) (H : Nat → Nat) (k : Nat) (l : List (Nat × Way)) : Own := fun i => List.rec none (fun p _ ih => Bool.rec ih (some (p.2.go P H k i)) (Nat.beq p.1 i)) l
theorem ae8 {P : Program} (kb : P.follows .mixedOrders = true) (H : Nat → Nat) (k : Nat) (l : List (Nat × Way)) : uD P (ownL P H k l) := by
 intro i f hf E hE G args m v m' σ As F L e hA hm
 unfold ownL at hf
 induction l with
 | nil => cases hf
 | cons p l ih =>
   dsimp only at hf
   cases hb : Nat.beq p.1 i with
   | false => rw [hb] at hf; exact ih hf
   | true => rw [hb] at hf; cases hf; exact Way.ok kb hE e hA hm
end Go.Proofs.YtgjlbilcnlffgaaGreatDoor.Ev
namespace Go.Proofs.YtgjlbilcnlffgaaGreatDoor.Ev
open Go
abbrev Rnd := AV → Mem → Option (Option Exit × Mem)
abbrev VG := Rnd → AV → Mem → Option (Option Exit × Mem)
section
variable {G : World} {σ : Sg} {m : Mem} {B : ja} {z : Nat → Option AO} {d : Nat → Prop} {L R : ja} {l : Nat} {O O' : Obj} {w : World}
theorem yV (hw : Heap G w L) (hm : (l, O) ∈ L) : ∃ R, L.Perm ((l, O) :: R) ∧ (∀ O', Heap G (w.putObj l O') ((l, O') :: R)) ∧ ∀ p ∈ R, p.1 ≠ l := by
 obtain ⟨s, t, rfl⟩ := List.append_of_mem hm
 have hp : (s ++ (l, O) :: t).Perm ((l, O) :: (s ++ t)) := List.perm_middle
 have hw' := hw.perm hp
 have hlt := hw.lt hm
 refine ⟨s ++ t, hp, fun O' => hw'.update ⟨rfl, rfl, rfl, ?_⟩ (World.putObj_heap_same hlt) fun j _ hj => World.putObj_heap_other hj, fun p hp => hw'.ne hp⟩
 simp
theorem MemR.join {F : Fm} (h : MemR σ m F L) (hb : ∀ p ∈ L, p.1 ≠ l) : MemR σ m ⟨(l, O) :: F.b, F.z, F.d⟩ ((l, O) :: L) := by
 refine ⟨fun i o x e ex => ?_, h.inj, fun p hp => ?_, fun i o x e ex p hp => ?_, h.ghost, h.fresh, h.below, h.glb, h.dead⟩
 · obtain ⟨O1, h1, h2⟩ := h.get i o x e ex
   exact ⟨O1, h1, List.mem_cons_of_mem _ h2⟩
 · rcases List.mem_cons.1 hp with rfl | hp
   · exact List.mem_cons_self ..
   · exact List.mem_cons_of_mem _ (h.frame p hp)
 · rcases List.mem_cons.1 hp with rfl | hp
   · obtain ⟨O1, h1, h2⟩ := h.get i o x e ex
     exact Ne.symm (hb _ h2)
   · exact h.apart i o x e ex p hp
theorem MemR.cut (h : MemR σ m ⟨(l, O) :: B, z, d⟩ L) (hp : L.Perm ((l, O) :: R)) (hB : ∀ p ∈ B, p.1 ≠ l) : MemR σ m ⟨B, z, d⟩ R := by
 refine ⟨fun i o x e ex => ?_, h.inj, fun p hb => ?_, fun i o x e ex p hb => h.apart i o x e ex p (List.mem_cons_of_mem _ hb), h.ghost, h.fresh, h.below, h.glb, h.dead⟩
 · obtain ⟨O1, h1, h2⟩ := h.get i o x e ex
   rcases List.mem_cons.1 (hp.mem_iff.1 h2) with h3 | h3
   · exact absurd (by rw [← h3]) (h.apart i o x e ex (l, O) (List.mem_cons_self ..))
   · exact ⟨O1, h1, h3⟩
 · rcases List.mem_cons.1 (hp.mem_iff.1 (h.frame p (List.mem_cons_of_mem _ hb))) with h3 | h3
   · exact absurd (by rw [h3]) (hB p hb)
   · exact h3
theorem MemR.swap (h : MemR σ m ⟨(l, O) :: B, z, d⟩ L) (hp : L.Perm ((l, O) :: R)) (hB : ∀ p ∈ B, p.1 ≠ l) (hR : ∀ p ∈ R, p.1 ≠ l) : MemR σ m ⟨(l, O') :: B, z, d⟩ ((l, O') :: R) :=
 (h.cut hp hB).join hR
end
def aas : Exit → Code
 | .exit id => .exit id
 | _ => .ret
def kr (rc : Loop) : Option Exit → Loop
 | none => rc
 | some x => { rc with state := .done, pending := some (aas x) }
def zU (P : Program) (G : World) (σ : Sg) (F : Fm) (l : Nat) (rc : Loop) (R : Rnd) : Prop := ∀ {m m' : Mem} {v : AV} {V : Value} {j : Option Exit} {σ1 : Sg} {L : ja}, R v m = some (j, m') → σ.le σ1 → Den σ1 v V → MemR σ1 m ⟨(l, .loop rc) :: F.b, F.z, F.d⟩ L → ∀ w, Heap G w L →
 RoundIn Fence.wide 0 P l rc.fn ((rc.params.zip #[V]).foldl (fun tmps (t, a) => tmps.setIfInBounds t a) rc.tmps) rc.assign rc.body w (jN G fun u M => u = .bool j.isNone ∧ ∃ σ2, σ1.le σ2 ∧ MemR σ2 m' ⟨(l, .loop (kr rc j)) :: F.b, F.z, F.d⟩ M)
def Kg (P : Program) (Z : VG) : Prop := ∀ {G : World} {σ : Sg} {F : Fm} {l : Nat} {rc : Loop} {R : Rnd} {v : AV} {V : Value} {j : Option Exit} {m m' : Mem} {L : ja}, Z R v m = some (j, m') → rc.params.size = 1 → zU P G σ F l rc R → Den σ v V → MemR σ m ⟨(l, .loop rc) :: F.b, F.z, F.d⟩ L →
 ∃ f Cap, V = .func (.func f) #[] Cap ∧ jX P f = true ∧ Spec P G f (#[.func (.yield l) #[] #[]] ++ Cap) L fun u M => ∃ σ2, σ.le σ2 ∧ MemR σ2 m' ⟨(l, .loop (kr rc j)) :: F.b, F.z, F.d⟩ M
noncomputable def roundE (P : Program) (E : jU) (n : Nat) (s : Fr AV) (p : Nat) (assign body : Code) : Rnd := fun v m =>
 ob (codeI P E n assign (.put p v s) m) fun r1 => Exit.rec (ob (codeI P E n body r1.s r1.m) fun r => Exit.rec (some (none, r.m)) (fun id => some (some (.exit id), r.m)) (fun _ => none) (some (some .ret, r.m)) (fun _ => none) none r.x) (fun _ => none) (fun _ => none) none (fun _ => none) none r1.x
section
variable {P : Program} {G : World} {E : jU} {n : Nat} {F : Fm} {σ : Sg} {ρ : jh} {L : ja}
theorem W5 {w : World} {l : Nat} {rc : Loop} {j : Option Exit} (hrc : rc = { rc with state := .ready, pending := none }) (hl : w.heap[l]? = some (.loop { rc with state := .busy })) :
 (Instr.endRound l (j.map aas)).run P w = .ok (.bool j.isNone) (w.putObj l (.loop (kr rc j))) := by
 rw [run_endRound _ hl]
 cases j with
 | none =>
   have h : kr rc none = { rc with state := .ready, pending := none } := hrc
   rw [h]
   rfl
 | some x => rfl
theorem adb (kb : P.follows .mixedOrders = true) (hE : jV P E) {s : Fr AV} (hs : SlR σ s ρ) {a : Act} (he : Env n ρ a) {l p : Nat} {rc : Loop} {assign body : Code} (hp : p < n) (hB : ∀ q ∈ F.b, q.1 ≠ l) (hrc : rc = { rc with state := .ready, pending := none }) (h1 : rc.tmps = a.tmps) (h2 : rc.params = #[p]) (h3 : rc.assign = assign) (h4 : rc.body = body) :
 zU P G σ F l rc (roundE P E n s p assign body) := by
 intro m m' v V j σ1 L e hle hv hm w hw
 obtain ⟨⟨x1, s1, m1⟩, e1, e⟩ := jd e
 cases x1 <;> try (cases e)
 obtain ⟨⟨x2, s2, m2⟩, e2, e⟩ := jd e
 rw [h1, h2, h3, h4]
 refine roundIn_of_wpIn trivial ?_
 have hQ : ∀ j' : Option Exit, some (j', m2) = some (j, m') → ∀ (a : Act) (w : World) (σ2 : Sg) (L2 : ja), σ1.le σ2 → MemR σ2 m2 ⟨(l, .loop { rc with state := .busy }) :: F.b, F.z, F.d⟩ L2 → Heap G w L2 → ∃ v w', (Instr.endRound l (j'.map aas)).run P w = .ok v w' ∧ jN G (fun u M => u = .bool j.isNone ∧ ∃ σ2, σ1.le σ2 ∧ MemR σ2 m' ⟨(l, .loop (kr rc j)) :: F.b, F.z, F.d⟩ M) (.returned v) w' := fun j' ej a w σ2 L2 k1 k2 k3 => by
  cases ej
  have hmem := k2.frame _ (List.mem_cons_self ..)
  obtain ⟨R, q1, q2, q3⟩ := yV k3 hmem
  refine ⟨_, _, W5 hrc (k3.get _ hmem), _, _, rfl, ⟨rfl, σ2, k1, k2.swap q1 hB q3⟩, q2 _⟩
 refine (W4 (yb l) kb hE assign ?_ e1 ((hs.mono hle).put (d := p) hv) hm fun σ2 ρ2 L2 k1 k2 k3 => ⟨fun a1 w1 he1 hw1 => ?_⟩).out _ _ ?_ hw
 · rintro ⟨_, _, h⟩
   exact h
 · have hmem := k3.frame _ (List.mem_cons_self ..)
   obtain ⟨R, q1, q2, q3⟩ := yV hw1 hmem
   refine ⟨_, run_beginRound (hw1.get _ hmem) (by rw [hrc]), ?_⟩
   refine (W4 (yb l) kb hE body ?_ e2 k2 (k3.swap q1 hB q3) fun σ3 ρ3 L3 c1 c2 c3 => ⟨fun a2 w2 he2 hw2 => ?_⟩).out _ _ he1 (q2 _)
   · rintro ⟨_, _, h⟩
     exact h
   · cases x2 with
     | normal => exact hQ none e a2 w2 σ3 L3 (Sg.le_trans k1 c1) c3 hw2
     | ret => exact hQ (some .ret) e a2 w2 σ3 L3 (Sg.le_trans k1 c1) c3 hw2
     | exit id => exact hQ (some (.exit id)) e a2 w2 σ3 L3 (Sg.le_trans k1 c1) c3 hw2
     | _ => cases e
 · have h := he.put p hp V
   have hz : ((#[p] : Array Tmp).zip #[V]).foldl (fun tmps (t, a) => tmps.setIfInBounds t a) a.tmps = a.tmps.setIfInBounds p V := by simp
   rw [hz]
   have : ({ tmps := a.tmps.setIfInBounds p V, defers := [] } : Act) = a.put (some p) V := by
    show _ = ({ a with tmps := a.tmps.setIfInBounds p V } : Act)
    rw [← he.defers]
   rw [this]
   exact h
end
end Go.Proofs.YtgjlbilcnlffgaaGreatDoor.Ev
namespace Go.Proofs.YtgjlbilcnlffgaaGreatDoor.Ev
open Go
def qU (b : Nat) : Deferred := { target := .collected b, args := #[] }
def shutO : Obj := .deferred (some [])
def Fm.more (F : Fm) (D : List Nat) : Fm := ⟨D.map (fun b => (b, shutO)) ++ F.b, F.z, F.d⟩
structure DOk (F : Fm) (D : List Nat) : Prop where
 nodup : D.Nodup
 apart : ∀ b ∈ D, ∀ p ∈ F.b, p.1 ≠ b
structure EnvD (n : Nat) (ρ : jh) (D : List Nat) (a : Act) : Prop where
 ex : ∃ a0, Env n ρ a0 ∧ a = qh (D.map qU) a0
structure TD (P : Program) (G : World) (n : Nat) (ρ : jh) (L : ja) (D : List Nat) (c : Code) (Q : Exit → Act → World → Prop) : Prop where
 out : ∀ a w, EnvD n ρ D a → Heap G w L → c.wp P Q a w
structure TQD (G : World) (n : Nat) (ρ : jh) (L : ja) (D : List Nat) (x : Exit) (Q : Exit → Act → World → Prop) : Prop where
 out : ∀ a w, EnvD n ρ D a → Heap G w L → Q x a w
section
variable {P : Program} {ops : Array Oper} {G : World} {n : Nat} {ρ : jh} {L : ja}
theorem uv {md : Region.Mode} {D : List Deferred} {Q Q' : Exit → Act → World → Prop} (hQ : ∀ e a w, Q e a w → Q' e (qh D a) w) : ∀ (f : Nat) {listed : Array Bool} {a : Act} {w : World}, wpAny P md ops Q f listed a w → wpAny P md ops Q' f listed (qh D a) w
 | 0, listed, a, w, h => ⟨h.1, hQ _ _ _ h.2⟩
 | f + 1, listed, a, w, h => by
   have hp : ∀ (d : Option Nat) (v : Value), qh D (a.put d v) = (qh D a).put d v := fun d v => by cases d <;> rfl
   refine ⟨fun h0 => hQ _ _ _ (h.1 h0), fun i hi => ?_⟩
   have h := h.2 i hi
   unfold wpOp at h ⊢
   cases ho : ops[i]? with
   | none => rw [ho] at h; exact uv hQ f h
   | some o =>
     rw [ho] at h
     dsimp only at h ⊢
     have hw : (qh D a).tmps = a.tmps := rfl
     rw [hw]
     split
     · rename_i hwt
       rw [if_pos hwt] at h
       rcases h with h | ⟨h1, a0, w0, h2⟩
       · exact Or.inl (UH (fun a w h => uv hQ f h) hQ h)
       · exact Or.inr ⟨h1, _, w0, hQ _ _ _ h2⟩
     · rename_i hwt
       rw [if_neg hwt] at h
       rw [← hp]
       exact uv hQ f h
theorem TQD.lift {Q : Exit → Act → World → Prop} {D : List Nat} {x : Exit} (h : TQD G n ρ L D x Q) : TQ G n ρ L x fun e a w => Q e (qh (D.map qU) a) w := ⟨fun a w he hw => h.out _ _ ⟨a, he, rfl⟩ hw⟩
theorem abx {K : Act → World → Prop} {Q : Exit → Act → World → Prop} {D : List Nat} {x : Exit} (hx : x ≠ .normal) (h : TQD G n ρ L D x Q) : TQD G n ρ L D x (Exit.then K Q) := by
 cases x with
 | normal => exact absurd rfl hx
 | _ => exact ⟨fun a w he hw => h.out a w he hw⟩
theorem QK {Q : Exit → Act → World → Prop} {D : List Nat} {x : Exit} {id : Nat} (hx : ∀ j, x = .exit j → j ≠ id) (h : TQD G n ρ L D x Q) : TQD G n ρ L D x (Exit.inBlock id Q) := by
 cases x with
 | exit j =>
   refine ⟨fun a w he hw => ?_⟩
   simp only [Exit.inBlock, hx j rfl, if_false]
   exact h.out a w he hw
 | _ => exact ⟨fun a w he hw => h.out a w he hw⟩
end
noncomputable def oneT {β : Type} (l : List Nat) (f : Nat → Option β) : Option β := match l with
 | [p] => f p
 | _ => none
theorem aby {β : Type} {l : List Nat} {f : Nat → Option β} {r : β} (h : oneT l f = some r) : ∃ p, l = [p] ∧ f p = some r := by
 unfold oneT at h
 split at h
 · exact ⟨_, rfl, h⟩
 · cases h
noncomputable def leftE (s : Fr AV) (q : Option Exit × Mem) : Option R3 := Option.rec (some ⟨.normal, s, q.2⟩) (fun x => Exit.rec none (fun id => some ⟨.exit id, s, q.2⟩) (fun _ => none) (some ⟨.ret, s, q.2⟩) (fun _ => none) none x) q.1
noncomputable def codeD (P : Program) (E : jU) (Z : VG) (n : Nat) (c : Code) : Fr AV → Mem → Option R3 := Code.rec (motive := fun _ => Fr AV → Mem → Option R3)
 (fun s m => some ⟨.normal, s, m⟩)
 (fun _ ops draw s m => Fr.flushK s fun thr t => bo (Nat.ble thr 1000000) (ob (Bool.rec (listE P E ops n ops.toList (.base thr t) m) (drawE P E ops n (.base thr t) m) draw) fun r => some ⟨.normal, r.1, r.2⟩))
 (fun _ _ ia ib s m => ob (ia s m) fun r => Exit.rec (ib r.s r.m) (fun _ => some r) (fun _ => some r) (some r) (fun _ => some r) (some r) r.x)
 (fun c _ _ it ie s m => ob (opd s c) fun v => v.asBool fun b => Bool.rec (ie s m) (it s m) b)
 (fun id _ ih s m => ob (ih s m) fun r => Exit.rec (some r) (fun j => Bool.rec (some r) (some ⟨.normal, r.s, r.m⟩) (Nat.beq j id)) (fun _ => some r) (some r) (fun _ => some r) (some r) r.x)
 (fun _ _ _ _ => none)
 (fun g ps a b _ _ s m => Fr.flushK s fun thr t => bo (Nat.ble thr 1000000) (oneT ps.toList fun p => bo (Nat.blt p n) (ob (opd (.base thr t) g) fun v => ob (Z (roundE P E n (.base thr t) p a b) v m) fun q => leftE (.base thr t) q)))
 (fun id s m => some ⟨.exit id, s, m⟩)
 (fun _ _ _ _ => none)
 (fun _ _ _ => none)
 (fun _ _ _ => none)
 (fun s m => some ⟨.ret, s, m⟩)
 (fun _ _ _ => none) c
section
variable {P : Program} {G : World} {F : Fm} {E : jU} {Z : VG} {n : Nat}
def aat (P : Program) (G : World) (F : Fm) (n : Nat) (ev : Fr AV → Mem → Option R3) (c : Code) : Prop := ∀ {s : Fr AV} {m : Mem} {r : R3} {σ : Sg} {ρ : jh} {L : ja} {D : List Nat} {Q : Exit → Act → World → Prop}, ev s m = some r → SlR σ s ρ → MemR σ m (F.more D) L → DOk F D →
 (∀ (σ' : Sg) (ρ' : jh) (L' : ja) (D' : List Nat), σ.le σ' → SlR σ' r.s ρ' → MemR σ' r.m (F.more D') L' → DOk F D' → TQD G n ρ' L' D' r.x Q) → TD P G n ρ L D c Q
theorem abz (kb : P.follows .mixedOrders = true) (hE : jV P E) (hZ : Kg P Z) {g : Operand} {ps : Array Tmp} {assign body : Code} : aat P G F n (codeD P E Z n (.rangeFunc g ps assign body)) (.rangeFunc g ps assign body) := by
 intro s m r σ ρ L D Q e hs hm hD hQ
 have e : Fr.flushK s (fun thr t => bo (Nat.ble thr 1000000) (oneT ps.toList fun p => bo (Nat.blt p n) (ob (opd (.base thr t) g) fun v => ob (Z (roundE P E n (.base thr t) p assign body) v m) fun q => leftE (.base thr t) q))) = some r := e
 rw [Fr.flushK_eq] at e
 obtain ⟨ht, e⟩ := je e
 have hs := hs.flush (Nat.le_of_ble_eq_true ht)
 obtain ⟨s0, hs0⟩ : ∃ s0, s0 = Fr.base s.thr s.tree := ⟨_, rfl⟩
 rw [← hs0] at e hs
 obtain ⟨p, hps, e⟩ := aby e
 obtain rfl : ps = #[p] := by
  obtain ⟨l⟩ := ps
  dsimp only at hps
  rw [hps]
 obtain ⟨hp, e⟩ := je e
 obtain ⟨v, hv, e⟩ := jd e
 obtain ⟨⟨j, m1⟩, hz, e⟩ := jd e
 refine ⟨fun a w he hw => ?_⟩
 obtain ⟨a0, he0, rfl⟩ := he.ex
 obtain ⟨V, h1, h2⟩ := ju hs hv
 have hev : a0.eval g = V := he0.reads _ _ h1
 refine wpIn_wide.1 (wpIn_rangeFunc (n := 0) fun fn _ => ?_)
 let rc : Loop := { state := .ready, pending := none, fn, tmps := a0.tmps, params := #[p], assign, body, defers := w.heap.size }
 have hfr : ∀ q ∈ L, q.1 ≠ w.heap.size := fun q hq => Nat.ne_of_lt (hw.lt hq)
 have hm1 : MemR σ m (F.more (w.heap.size :: D)) ((w.heap.size, shutO) :: L) := hm.join hfr
 have hfr2 : ∀ q ∈ (w.heap.size, shutO) :: L, q.1 ≠ w.heap.size + 1 := fun q hq => by
  rcases List.mem_cons.1 hq with rfl | hq
  · show w.heap.size ≠ w.heap.size + 1
    omega
  · have := hw.lt hq
    omega
 have hm2 : MemR σ m ⟨(w.heap.size + 1, .loop rc) :: (F.more (w.heap.size :: D)).b, F.z, F.d⟩ ((w.heap.size + 1, .loop rc) :: (w.heap.size, shutO) :: L) := hm1.join hfr2
 have hw2 : Heap G ((w.alloc shutO).alloc (.loop rc)) ((w.heap.size + 1, .loop rc) :: (w.heap.size, shutO) :: L) := by
  have := (hw.alloc shutO).alloc (.loop rc)
  rw [World.size_alloc] at this
  exact this
 have hB : ∀ q ∈ (F.more (w.heap.size :: D)).b, q.1 ≠ w.heap.size + 1 := fun q hq => hfr2 q (hm1.frame q hq)
 have hD2 : DOk F (w.heap.size :: D) := by
  refine ⟨List.nodup_cons.2 ⟨fun hb => ?_, hD.nodup⟩, fun b hb q hq => ?_⟩
  · exact hfr _ (hm.frame (w.heap.size, shutO) (List.mem_append_left _ (List.mem_map.2 ⟨_, hb, rfl⟩))) rfl
  · rcases List.mem_cons.1 hb with rfl | hb
    · exact hfr q (hm.frame q (List.mem_append_right _ hq))
    · exact hD.apart b hb q hq
 have hrd : zU P G σ (F.more (w.heap.size :: D)) (w.heap.size + 1) rc (roundE P E n s0 p assign body) := adb (G := G) (F := F.more (w.heap.size :: D)) kb hE hs he0 (l := w.heap.size + 1) (p := p) (rc := rc) (assign := assign) (body := body) (by simpa using hp) hB rfl rfl rfl rfl rfl
 obtain ⟨f, Cap, rfl, hbody, hsp⟩ := hZ (G := G) hz rfl hrd h2 hm2
 have hres : (resolve (qh (D.map qU) a0).eval (rangeCall g (w.heap.size + 1)) 0).run P ((w.alloc shutO).alloc (.loop rc)) = .ok ⟨.fn (.func f) Cap, #[.func (.yield (w.heap.size + 1)) #[] #[]]⟩ ((w.alloc shutO).alloc (.loop rc)) := by
  have hev' : (qh (D.map qU) a0).eval g = .func (.func f) #[] Cap := hev
  have hc : ∀ v, (qh (D.map qU) a0).eval (.const v) = v := fun _ => rfl
  simp [resolve, hev', hc, Deferred.ofValue]
 have hinv : (invoke (.fn (.func f) Cap) #[.func (.yield (w.heap.size + 1)) #[] #[]]).run P ((w.alloc shutO).alloc (.loop rc)) = .ok (.enter f (#[.func (.yield (w.heap.size + 1)) #[] #[]] ++ Cap)) ((w.alloc shutO).alloc (.loop rc)) := by
  rw [show invoke (.fn (.func f) Cap) #[.func (.yield (w.heap.size + 1)) #[] #[]] = callFunc f (#[.func (.yield (w.heap.size + 1)) #[] #[]] ++ Cap) from by simp [invoke]]
  exact kH hbody ..
 refine ⟨w.heap.size + 1, [qU w.heap.size], _, _, _, f, _, _, run_enterLoop_outer fn a0.tmps #[p] assign body, hres, fun _ _ => trivial, hinv, (fun h => by cases h), ?_⟩
 refine callsIn_wide.2 (Calls.mono (hsp.out _ hw2) fun e' w' hh => ?_)
 obtain ⟨u, M, rfl, ⟨σ2, k1, k2⟩, k3⟩ := hh
 have hmem := k2.frame _ (List.mem_cons_self ..)
 obtain ⟨R, q1, q2, q3⟩ := yV k3 hmem
 have hnb : (kr rc j).state ≠ .busy := by cases j <;> simp [kr, rc]
 refine ⟨_, _, run_endLoop (k3.get _ hmem) hnb, ?_⟩
 have hx : ∀ x, leftE s0 (j, m1) = some ⟨x, s0, m1⟩ → r = ⟨x, s0, m1⟩ → Q x { qh (D.map qU) a0 with defers := [qU w.heap.size] ++ (qh (D.map qU) a0).defers } (w'.putObj (w.heap.size + 1) (.loop { kr rc j with state := .exhausted })) := fun x _ hr => by
  subst hr
  refine (hQ σ2 ρ R (w.heap.size :: D) k1 (hs.mono k1) (k2.cut q1 hB) hD2).out _ _ ⟨a0, he0, ?_⟩ (q2 _).tail
  unfold qh
  rw [he0.defers]
  rfl
 cases j with
 | none =>
   have e' : some (⟨.normal, s0, m1⟩ : R3) = some r := e
   cases e'
   exact hx .normal rfl rfl
 | some x =>
   cases x with
   | ret =>
     have e' : some (⟨.ret, s0, m1⟩ : R3) = some r := e
     cases e'
     exact wpIn_ret (hx .ret rfl rfl)
   | exit id =>
     have e' : some (⟨.exit id, s0, m1⟩ : R3) = some r := e
     cases e'
     exact wpIn_exit (hx (.exit id) rfl rfl)
   | _ => cases e
theorem adc (kb : P.follows .mixedOrders = true) (hE : jV P E) (hZ : Kg P Z) : ∀ c : Code, aat P G F n (codeD P E Z n c) c := by
 intro c
 induction c with
 | skip =>
   intro s m r σ ρ L D Q e hs hm hD hQ
   cases e
   exact ⟨fun a w he hw => wp_skip ((hQ σ ρ L D σ.le_refl hs hm hD).out a w he hw)⟩
 | region id ops draw =>
   intro s m r σ ρ L D Q e hs hm hD hQ
   have e : Fr.flushK s (fun thr t => bo (Nat.ble thr 1000000) (ob (Bool.rec (listE P E ops n ops.toList (.base thr t) m) (drawE P E ops n (.base thr t) m) draw) fun r => some ⟨.normal, r.1, r.2⟩)) = some r := e
   rw [Fr.flushK_eq] at e
   obtain ⟨ht, e⟩ := je e
   obtain ⟨⟨s1, m1⟩, e1, e⟩ := jd e
   cases e
   have hs := hs.flush (Nat.le_of_ble_eq_true ht)
   refine ⟨fun a w he hw => ?_⟩
   obtain ⟨a0, he0, rfl⟩ := he.ex
   cases draw with
   | true => exact wp_region_any kb (uv (fun e a w h => h) _ ((VF hE e1 hs hm fun σ' ρ' L' h1 h2 h3 => (hQ σ' ρ' L' D h1 h2 h3 hD).lift).sound _ _ _ _ a0 _ he0 (hw.same ⟨rfl, rfl, rfl, Nat.le_refl _⟩ rfl)))
   | false =>
     obtain ⟨l⟩ := ops
     exact wp_region_lit (qT (fun e a w h => h) l a0 w ((qk hE l e1 hs hm fun σ' ρ' L' h1 h2 h3 => (hQ σ' ρ' L' D h1 h2 h3 hD).lift).out a0 w he0 hw))
 | seq a b iha ihb =>
   intro s m r σ ρ L D Q e hs hm hD hQ
   obtain ⟨⟨x, s1, m1⟩, e1, e⟩ := jd (show ob (codeD P E Z n a s m) (fun r => Exit.rec (codeD P E Z n b r.s r.m) (fun _ => some r) (fun _ => some r) (some r) (fun _ => some r) (some r) r.x) = some r from e)
   refine ⟨fun A w he hw => wp_seq ((iha (Q := Exit.then (b.wp P Q) Q) e1 hs hm hD fun σ' ρ' L' D' h1 h2 h3 h4 => ?_).out A w he hw)⟩
   cases x with
   | normal => exact ⟨fun A w he hw => (ihb e h2 h3 h4 fun σ'' ρ'' L'' D'' q1 q2 q3 q4 => hQ σ'' ρ'' L'' D'' (Sg.le_trans h1 q1) q2 q3 q4).out A w he hw⟩
   | _ => cases e; exact abx (by simp) (hQ σ' ρ' L' D' h1 h2 h3 h4)
 | cond c a b iha ihb =>
   intro s m r σ ρ L D Q e hs hm hD hQ
   obtain ⟨v, e1, e⟩ := jd (show ob (opd s c) (fun v => v.asBool fun b' => Bool.rec (codeD P E Z n b s m) (codeD P E Z n a s m) b') = some r from e)
   obtain ⟨t, rfl, e'⟩ := qQ e
   obtain ⟨V, h1, h2⟩ := ju hs e1
   obtain rfl : V = .bool t := by simpa [Den] using h2
   refine ⟨fun A w he hw => ?_⟩
   obtain ⟨a0, he0, ha⟩ := he.ex
   have hc : A.eval c = .bool t := by rw [ha]; exact he0.reads c _ h1
   cases t with
   | true => exact wp_cond_true hc ((iha e' hs hm hD hQ).out A w he hw)
   | false => exact wp_cond_false hc ((ihb e' hs hm hD hQ).out A w he hw)
 | block id c ih =>
   intro s m r σ ρ L D Q e hs hm hD hQ
   obtain ⟨⟨x, s1, m1⟩, e1, e⟩ := jd (show ob (codeD P E Z n c s m) (fun r => Exit.rec (some r) (fun j => Bool.rec (some r) (some ⟨.normal, r.s, r.m⟩) (Nat.beq j id)) (fun _ => some r) (some r) (fun _ => some r) (some r) r.x) = some r from e)
   refine ⟨fun A w he hw => wp_block ((ih (Q := Exit.inBlock id Q) e1 hs hm hD fun σ' ρ' L' D' h1 h2 h3 h4 => ?_).out A w he hw)⟩
   cases x with
   | exit j =>
     have e : (Bool.rec (some ⟨.exit j, s1, m1⟩) (some ⟨.normal, s1, m1⟩) (Nat.beq j id) : Option R3) = some r := e
     by_cases c : j = id
     · rw [bqT c] at e
       cases e
       subst c
       refine ⟨fun a w he hw => ?_⟩
       simp only [Exit.inBlock, if_true]
       exact (hQ σ' ρ' L' D' h1 h2 h3 h4).out a w he hw
     · rw [bqF c] at e
       cases e
       exact QK (fun i hi => by cases hi; exact c) (hQ σ' ρ' L' D' h1 h2 h3 h4)
   | _ => cases e; exact QK (by simp) (hQ σ' ρ' L' D' h1 h2 h3 h4)
 | rangeFunc f ps a b iha ihb => exact abz kb hE hZ
 | exit id =>
   intro s m r σ ρ L D Q e hs hm hD hQ
   cases e
   exact ⟨fun a w he hw => wp_exit ((hQ σ ρ L D σ.le_refl hs hm hD).out a w he hw)⟩
 | ret =>
   intro s m r σ ρ L D Q e hs hm hD hQ
   cases e
   exact ⟨fun a w he hw => wp_ret ((hQ σ ρ L D σ.le_refl hs hm hD).out a w he hw)⟩
 | _ =>
   intro s m r σ ρ L D Q e hs hm hD hQ
   cases e
theorem zV {fn : Func} {tmps : Array Value} {Φ : Ending → World → Prop} {σ : Sg} {m : Mem} (fin : ∀ (L : ja) (w : World), MemR σ m F L → Heap G w L → LeavesIn Fence.wide 0 P fn tmps Φ [] .returning w) : ∀ (D : List Nat) {L : ja} {w : World}, DOk F D → MemR σ m (F.more D) L → Heap G w L → LeavesInM Fence.wide 0 P fn tmps Φ (D.map qU) .returning w
 | [], L, w, hD, hm, hw => fin L w hm hw
 | b :: D, L, w, hD, hm, hw => by
   have hmem : (b, shutO) ∈ L := hm.frame _ (List.mem_cons_self ..)
   obtain ⟨R, q1, q2, q3⟩ := yV hw hmem
   obtain ⟨h1, h2⟩ := List.nodup_cons.1 hD.nodup
   refine ⟨by simp, Or.inl ⟨b, _, rfl, run_takeDeferred (hw.get _ hmem), zV fin D ⟨h2, fun b' hb' => hD.apart b' (List.mem_cons_of_mem _ hb')⟩ (hm.cut q1 fun q hq => ?_) (q2 _).tail⟩⟩
   rcases List.mem_append.1 hq with hq | hq
   · obtain ⟨b', hb', rfl⟩ := List.mem_map.1 hq
     exact fun hh => h1 (by have hh : b' = b := hh; rw [← hh]; exact hb')
   · exact hD.apart b (List.mem_cons_self ..) q hq
end
noncomputable def markF (P : Program) (H : Nat → Nat) (Z : jU → VG) (i : Nat) (E : jU) (args : List AV) (m : Mem) : Option (AV × Mem) := stepC P H (fun n c => codeD P E (Z E) n c) i args m
theorem ade {P : Program} {H : Nat → Nat} {Z : jU → VG} {E : jU} (kb : P.follows .mixedOrders = true) (hE : jV P E) (hZ : Kg P (Z E)) {G : World} {i : Nat} {args : List AV} {m : Mem} {v : AV} {m' : Mem} {σ : Sg} {As : List Value} {F : Fm} {L : ja} (e : markF P H Z i E args m = some (v, m')) (hA : DenL σ args As) (hm : MemR σ m F L) : Spec P G i As.toArray L (kB σ v m' F) := by
 obtain ⟨fn, hf, e⟩ := jd e
 obtain ⟨c, hb, e⟩ := jd e
 obtain ⟨hn, e⟩ := je e
 obtain ⟨⟨x, s1, m1⟩, e1, e⟩ := jd e
 obtain ⟨ρ', q1, q2⟩ := yU (k := 0) (s := Fr.base (H i) .leaf) (ρ := []) hA (SlR.leaf hm.glb) (fun t _ => rfl)
 have hlen : As.length ≤ fn.ntmps := by rw [hA.length, ← jP]; exact Nat.le_of_ble_eq_true hn
 have he0 : Env fn.ntmps ρ' { tmps := As.toArray ++ Array.replicate (fn.ntmps - As.toArray.size) undef, defers := [] } := (QJ hlen).weak fun t u h => by
  rcases q2 t u h with h | h
  · exact h
  · cases h
 refine ⟨fun w hw => (callsIn_wide (n := 0)).1 (callsIn_of_wp_marks hf hb trivial (wpIn_wide.2 ?_))⟩
 refine (adc (F := F) (D := []) kb hE hZ c e1 q1 hm ⟨List.nodup_nil, fun b hb => by cases hb⟩ fun σ' ρ'' L' D' h1 h2 h3 h4 => ?_).out _ w ⟨_, he0, rfl⟩ hw
 have fin : ∀ vs, resE P s1 m1 fn.results.toList = some vs → some (QE vs, m1) = some (v, m') → ∀ a w, EnvD fn.ntmps ρ'' D' a → Heap G w L' → LeavesInM Fence.wide 0 P fn a.tmps (jN G (kB σ v m' F)) a.defers .returning w := fun vs hv he a w hea hw => by
  cases he
  obtain ⟨a0, he0, rfl⟩ := hea.ex
  have hd : (qh (D'.map qU) a0).defers = D'.map qU := by
   unfold qh
   rw [he0.defers]
   rfl
  rw [hd]
  refine zV (fun L2 w2 k1 k2 => ?_) D' h4 h3 hw
  obtain ⟨V, c1, c2⟩ := yy (P := P) h2 k1 he0 hv
  exact ⟨V, c2 w2 k2.has, V, L2, rfl, ⟨σ', h1, c1, k1⟩, k2⟩
 cases x with
 | normal =>
   obtain ⟨vs, hv, e⟩ := jd e
   exact ⟨fun a w he hw => fin vs hv e a w he hw⟩
 | ret =>
   obtain ⟨vs, hv, e⟩ := jd e
   exact ⟨fun a w he hw => fin vs hv e a w he hw⟩
 | _ => cases e
end Go.Proofs.YtgjlbilcnlffgaaGreatDoor.Ev
namespace Go.Proofs.YtgjlbilcnlffgaaGreatDoor.Ev
open Go
set_option maxRecDepth 100000
structure TLI (P : Program) (G : World) (ops : Array Oper) (n : Nat) (ρ : jh) (L : ja) (l : List Oper) (Q : Exit → Act → World → Prop) : Prop where
 out : ∀ a w, Env n ρ a → Heap G w L → wpListIn Fence.wide 0 P ops Q l a w
section
variable {P : Program} {G : World} {n : Nat} {ρ : jh} {L : ja} {ops : Array Oper} {Q : Exit → Act → World → Prop}
theorem Kh {id : Nat} {l : List Oper} (h : TLI P G l.toArray n ρ L l Q) : T P G n ρ L (.region id l.toArray false) Q := ⟨fun a w he hw => wpIn_wide.1 (wpIn_region_lit (h.out a w he hw))⟩
theorem VH (h : TQ G n ρ L .normal Q) : TLI P G ops n ρ L [] Q := ⟨fun a w he hw => wpListIn_nil (h.out a w he hw)⟩
theorem uQ {d : Nat} {op : Op} {ty : TypeId} {pos : String} {after : Array Edge} {rest : List Oper} {v : Value} (h : OpQ P ρ L op ty v) (hp : ∀ c, op ≠ .defer c) (hd : Nat.blt d n = true) (hr : TLI P G ops n ((d, v) :: ρ) L rest Q) : TLI P G ops n ρ L (⟨some d, op, ty, pos, after, none⟩ :: rest) Q :=
 ⟨fun a w he hw => wpListIn_plain rfl fun K hK => wide_wide.oper (by
   unfold kU
   cases op <;> first | rfl | exact absurd rfl (hp _)) (OpT.wp (o := ⟨some d, op, ty, pos, after, none⟩) (Φ := fun u M => u = v ∧ M = L) h.v he hw fun u L' w' h1 h2 => by
    obtain ⟨rfl, rfl⟩ := h1
    exact hK _ _ (hr.out _ _ (he.put d (by simpa using hd) u) h2))⟩
theorem Ki {d t l : Nat} {x : Operand} {ats : Array TypeId} {ty : TypeId} {pos : String} {after : Array Edge} {rest : List Oper} {V : Value} {rc : Loop} {Φ : Value → ja → Prop} (ht : ρ.lookup t = some (.func (.yield l) #[] #[])) (hx : ev ρ x = some V) (hl : (l, Obj.loop rc) ∈ L) (hs : rc.params.size = 1) (hd : Nat.blt d n = true)
 (h : ∀ w, Heap G w L → RoundIn Fence.wide 0 P l rc.fn ((rc.params.zip #[V]).foldl (fun tmps (t, a) => tmps.setIfInBounds t a) rc.tmps) rc.assign rc.body w (jN G Φ))
 (hr : ∀ v L', Φ v L' → TLI P G ops n ((d, v) :: ρ) L' rest Q) : TLI P G ops n ρ L (⟨some d, .call ⟨.value (.tmp t), #[x], ats⟩, ty, pos, after, none⟩ :: rest) Q :=
 ⟨fun a w he hw => wpListIn_plain rfl fun K hK => by
   refine ⟨fun _ _ => trivial, ?_⟩
   have hft : a.eval (.tmp t) = .func (.yield l) #[] #[] := he.reads _ _ ht
   have hfx := he.reads _ _ hx
   have hrun : ((⟨some d, .call ⟨.value (.tmp t), #[x], ats⟩, ty, pos, after, none⟩ : Oper).semAt Fence.wide.round a.eval).run P w = .ok (.round l rc.fn ((rc.params.zip #[V]).foldl (fun tmps (t, a) => tmps.setIfInBounds t a) rc.tmps) rc.assign rc.body) w := by
    rw [← run_yield (P := P) (args := #[V]) (hw.get _ hl) (by rw [hs]; rfl)]
    show (execOp a.eval (⟨some d, .call ⟨.value (.tmp t), #[x], ats⟩, ty, pos, after, none⟩ : Oper)).run P w = _
    simp [execOp, resolve, hft, hfx, Deferred.ofValue, invoke]
   rw [hrun, Oper.uponIn_round]
   refine ⟨fun h => (by cases h), (h w hw).mono fun e w' hh => ?_⟩
   obtain ⟨v, L', rfl, h1, h2⟩ := hh
   exact hK _ _ ((hr v L' h1).out _ _ (he.put d (by simpa using hd) v) h2)⟩
end
noncomputable def strK {β : Type} (v : AV) (f : List Nat → Option β) : Option β := match v with
 | .str l => f l
 | _ => none
theorem abA {β : Type} {v : AV} {f : List Nat → Option β} {r : β} (h : strK v f = some r) : ∃ l, v = .str l ∧ f l = some r := by
 unfold strK at h
 split at h
 · exact ⟨_, rfl, h⟩
 · cases h
noncomputable def cutK {β : Type} (v : AV) (f : List Nat → Bool → Option β) : Option β := match v with
 | .tup [.str t, .str _, .bool b] => f t b
 | _ => none
theorem abB {β : Type} {v : AV} {f : List Nat → Bool → Option β} {r : β} (h : cutK v f = some r) : ∃ t u b, v = .tup [.str t, .str u, .bool b] ∧ f t b = some r := by
 unfold cutK at h
 split at h
 · exact ⟨_, _, _, rfl, h⟩
 · cases h
noncomputable def linesE (P : Program) (E : jU) (cut ts i o : Nat) (R : Rnd) (k : Nat) : Nat → Mem → Option (Option Exit × Mem) := Nat.rec (fun _ _ => none) (fun _ ih at_ m => ob (ldA P m ts i o) fun v => strK v fun l => bo (Nat.ble (lenN l) 1000000)
 (Bool.rec (some (none, m)) (ob (E cut [.str (drop l at_), .str [10]] m) fun r => cutK r.1 fun text b => ob (R (.agg [.int .i64 (Int.ofNat at_), .str text, .bool b]) r.2) fun q => Option.rec (bo (Nat.ble (lenN text) 1000000) (ih (at_ + (lenN text + 1)) q.2)) (fun x => some (some x, q.2)) q.1) (Nat.blt at_ (lenN l)))) k
noncomputable def linesZ (P : Program) (E : jU) (fl cut ts k : Nat) : VG := fun R v m => match v with
 | .fn f [.ptr i o] => bo (Nat.beq f fl) (linesE P E cut ts i o R k 0 m)
 | _ => none
section
variable {P : Program} {G : World} {n : Nat} {Q : Exit → Act → World → Prop} {F : Fm} {E : jU}
theorem zW {i1 i2 i3 i4 b0 b1 ts ti tr cut : Nat} (hu : P.underlying ts = some .string) (hcut : jX P cut = true)
 (hbuild : ∀ (x : Int) (s : ByteArray) (b : Bool), Built P tr [(0, .int .i64 x), (1, .string s), (2, .bool b)] (.agg #[.int .i64 x, .string s, .bool b]))
 {p1 p2 p3 p4 p5 p6 p7 p8 p9 p10 p11 p12 p13 p14 p15 p16 p17 p18 p19 p20 p21 p22 p23 p24 p25 p26 p27 p28 : String} {a1 a2 a3 a4 a5 a6 a7 a8 a9 a10 a11 a12 a13 a14 a15 a16 a17 a18 a19 a20 a21 a22 a23 a24 a25 a26 a27 a28 : Array Edge} {y1 y2 y3 y4 y5 y6 y7 y8 y9 y10 y11 y12 y13 y14 y15 y16 y17 y18 y19 y20 y21 y22 y23 y24 y25 y26 y27 y28 u1 u2 u3 u4 u5 : Nat} {ats1 ats2 : Array TypeId}
 (hE : jV P E) {σ0 : Sg} {l : Nat} {rc : Loop} {R : Rnd} (hrd : zU P G σ0 F l rc R) (hps : rc.params.size = 1) {i o : Nat} {y : Nat × Nat} {j : Option Exit} {m' : Mem}
 (hQ : ∀ (x : Exit) (ρ : jh) (M : ja), x = .exit b0 ∨ x = .ret → (∃ σ2, σ0.le σ2 ∧ MemR σ2 m' ⟨(l, .loop (kr rc j)) :: F.b, F.z, F.d⟩ M) → TQ G 31 ρ M x Q) :
 ∀ (k at_ : Nat) {m : Mem} {σ : Sg} {ρ : jh} {L : ja}, linesE P E cut ts i o R k at_ m = some (j, m') → σ0.le σ → σ i = some y → MemR σ m ⟨(l, .loop rc) :: F.b, F.z, F.d⟩ L →
  ρ.lookup 0 = some (.func (.yield l) #[] #[]) → ρ.lookup 1 = some (.pointer (some ⟨y.1, o, none⟩)) → ρ.lookup 3 = some (.int .i64 (Int.ofNat at_)) → ∀ a w, Env 31 ρ a → Heap G w L →
  Code.rounds P (.seq (.seq (.region i1 #[⟨some 7, .move (.tmp 3), y1, p1, a1, none⟩, ⟨some 8, .load ts (.tmp 1), y2, p2, a2, none⟩, ⟨some 9, .call ⟨.builtin .len, #[.tmp 8], #[ts]⟩, y3, p3, a3, none⟩, ⟨some 10, .binOp .lss u1 (.tmp 7) (.tmp 9) u2, y4, p4, a4, none⟩] false) (.cond (.tmp 10) .skip (.exit b0)))
   (.block b1 (.seq (.region i2 #[⟨some 12, .load ts (.tmp 1), y5, p5, a5, none⟩, ⟨some 13, .move (.tmp 3), y6, p6, a6, none⟩, ⟨some 14, .slice ts (.tmp 12) (some (.tmp 13)) none none, y7, p7, a7, none⟩, ⟨some 15, .call ⟨.value (.func cut), #[.tmp 14, .const (.string (bsN [10]))], ats1⟩, y8, p8, a8, none⟩, ⟨some 11, .move (.tmp 15), y9, p9, a9, none⟩, ⟨some 16, .extract (.tmp 11) 0, y10, p10, a10, none⟩, ⟨some 17, .extract (.tmp 11) 1, y11, p11, a11, none⟩, ⟨some 18, .extract (.tmp 11) 2, y12, p12, a12, none⟩, ⟨some 4, .assign (.tmp 16), y13, p13, a13, none⟩, ⟨some 5, .assign (.tmp 17), y14, p14, a14, none⟩, ⟨some 6, .assign (.tmp 18), y15, p15, a15, none⟩] false)
     (.seq (.seq (.region i3 #[⟨some 19, .move (.tmp 0), y16, p16, a16, none⟩, ⟨some 20, .move (.tmp 3), y17, p17, a17, none⟩, ⟨some 21, .move (.tmp 4), y18, p18, a18, none⟩, ⟨some 22, .move (.tmp 6), y19, p19, a19, none⟩, ⟨some 23, .build tr #[(0, .tmp 20), (1, .tmp 21), (2, .tmp 22)], y20, p20, a20, none⟩, ⟨some 24, .call ⟨.value (.tmp 19), #[.tmp 23], ats2⟩, y21, p21, a21, none⟩, ⟨some 25, .unOp .not u3 (.tmp 24), y22, p22, a22, none⟩] false) (.cond (.tmp 25) .ret .skip))
       (.region i4 #[⟨some 26, .move (.tmp 3), y23, p23, a23, none⟩, ⟨some 27, .move (.tmp 4), y24, p24, a24, none⟩, ⟨some 28, .call ⟨.builtin .len, #[.tmp 27], #[ts]⟩, y25, p25, a25, none⟩, ⟨some 29, .binOp .add ti (.tmp 28) (.const (.int .i64 1)) u4, y26, p26, a26, none⟩, ⟨some 30, .binOp .add ti (.tmp 26) (.tmp 29) u5, y27, p27, a27, none⟩, ⟨some 3, .assign (.tmp 30), y28, p28, a28, none⟩] false))))) Q k a w
 | 0, at_, m, σ, ρ, L, e, _, _, _, _, _, _ => by cases e
 | k + 1, at_, m, σ, ρ, L, e, hle, hi, hm, r0, r1, r3 => by
   intro a w he hw
   rw [rounds_succ]
   refine (show T P G 31 ρ L _ _ from ?_).out a w he hw
   clear he hw a w
   obtain ⟨v, e1, e⟩ := jd (show ob (ldA P m ts i o) (fun v => strK v fun l => bo (Nat.ble (lenN l) 1000000)
    (Bool.rec (some (none, m)) (ob (E cut [.str (drop l at_), .str [10]] m) fun r => cutK r.1 fun text b => ob (R (.agg [.int .i64 (Int.ofNat at_), .str text, .bool b]) r.2) fun q => Option.rec (bo (Nat.ble (lenN text) 1000000) (linesE P E cut ts i o R k (at_ + (lenN text + 1)) q.2)) (fun x => some (some x, q.2)) q.1) (Nat.blt at_ (lenN l)) : Option (Option Exit × Mem))) = some (j, m') from e)
   obtain ⟨S, rfl, e⟩ := abA e
   obtain ⟨hsz, e⟩ := je e
   have hsz : S.length ≤ 1000000 := by rw [← jP]; exact Nat.le_of_ble_eq_true hsz
   obtain ⟨V1, o1, d1⟩ := K9 (P := P) (ρ := (7, Value.int .i64 (Int.ofNat at_)) :: ρ) (ty := y2) (x := .tmp 1) hm.get r1 hi e1
   simp only [Den] at d1
   obtain ⟨hS, rfl⟩ := d1
   refine jH (jH (jL (jm (j0 r3) rfl (jm o1 rfl (jm (uW (s := S.map UInt8.ofNat) rfl hu) rfl (jm (qp (a := .int .i64 (Int.ofNat at_)) (b := .int .i64 (S.map UInt8.ofNat).length) rfl rfl K4) rfl (kP (jR ?_))))))))
   rw [List.length_map]
   cases hlt : Nat.blt at_ (lenN S) with
   | false =>
     rw [hlt] at e
     have e : some (none, m) = some (j, m') := e
     cases e
     have hd : decide (Int.ofNat at_ < (S.length : Int)) = false := by
      have : ¬ at_ < S.length := fun h => by
       rw [← jP] at h
       rw [Eq.mpr Nat.blt_eq h] at hlt
       cases hlt
      simpa using this
     rw [hd]
     exact yH rfl (ym (kg (kg (hQ _ _ _ (Or.inl rfl) ⟨σ, hle, hm⟩))))
   | true =>
     rw [hlt] at e
     obtain ⟨⟨cv, m1⟩, e2, e⟩ := jd (show ob (E cut [.str (drop S at_), .str [10]] m) (fun r => cutK r.1 fun text b => ob (R (.agg [.int .i64 (Int.ofNat at_), .str text, .bool b]) r.2) fun q => Option.rec (bo (Nat.ble (lenN text) 1000000) (linesE P E cut ts i o R k (at_ + (lenN text + 1)) q.2)) (fun x => some (some x, q.2)) q.1) = some (j, m') from e)
     obtain ⟨text, tail, b, rfl, e⟩ := abB e
     obtain ⟨⟨q, m2⟩, e3, e⟩ := jd e
     have hat : at_ < S.length := by rw [← jP]; exact Eq.mp Nat.blt_eq hlt
     have hd : decide (Int.ofNat at_ < (S.length : Int)) = true := by simpa using hat
     rw [hd]
     refine J5 rfl (uH (jR (qK ?_)))
     have hslice : bs ((S.map UInt8.ofNat).drop (Int.ofNat at_).toNat) = bsN (drop S at_) := by
      rw [qO]
      unfold bsN
      rw [List.map_drop]
      rfl
     have hA : DenL σ [.str (drop S at_), .str [10]] [.string (bsN (drop S at_)), .string (bsN [10])] := by
      refine .cons ?_ (.cons ?_ .nil)
      · simp only [Den]
        exact ⟨fun b hb => hS b (by rw [qO] at hb; exact List.mem_of_mem_drop hb), trivial⟩
      · simp [Den]
     have hsp := hE (G := G) e2 hA hm
     have hlen : (S.map UInt8.ofNat).length = S.length := List.length_map ..
     obtain ⟨V2, o2, d2⟩ := K9 (P := P) (ρ := (10, Value.bool true) :: (9, Value.int .i64 S.length) :: (8, Value.string (bsN S)) :: (7, Value.int .i64 (Int.ofNat at_)) :: ρ) (ty := y5) (x := .tmp 1) hm.get r1 hi e1
     simp only [Den] at d2
     obtain ⟨_, rfl⟩ := d2
     refine jH (jL (jm o2 rfl (jm (j0 r3) rfl (jm (zk (s := S.map UInt8.ofNat) (k := .i64) (i := Int.ofNat at_) rfl rfl hu (by simp) (by rw [hlen]; exact Int.ofNat_le.2 (Nat.le_of_lt hat))) rfl (jT (jc hcut (vs := [.string (bsN (drop S at_)), .string (bsN [10])]) (by rw [hslice]; rfl) hsp) rfl ?_)))))
     rintro V M1 ⟨σ1, k1, k2, k3⟩
     simp only [Den] at k2
     obtain ⟨Vs, hVs, rfl⟩ := k2
     obtain ⟨A, _, rfl, c1, hVs⟩ := hVs.inv
     obtain ⟨B, _, rfl, c2, hVs⟩ := hVs.inv
     obtain ⟨C, _, rfl, c3, hVs⟩ := hVs.inv
     obtain rfl := hVs.inv0
     simp only [Den] at c1 c2 c3
     obtain ⟨hT, rfl⟩ := c1
     obtain ⟨_, rfl⟩ := c2
     subst c3
     refine jm (j0 rfl) rfl (jm (kG (i := 0) (v := .string (bsN text)) rfl rfl) rfl (jm (kG (i := 1) (v := .string (bsN tail)) rfl rfl) rfl (jm (kG (i := 2) (v := .bool b) rfl rfl) rfl (jm (kx rfl) rfl (jm (kx rfl) rfl (jm (kx rfl) rfl (kP (jR ?_))))))))
     have hv : Den σ1 (.agg [.int .i64 (Int.ofNat at_), .str text, .bool b]) (.agg #[.int .i64 (Int.ofNat at_), .string (bsN text), .bool b]) := by
      simp only [Den]
      refine ⟨[.int .i64 (Int.ofNat at_), .string (bsN text), .bool b], .cons (by simp [Den]) (.cons ?_ (.cons (by simp [Den]) .nil)), rfl⟩
      simp only [Den]
      exact ⟨hT, trivial⟩
     have hle1 := Sg.le_trans hle k1
     refine jH (jH (Kh (uQ (j0 (v := .func (.yield l) #[] #[]) r0) (by simp) rfl (uQ (j0 (v := .int .i64 (Int.ofNat at_)) r3) (by simp) rfl (uQ (j0 (v := .string (bsN text)) rfl) (by simp) rfl (uQ (j0 (v := .bool b) rfl) (by simp) rfl (uQ (jb (ps := [(0, .tmp 20), (1, .tmp 21), (2, .tmp 22)]) rfl (hbuild _ _ _)) (by simp) rfl (Ki (l := l) (rc := rc) rfl rfl (k3.frame _ (List.mem_cons_self ..)) hps rfl (hrd e3 hle1 hv k3) ?_))))))))
     rintro u M2 ⟨rfl, σ2, g1, g2⟩
     have hle2 := Sg.le_trans hle1 g1
     refine uQ (Vf (b := q.isNone) rfl) (by simp) rfl (VH (jR ?_))
     cases q with
     | some x =>
       have e : some (some x, m2) = some (j, m') := e
       cases e
       exact J5 rfl (Kw (ks (jW (ks (hQ _ _ _ (Or.inr rfl) ⟨σ2, hle2, g2⟩)))))
     | none =>
       obtain ⟨hts, e⟩ := je (show bo (Nat.ble (lenN text) 1000000) (linesE P E cut ts i o R k (at_ + (lenN text + 1)) m2) = some (j, m') from e)
       have hts : text.length ≤ 1000000 := by rw [← jP]; exact Nat.le_of_ble_eq_true hts
       refine yH rfl (uH (jR ?_))
       refine jL (jm (j0 (v := .int .i64 (Int.ofNat at_)) r3) rfl (jm (j0 (v := .string (bsN text)) rfl) rfl (jm (uW (s := text.map UInt8.ofNat) rfl hu) rfl (jm (qp (a := .int .i64 (text.map UInt8.ofNat).length) (b := .int .i64 1) rfl rfl (K0 ?_)) rfl (jm (qp (a := .int .i64 (Int.ofNat at_)) (b := .int .i64 ((text.map UInt8.ofNat).length + 1)) rfl rfl (K0 ?_)) rfl (jm (kx rfl) rfl (kP ?_)))))))
       · rw [List.length_map]
         constructor <;> omega
       · rw [List.length_map]
         have : Int.ofNat at_ = (at_ : Int) := rfl
         rw [this]
         constructor <;> omega
       · refine qw ⟨fun a w he hw => zW hu hcut hbuild hE hrd hps hQ k (at_ + (lenN text + 1)) e hle2 (g1 _ _ (k1 _ _ hi)) g2 (by exact r0) (by exact r1) ?_ a w he hw⟩
         show some (Value.int .i64 (Int.ofNat at_ + (((text.map UInt8.ofNat).length : Int) + 1))) = _
         rw [jP, List.length_map]
         rfl
theorem abC (hE : jV P E) {fl cut ts k i0 b0 y0 : Nat} {p0 : String} {a0 : Array Edge} {fn : Func} {body : Code} (hf : P.funcs[fl]? = some fn) (hbf : jX P fl = true) (hb : fn.body = some (.seq (.region i0 #[⟨some 3, .assign (.const (.int .i64 0)), y0, p0, a0, none⟩] false) (.block b0 (.loop body)))) (hn : fn.ntmps = 31) (hres : fn.results = #[])
 (hround : ∀ {G : World} {F : Fm} {Q : Exit → Act → World → Prop} {σ0 : Sg} {l : Nat} {rc : Loop} {R : Rnd} {i o : Nat} {y : Nat × Nat} {j : Option Exit} {m' : Mem}, zU P G σ0 F l rc R → rc.params.size = 1 →
   (∀ (x : Exit) (ρ : jh) (M : ja), x = .exit b0 ∨ x = .ret → (∃ σ2, σ0.le σ2 ∧ MemR σ2 m' ⟨(l, .loop (kr rc j)) :: F.b, F.z, F.d⟩ M) → TQ G 31 ρ M x Q) →
   ∀ (k at_ : Nat) {m : Mem} {σ : Sg} {ρ : jh} {L : ja}, linesE P E cut ts i o R k at_ m = some (j, m') → σ0.le σ → σ i = some y → MemR σ m ⟨(l, .loop rc) :: F.b, F.z, F.d⟩ L →
    ρ.lookup 0 = some (.func (.yield l) #[] #[]) → ρ.lookup 1 = some (.pointer (some ⟨y.1, o, none⟩)) → ρ.lookup 3 = some (.int .i64 (Int.ofNat at_)) → ∀ a w, Env 31 ρ a → Heap G w L → Code.rounds P body Q k a w) :
 Kg P (linesZ P E fl cut ts k) := by
 intro G σ F l rc R v V j m m' L e hps hrd hv hm
 unfold linesZ at e
 split at e
 · rename_i f i o
   obtain ⟨hfl, e9⟩ := je e
   obtain rfl : f = fl := Nat.eq_of_beq_eq_true hfl
   simp only [Den] at hv
   obtain ⟨Cap, hC, rfl⟩ := hv
   obtain ⟨A, _, rfl, c1, hC⟩ := hC.inv
   obtain rfl := hC.inv0
   simp only [Den] at c1
   obtain ⟨y, hy, rfl⟩ := c1
   refine ⟨f, _, rfl, hbf, ?_⟩
   refine jw (n := 31) hf hb hn (by simp) ?_
   refine Ve [(0, .func (.yield l) #[] #[]), (1, .pointer (some ⟨y.1, o, none⟩))] (fun t v h => by simpa [kY] using h) (fun w hw => hw) ?_
   refine jH (jL (jm (kx rfl) rfl (kP (jR (qK (aap k fun a w he hw => ?_))))))
   refine hround hrd hps (fun x ρ M hx hM => ?_) k 0 e9 σ.le_refl hy hm rfl rfl rfl a w he hw
   obtain ⟨σ2, g1, g2⟩ := hM
   have fin : TQ G 31 ρ M .ret (bodyPost P fn (jN G fun u M => ∃ σ2, σ.le σ2 ∧ MemR σ2 m' ⟨(l, .loop (kr rc j)) :: F.b, F.z, F.d⟩ M)) := ⟨fun a w he hw => ⟨he.defers, .tuple #[], by simp [results, hres], _, M, rfl, ⟨σ2, g1, g2⟩, hw⟩⟩
   rcases hx with rfl | rfl
   · exact j6 (uY fin)
   · exact jW fin
 · cases e
end
end Go.Proofs.YtgjlbilcnlffgaaGreatDoor.Ev
namespace Go.Proofs.YtgjlbilcnlffgaaGreatDoor.Ev
open Go
def isK (k : Int) (e : MapEntry) : Bool := match e.val with
 | .int _ n => decide (n = k)
 | _ => false
structure KI (l : List MapEntry) : Prop where
 key : ∀ e ∈ l, ∃ n, e.key = .int .u16 n
 val : ∀ e ∈ l, ∃ n, e.val = .int .i64 n
 dist : l.Pairwise fun x y => x.key ≠ y.key
theorem KI.sub {l m : List MapEntry} (h : KI l) (s : m.Sublist l) : KI m := ⟨fun e he => h.key e (s.subset he), fun e he => h.val e (s.subset he), h.dist.sublist s⟩
def kz (k : Int) (es : Array MapEntry) (seen : Array Nat) : Array MapEntry := es.filter fun e => !(seen.contains e.born && isK k e)
theorem yW (k : Int) (es : Array MapEntry) (seen : Array Nat) : (kz k es seen).toList.Sublist es.toList := by
 unfold kz
 rw [Array.toList_filter]
 exact List.filter_sublist
theorem QL (k : Int) (es : Array MapEntry) (seen : Array Nat) : leftOf (kz k es seen) seen = leftOf es seen := by
 unfold leftOf kz
 rw [Array.filter_filter]
 congr 1
 funext e
 cases seen.contains e.born <;> simp
theorem KJ (k : Int) (es : Array MapEntry) : kz k es #[] = es := by
 unfold kz
 rw [Array.filter_eq_self]
 intro e he
 simp
theorem abD {k : Int} {es : Array MapEntry} {seen : Array Nat} (h : (leftOf es seen).size = 0) : kz k es seen = es.filter fun e => !isK k e := by
 have h0 : leftOf es seen = #[] := Array.eq_empty_of_size_eq_zero h
 unfold leftOf at h0
 rw [Array.filter_eq_empty_iff] at h0
 unfold kz
 rw [← Array.toList_inj, Array.toList_filter, Array.toList_filter]
 refine List.filter_congr fun e he => ?_
 have := h0 e (by simpa using he)
 have h1 : seen.contains e.born = true := by simpa using this
 rw [h1]
 simp
theorem W6 {l : List MapEntry} (h : (l.map (·.born)).Nodup) {x y : MapEntry} (hx : x ∈ l) (hy : y ∈ l) (e : x.born = y.born) : x = y := by
 induction l with
 | nil => cases hx
 | cons a l ih =>
   rw [List.map_cons, List.nodup_cons] at h
   rcases List.mem_cons.1 hx with h1 | h1
   · rcases List.mem_cons.1 hy with h2 | h2
     · rw [h1, h2]
     · exact absurd (List.mem_map.2 ⟨y, h2, by rw [← e, h1]⟩ : a.born ∈ l.map (·.born)) h.1
   · rcases List.mem_cons.1 hy with h2 | h2
     · exact absurd (List.mem_map.2 ⟨x, h1, by rw [e, h2]⟩ : a.born ∈ l.map (·.born)) h.1
     · exact ih h.2 h1 h2
theorem W7 {k : Int} {es : Array MapEntry} {seen : Array Nat} {e : MapEntry} (hn : (es.toList.map (·.born)).Nodup) (he : e ∈ es.toList) (hk : isK k e = false) : kz k es (seen.push e.born) = kz k es seen := by
 unfold kz
 rw [← Array.toList_inj, Array.toList_filter, Array.toList_filter]
 refine List.filter_congr fun x hx => ?_
 by_cases c : x.born = e.born
 · obtain rfl := W6 hn hx he c
   simp [hk]
 · simp [c]
theorem UI {k : Int} {es : Array MapEntry} {seen : Array Nat} {e : MapEntry} (hn : (es.toList.map (·.born)).Nodup) (he : e ∈ es.toList) (hk : isK k e = true) : kz k es (seen.push e.born) = (kz k es seen).filter fun x => x.born != e.born := by
 unfold kz
 rw [← Array.toList_inj, Array.toList_filter, Array.toList_filter, Array.toList_filter, List.filter_filter]
 refine List.filter_congr fun x hx => ?_
 by_cases c : x.born = e.born
 · obtain rfl := W6 hn hx he c
   simp [hk]
 · simp [c]
theorem yc : ∀ {l : List MapEntry} {j : Nat} {e : MapEntry}, (l.map (·.born)).Nodup → l[j]? = some e → l.eraseIdx j = l.filter fun x => x.born != e.born
 | [], j, e, h, he => by simp at he
 | a :: l, 0, e, h, he => by
   simp at he
   subst he
   rw [List.map_cons, List.nodup_cons] at h
   simp only [List.eraseIdx_zero, List.tail_cons]
   rw [List.filter_cons_of_neg (by simp)]
   refine (List.filter_eq_self.2 fun x hx => ?_).symm
   have : x.born ≠ a.born := fun c => h.1 (List.mem_map.2 ⟨x, hx, c⟩)
   simpa using this
 | a :: l, j + 1, e, h, he => by
   rw [List.map_cons, List.nodup_cons] at h
   have he' : l[j]? = some e := by simpa using he
   have hm : e ∈ l := List.mem_of_getElem? he'
   rw [List.eraseIdx_cons_succ, yc h.2 he', List.filter_cons_of_pos]
   have : a.born ≠ e.born := fun c => h.1 (List.mem_map.2 ⟨e, hm, c.symm⟩)
   simpa using this
section
variable {P : Program} {G : World} {ρ : jh} {L : ja} {F : Fm} {ty : TypeId} {σ : Sg}
theorem abE {d : Nat} {i : Int} {kt : Nat} (hk : P.underlying kt = some (.int .u16)) : keyOk P (d + 1) kt (.int .u16 i) = true := by
 show keyStep P (keyOk P d) kt (.int .u16 i) = true
 unfold keyStep
 rw [hk]
theorem UJ {kt : Nat} (hk : P.underlying kt = some (.int .u16)) : ∀ {l : List MapEntry} {i : Nat} {e : MapEntry}, KI l → e ∈ l → ∃ j, yw P kt e.key l i (some (i + j, e.val)) ∧ l[j]? = some e
 | [], i, e, h, he => by cases he
 | a :: l, i, e, h, he => by
   obtain ⟨x, hx⟩ := h.key e he
   obtain ⟨y, hy⟩ := h.key a (List.mem_cons_self ..)
   have heq : ∀ w, (Op.equal kt e.key a.key).run P w = .ok (x == y) w := fun w => by
    rw [hx, hy]
    exact Qw hk (by simp [Instr.sameNow]) w
   rcases List.mem_cons.1 he with rfl | hm
   · refine ⟨0, Or.inr ⟨fun w => ?_, rfl⟩, rfl⟩
     rw [heq w]
     rw [hx] at hy
     cases hy
     simp
   · have hne : (x == y) = false := by
      have := List.rel_of_pairwise_cons h.dist hm
      rw [hx, hy] at this
      simp only [beq_eq_false_iff_ne, ne_eq]
      intro c
      exact this (by rw [c])
     obtain ⟨j, h1, h2⟩ := UJ hk (i := i + 1) (h.sub (List.sublist_cons_self ..)) hm
     refine ⟨j + 1, Or.inl ⟨fun w => by rw [heq w, hne], ?_⟩, by simpa using h2⟩
     rw [show i + (j + 1) = i + 1 + j by omega]
     exact h1
theorem ae9 {x y : Operand} {b t t2 kt et clock : Nat} {es : Array MapEntry} {e : MapEntry} (hu : P.underlying t = some (.map kt et)) (hk : P.underlying kt = some (.int .u16)) (hx : ev ρ x = some (.map (some b))) (hy : ev ρ y = some e.key) (hE : e ∈ es.toList) (hI : KI es.toList) (hn : (es.toList.map (·.born)).Nodup) :
 OpV P G ρ ((b, .map es clock) :: L) (.call ⟨.builtin .delete, #[x, y], #[t, t2]⟩) ty (.tuple #[]) ((b, .map (es.filter fun z => z.born != e.born) clock) :: L) :=
 yR fun r hr w hb o ho _ => Or.inl <| by
  obtain ⟨n, hkey⟩ := hI.key e hE
  obtain ⟨j, h1, h2⟩ := UJ (P := P) hk (i := 0) hI hE
  have hfind := uP hk h1 w
  have hck := uO (P := P) (σ := fun _ => none) 10000 es.isEmpty (t := kt) (v := .int .u16 n) (V := e.key) (abE (d := 9999) hk) (by rw [hkey]; simp [Den]) w
  have e1 : es.eraseIdxIfInBounds j = es.filter fun z => z.born != e.born := by
   rw [← Array.toList_inj, Array.toList_filter, ← yc hn h2]
   unfold Array.eraseIdxIfInBounds
   rw [dif_pos (by have := (List.getElem?_eq_some_iff.1 h2).1; simpa using this)]
   simp
  have hrun : (Builtin.delete_ #[t, t2] o.type #[.map (some b), e.key]).run P w = .ok (.tuple #[]) { w with heap := w.heap.setIfInBounds b (.map (es.filter fun z => z.born != e.born) clock) } := by
   rw [← e1]
   simp [Builtin.delete_, run_underlying hu, MapKept.run_getObj_map hb, hck, hfind, MapKept.run_setObj_map _ hb]
  simp [execOp, ho, hr _ _ hx, hr _ _ hy, resolve, invoke, builtin, hrun, Result.andThen]
theorem adf {x : Operand} {it b clock : Nat} {seen : Array Nat} {es : Array MapEntry} (hx : ev ρ x = some (.pointer (some ⟨it, 0, none⟩))) (hs : ∀ e ∈ es.toList, e.born < clock) :
 OpT P G ρ ((it, .mapIter (some b) clock seen clock) :: (b, .map es clock) :: L) (.next x false) ty fun u M => (u = .tuple #[.bool false] ∧ M = (it, .mapIter (some b) clock seen clock) :: (b, .map es clock) :: L ∧ (leftOf es seen).size = 0) ∨
  ∃ e ∈ (leftOf es seen).toList, u = .tuple #[.bool true, e.key, e.val] ∧ M = (it, .mapIter (some b) clock (seen.push e.born) clock) :: (b, .map es clock) :: L :=
 ⟨fun r hr w hw o ho _ => by
   have h1 : w.heap[it]? = some (.mapIter (some b) clock seen clock) := hw.get _ (List.mem_cons_self ..)
   have h2 : w.heap[b]? = some (.map es clock) := hw.get _ (List.mem_cons_of_mem _ (List.mem_cons_self ..))
   rcases run_next_at (P := P) w o.type it b clock clock seen es clock h1 h2 hs (Nat.le_refl _) with ⟨h0, hrun⟩ | ⟨e, he, w1, hw1, hrun⟩
   · have h : (execOp r o).run P w = .ok (.value (.tuple #[.bool false])) w := by simp [execOp, ho, hr _ _ hx, hrun]
     rw [h]
     exact ⟨_, Or.inl ⟨rfl, rfl, h0⟩, hw⟩
   · have h : (execOp r o).run P w = .ok (.value (.tuple #[.bool true, e.key, e.val])) (ChangeMaps.setBlock w1 it (.mapIter (some b) clock (seen.push e.born) clock)) := by simp [execOp, ho, hr _ _ hx, hrun]
     rw [h]
     refine ⟨_, Or.inr ⟨e, he, rfl, rfl⟩, ?_⟩
     have hw' : Heap G w1 ((it, .mapIter (some b) clock seen clock) :: (b, .map es clock) :: L) := by
      rcases hw1 with rfl | rfl
      · exact hw
      · exact hw.drew
     exact hw'.update ⟨rfl, rfl, rfl, by simp [ChangeMaps.setBlock]⟩ (Qx (hw'.get _ (List.mem_cons_self ..))) (fun j hj hne => by simp [ChangeMaps.setBlock, Array.getElem?_setIfInBounds_ne (Ne.symm hne)])⟩
theorem abF {x : Operand} {it b clock since : Nat} {seen : Array Nat} {es : Array MapEntry} {e : MapEntry} (hx : ev ρ x = some (.pointer (some ⟨it, 0, none⟩))) (h1 : (it, Obj.mapIter (some b) since (seen.push e.born) clock) ∈ L) (h2 : (b, Obj.map es clock) ∈ L) (he : e ∈ es.toList) (hn : (es.toList.map (·.born)).Nodup) :
 OpQ P ρ L (.entry x) ty (.tuple #[e.key, e.val]) := ⟨fun r hr w hw o ho _ => by
 have hrun := run_entry_at (P := P) w it b since seen es clock e (hw.get _ h1) (hw.get _ h2) he hn
 simp [execOp, ho, hr _ _ hx, hrun]⟩
end
noncomputable def notK (k : AV) (l : List (AV × AV)) : Bool := List.rec true (fun p _ ih => Bool.rec ih false (flatE k p.1)) l
noncomputable def intsE (p : AV × AV) : Bool := match p.1, p.2 with
 | .int .u16 _, .int .i64 _ => true
 | _, _ => false
noncomputable def intsL (l : List (AV × AV)) : Bool := List.rec true (fun p r ih => Bool.rec false (Bool.rec false ih (notK p.1 r)) (intsE p)) l
noncomputable def hasV (k : Int) (v : AV) : Bool := match v with
 | .int _ n => decide (n = k)
 | _ => false
noncomputable def freeL (k : Int) (l : List (AV × AV)) : List (AV × AV) := List.rec [] (fun p _ ih => Bool.rec (p :: ih) ih (hasV k p.2)) l
section
variable {σ : Sg}
theorem aau {q : IntKind} {n : Int} : ∀ {l : List (AV × AV)} {es : List MapEntry}, notK (.int q n) l = true → DenM σ l es → (∀ p ∈ l, intsE p = true) → ∀ e ∈ es, e.key ≠ .int q n
 | [], es, h, hd, hi, e, he => by rw [hd.inv0] at he; cases he
 | p :: l, es, h, hd, hi, e, he => by
   obtain ⟨en, M, rfl, h1, h2, h3⟩ := hd.inv
   have h : (Bool.rec (notK (.int q n) l) false (flatE (.int q n) p.1) : Bool) = true := h
   cases hf : flatE (.int q n) p.1 with
   | true => rw [hf] at h; cases h
   | false =>
     rw [hf] at h
     rcases List.mem_cons.1 he with rfl | he
     · have hp := hi p (List.mem_cons_self ..)
       obtain ⟨k, v⟩ := p
       unfold intsE at hp
       dsimp only at hp h1 hf
       split at hp
       · obtain h1 : e.key = _ := by simpa [Den] using h1
         rw [h1]
         intro c
         cases c
         simp [flatE, Qa] at hf
       · cases hp
     · exact aau h h3 (fun p hp => hi p (List.mem_cons_of_mem _ hp)) e he
theorem W8 : ∀ {l : List (AV × AV)} {es : List MapEntry}, intsL l = true → DenM σ l es → KI es ∧ (∀ p ∈ l, intsE p = true)
 | [], es, h, hd => by rw [hd.inv0]; exact ⟨⟨fun e he => (by cases he), fun e he => (by cases he), .nil⟩, fun p hp => (by cases hp)⟩
 | p :: l, es, h, hd => by
   obtain ⟨en, M, rfl, h1, h2, h3⟩ := hd.inv
   have h : (Bool.rec false (Bool.rec false (intsL l) (notK p.1 l)) (intsE p) : Bool) = true := h
   cases hp : intsE p with
   | false => rw [hp] at h; cases h
   | true =>
     rw [hp] at h
     cases hk : notK p.1 l with
     | false => rw [hk] at h; cases h
     | true =>
       rw [hk] at h
       obtain ⟨k1, k2⟩ := W8 h h3
       have hall : ∀ q ∈ p :: l, intsE q = true := fun q hq => by
        rcases List.mem_cons.1 hq with rfl | hq
        · exact hp
        · exact k2 q hq
       refine ⟨?_, hall⟩
       obtain ⟨k, v⟩ := p
       have hp' := hp
       unfold intsE at hp'
       dsimp only at hp' h1 h2 hk
       split at hp'
       · obtain h1 : en.key = _ := by simpa [Den] using h1
         obtain h2 : en.val = _ := by simpa [Den] using h2
         refine ⟨fun e he => ?_, fun e he => ?_, List.pairwise_cons.2 ⟨fun e he => ?_, k1.dist⟩⟩
         · rcases List.mem_cons.1 he with rfl | he
           · exact ⟨_, h1⟩
           · exact k1.key e he
         · rcases List.mem_cons.1 he with rfl | he
           · exact ⟨_, h2⟩
           · exact k1.val e he
         · rw [h1]
           exact (aau hk h3 k2 e he).symm
       · cases hp'
theorem W9 {k : Int} : ∀ {l : List (AV × AV)} {es : List MapEntry}, (∀ p ∈ l, intsE p = true) → DenM σ l es → DenM σ (freeL k l) (es.filter fun e => !isK k e)
 | [], es, h, hd => by rw [hd.inv0]; show DenM σ [] []; simp [DenM]
 | p :: l, es, h, hd => by
   obtain ⟨en, M, rfl, h1, h2, h3⟩ := hd.inv
   have ih := W9 (k := k) (fun q hq => h q (List.mem_cons_of_mem _ hq)) h3
   have hp := h p (List.mem_cons_self ..)
   have e1 : isK k en = hasV k p.2 := by
    obtain ⟨a, v⟩ := p
    unfold intsE at hp
    dsimp only at hp h2 ⊢
    split at hp
    · obtain h2 : en.val = _ := by simpa [Den] using h2
      unfold isK hasV
      rw [h2]
    · cases hp
   show DenM σ (Bool.rec (p :: freeL k l) (freeL k l) (hasV k p.2)) _
   cases hv : hasV k p.2 with
   | true => rw [List.filter_cons_of_neg (by rw [e1, hv]; simp)]; exact ih
   | false => rw [List.filter_cons_of_pos (by rw [e1, hv]; rfl)]; exact .cons h1 h2 ih
end
noncomputable def isNorm (x : Exit) : Bool := Exit.rec true (fun _ => false) (fun _ => false) false (fun _ => false) false x
theorem Kj {x : Exit} (h : isNorm x = true) : x = .normal := by cases x <;> first | rfl | cases h
noncomputable def freeA (P : Program) (H k i : Nat) (E : jU) (args : List AV) (m : Mem) : Option (AV × Mem) :=
 ob P.funcs[i]? fun fn => ob fn.body fun c => bo (Nat.ble (lenN args) fn.ntmps) (match c with
  | .seq r0 (.seq r1 (.seq r2 _)) =>
    ob (codeE P E fn.ntmps k r0 (argF args 0 (.base H .leaf)) m) fun a => bo (isNorm a.x) (ob (codeE P E fn.ntmps k r1 a.s a.m) fun b => bo (isNorm b.x) (ob (codeE P E fn.ntmps k r2 b.s b.m) fun r => bo (isNorm r.x) (ob (r.s.get 1) fun v => ob (r.s.get 7) fun w => ob (r.s.get 8) fun z => match v, w, z with
     | .int .i64 slot, .mp i, .int .i64 0 => ob (r.m.h.get i) fun o => (match o with
       | .map l => bo (intsL l) (bo (Nat.ble (lenN l) 1000000) (putK r.m i (.map (freeL slot l)) fun m' => some (.int .i64 (Int.ofNat (Nat.sub (lenN l) (lenN (freeL slot l)))), m')))
       | _ => none)
     | _, _, _ => none)))
  | _ => none)
section
variable {P : Program} {G : World} {E : jU} {F : Fm} {σ : Sg} {L : ja}
theorem adg (kb : P.follows .mixedOrders = true) (hE : jV P E) {H k i : Nat} {args : List AV} {m m' : Mem} {v : AV} {As : List Value} {fn : Func} {r0 r1 r2 rest : Code} (hf : P.funcs[i]? = some fn) (hb : fn.body = some (.seq r0 (.seq r1 (.seq r2 rest)))) (hres : fn.results = #[.tmp 6])
 (hrest : ∀ {ρ : jh} {L : ja} {b clock : Nat} {es : Array MapEntry} {slot : Int} {Q : Exit → Act → World → Prop}, ρ.lookup 7 = some (.map (some b)) → ρ.lookup 1 = some (.int .i64 slot) → ρ.lookup 8 = some (.int .i64 0) → Stm es clock → KI es.toList → es.size ≤ 1000000 →
   (∀ ρ' : jh, ρ'.lookup 6 = some (.int .i64 (Int.ofNat (es.size - (es.filter fun e => !isK slot e).size))) → TQ G fn.ntmps ρ' ((b, .map (es.filter fun e => !isK slot e) clock) :: L) .ret Q) →
   T P G fn.ntmps ρ ((b, .map es clock) :: L) rest Q)
 (e : freeA P H k i E args m = some (v, m')) (hA : DenL σ args As) (hm : MemR σ m F L) : Spec P G i As.toArray L (kB σ v m' F) := by
 obtain ⟨fn', hf', e⟩ := jd e
 rw [hf] at hf'
 cases hf'
 obtain ⟨c, hb', e⟩ := jd e
 rw [hb] at hb'
 cases hb'
 obtain ⟨hn, e⟩ := je e
 dsimp only at e
 obtain ⟨⟨x0, s0, m0⟩, e0, e⟩ := jd e
 obtain ⟨hx, e⟩ := je e
 obtain rfl := Kj hx
 obtain ⟨⟨x1, s1, m1⟩, e1, e⟩ := jd e
 obtain ⟨hx, e⟩ := je e
 obtain rfl := Kj hx
 obtain ⟨⟨x2, s2, m2⟩, e2, e⟩ := jd e
 obtain ⟨hx, e⟩ := je e
 obtain rfl := Kj hx
 dsimp only at e1 e2 e
 obtain ⟨a, ha, ea⟩ := jd e
 obtain ⟨w, hw, eb⟩ := jd ea
 obtain ⟨z, hz, ec⟩ := jd eb
 clear ea eb e
 split at ec
 · rename_i slot i2
   obtain ⟨o, ho, e⟩ := jd ec
   clear ec
   cases o with
   | map l =>
     obtain ⟨hI, e⟩ := je e
     obtain ⟨hlen, e⟩ := je e
     obtain ⟨hi2, e⟩ := ki e
     cases e
     have hlen := Nat.le_of_ble_eq_true hlen
     rw [jP] at hlen
     obtain ⟨ρ', q1, q2⟩ := yU (k := 0) (s := Fr.base H .leaf) (ρ := []) hA (SlR.leaf hm.glb) (fun t _ => rfl)
     refine jw (n := fn.ntmps) hf hb rfl (by rw [List.size_toArray, hA.length, ← jP]; exact hn) ?_
     refine Ve ρ' (fun t u h => by
      rcases q2 t u h with h | h
      · exact h
      · cases h) (fun w hw => hw) ?_
     refine jH (ql kb hE r0 e0 q1 hm fun σ0 ρ0 L0 a1 a2 a3 => jR (jH (ql kb hE r1 e1 a2 a3 fun σ1 ρ1 L1 b1 b2 b3 => jR (jH (ql kb hE r2 e2 b2 b3 fun σ2 ρ2 L2 c1 c2 c3 => jR ?_)))))
     obtain ⟨V1, k1, k2⟩ := c2.get _ _ ha
     obtain rfl : V1 = .int .i64 slot := by simpa [Den] using k2
     obtain ⟨V8, k3, k4⟩ := c2.get _ _ hz
     obtain rfl : V8 = .int .i64 0 := by simpa [Den] using k4
     obtain ⟨V7, k5, k6⟩ := c2.get _ _ hw
     simp only [Den] at k6
     obtain ⟨y, hy, rfl⟩ := k6
     obtain ⟨O, ⟨es, clock, ⟨h1, h2⟩, rfl⟩, h3⟩ := c3.get i2 _ y ho hy
     obtain ⟨K1, K2⟩ := W8 hI h1
     obtain ⟨A, B, hAB⟩ := List.append_of_mem h3
     have hp : L2.Perm ((y.1, Obj.map es clock) :: (A ++ B)) := by rw [hAB]; exact List.perm_middle
     have hsz : es.size = l.length := by rw [← Array.length_toList]; exact h1.len
     refine Qj (fun w hw => hw.perm hp) (hrest k5 k1 k3 h2 K1 (by omega) fun ρ3 h6 => ?_)
     have hd : DenM σ2 (freeL slot l) (es.filter fun e => !isK slot e).toList := by
      rw [Array.toList_filter]
      exact W9 K2 h1
     have hcnt : es.size - (es.filter fun e => !isK slot e).size = Nat.sub (lenN l) (lenN (freeL slot l)) := by
      have h9 : (es.filter fun e => !isK slot e).size = (freeL slot l).length := by rw [← Array.length_toList]; exact hd.len
      rw [jP, jP, h9, hsz]
      rfl
     refine ⟨fun a w he hw => ?_⟩
     refine ⟨he.defers, .int .i64 (Int.ofNat (es.size - (es.filter fun e => !isK slot e).size)), ?_, _, _, rfl, ⟨σ2, Sg.le_trans a1 (Sg.le_trans b1 c1), ?_, c3.write ho hy hp (by omega) ⟨_, clock, ⟨hd, h2.sub (by rw [Array.toList_filter]; exact List.filter_sublist)⟩, rfl⟩⟩, hw⟩
     · have h5 : a.tmps.getD 6 undef = _ := he.reads (.tmp 6) _ h6
       rw [QG, hres]
       simp [QF, h5]
     · rw [hcnt]; simp only [Den]
   | _ => cases e
 · cases ec
end
end Go.Proofs.YtgjlbilcnlffgaaGreatDoor.Ev
namespace Go.Proofs.YtgjlbilcnlffgaaGreatDoor.Ev
open Go
set_option maxRecDepth 100000
section
variable {G : World} {Q : Exit → Act → World → Prop} {F : Fm} {σ : Sg} {L : ja}
theorem abG {n i3 i4 i5 i6 i7 i8 i9 b0 b1 : Nat} {P : Program} {tm kt et ti tb : Nat} (hn : n = 29) (hu : P.underlying tm = some (.map kt et)) (hk : P.underlying kt = some (.int .u16))
 {p1 p2 p3 p4 p5 p6 p7 p8 p9 p10 p11 p12 p13 p14 p15 p16 p17 p18 p19 p20 : String} {a1 a2 a3 a4 a5 a6 a7 a8 a9 a10 a11 a12 a13 a14 a15 a16 a17 a18 a19 a20 : Array Edge} {y1 y2 y3 y4 y5 y6 y7 y8 y9 y10 y11 y12 y13 y14 y15 y16 y17 y18 y19 y20 u1 u2 u3 : Nat}
 {ρ : jh} {L : ja} {b clock : Nat} {es : Array MapEntry} {slot : Int} (h7 : ρ.lookup 7 = some (.map (some b))) (h1 : ρ.lookup 1 = some (.int .i64 slot)) (h8 : ρ.lookup 8 = some (.int .i64 0)) (hS : Stm es clock) (hI : KI es.toList) (hz : es.size ≤ 1000000)
 (hQ : ∀ ρ' : jh, ρ'.lookup 6 = some (.int .i64 (Int.ofNat (es.size - (es.filter fun e => !isK slot e).size))) → TQ G n ρ' ((b, .map (es.filter fun e => !isK slot e) clock) :: L) .ret Q) :
 T P G n ρ ((b, .map es clock) :: L)
  (.seq (.seq (.region i3 #[⟨some 14, .move (.tmp 7), y1, p1, a1, none⟩, ⟨some 15, .range tm (.tmp 14), y2, p2, a2, none⟩] false)
    (.block b0 (.loop (.seq (.region i4 #[⟨some 16, .next (.tmp 15) false, y3, p3, a3, none⟩, ⟨some 17, .extract (.tmp 16) 0, y4, p4, a4, none⟩] false)
      (.seq (.cond (.tmp 17) .skip (.exit b0))
        (.block b1 (.seq (.region i5 #[⟨some 18, .entry (.tmp 15), y5, p5, a5, none⟩, ⟨some 19, .extract (.tmp 18) 0, y6, p6, a6, none⟩, ⟨some 20, .extract (.tmp 18) 1, y7, p7, a7, none⟩, ⟨some 9, .assign (.tmp 19), y8, p8, a8, none⟩, ⟨some 10, .assign (.tmp 20), y9, p9, a9, none⟩] false)
          (.seq (.region i6 #[⟨some 21, .move (.tmp 10), y10, p10, a10, none⟩, ⟨some 22, .move (.tmp 1), y11, p11, a11, none⟩, ⟨some 23, .binOp .eql u1 (.tmp 21) (.tmp 22) u2, y12, p12, a12, none⟩] false)
            (.cond (.tmp 23)
              (.seq (.region i7 #[⟨some 24, .move (.tmp 7), y13, p13, a13, none⟩, ⟨some 25, .move (.tmp 9), y14, p14, a14, none⟩, ⟨none, .call ⟨.builtin .delete, #[.tmp 24, .tmp 25], #[tm, u3]⟩, y15, p15, a15, none⟩] false)
                (.region i8 #[⟨some 26, .move (.tmp 8), y16, p16, a16, none⟩, ⟨some 27, .binOp .add ti (.tmp 26) (.const (.int .i64 1)) tb, y17, p17, a17, none⟩, ⟨some 8, .assign (.tmp 27), y18, p18, a18, none⟩] false))
              .skip)))))))))
    (.seq (.region i9 #[⟨some 28, .move (.tmp 8), y19, p19, a19, none⟩, ⟨some 6, .assign (.tmp 28), y20, p20, a20, none⟩] false) .ret)) Q := by
 subst hn
 refine jH (jH (jL (jm (j0 h7) rfl ?_)))
 have hN : OpNew P G ((14, Value.map (some b)) :: ρ) ((b, .map es clock) :: L) (.range tm (.tmp 14)) y2 (fun b => .pointer (some ⟨b, 0, none⟩)) (.mapIter (some b) clock #[] clock) := ⟨fun r hr w hw o ho _ => by
  have hb : w.heap[b]? = some (.map es clock) := hw.get _ (List.mem_cons_self ..)
  have h : (Instr.range tm (.map (some b))).run P w = .ok (.pointer (some ⟨w.heap.size, 0, none⟩)) (w.alloc (.mapIter (some b) clock #[] clock)) := by
   simp [Instr.range, run_underlying hu, MapKept.run_getObj_map hb]
  have hx := hr (.tmp 14) _ rfl
  have h' : (execOp r o).run P w = .ok (.value (.pointer (some ⟨w.heap.size, 0, none⟩))) (w.alloc (.mapIter (some b) clock #[] clock)) := by simp [execOp, ho, hx, h]
  rw [h']
  exact ⟨_, ⟨w.heap.size, rfl, rfl⟩, hw.alloc _⟩⟩
 refine qX hN rfl fun it => kP (jR (qK ?_))
 refine kv (σ := Array Nat) (fun _ => True) (fun seen => [(8, .int .i64 (Int.ofNat (es.size - (kz slot es seen).size))), (7, .map (some b)), (1, .int .i64 slot), (15, .pointer (some ⟨it, 0, none⟩))])
  (fun seen => (it, .mapIter (some b) clock seen clock) :: (b, .map (kz slot es seen) clock) :: L) (fun seen => (leftOf es seen).size) #[] trivial ?_ ?_ ?_
 · refine ⟨?_, ?_, ?_, rfl, trivial⟩
   · rw [KJ, Nat.sub_self]; exact h8
   · exact h7
   · exact h1
 · intro w hw
   rw [KJ]
   exact hw
 · intro seen _
   refine jH (jL (jT (adf rfl fun e he => hS.1 e ((yW slot es seen).subset he)) rfl ?_))
   rintro u M (⟨rfl, rfl, h0⟩ | ⟨e, he, rfl, rfl⟩)
   · rw [QL] at h0
     refine jm (kG (i := 0) rfl rfl) rfl (kP (jR (jH (yH rfl (ym (kg (kg (j6 ?_))))))))
     rw [abD h0]
     refine jR (jH (jL (jm (j0 rfl) rfl (jm (kx rfl) rfl (kP (jR (Kw ?_)))))))
     exact jr (fun w hw => hw.tail) (hQ _ rfl)
   · rw [QL] at he
     obtain ⟨hes, hun⟩ := mem_left he
     have hke : e ∈ (kz slot es seen).toList := by
      unfold kz
      rw [Array.toList_filter, List.mem_filter]
      exact ⟨hes, by rw [hun]; rfl⟩
     have hnd : ((kz slot es seen).toList.map (·.born)).Nodup := ((yW slot es seen).map _).nodup hS.2
     obtain ⟨nk, hkey⟩ := hI.key e hes
     obtain ⟨nv, hval⟩ := hI.val e hes
     have hlt := left_shrinks es seen e he
     refine jm (kG (i := 0) rfl rfl) rfl (kP (jR (jH (J5 rfl (uH (jR (qK ?_)))))))
     refine jH (jL (jm (abF (e := e) rfl (List.mem_cons_self ..) (List.mem_cons_of_mem _ (List.mem_cons_self ..)) hke hnd) rfl (jm (kG (i := 0) (v := e.key) rfl rfl) rfl (jm (kG (i := 1) (v := e.val) rfl rfl) rfl (jm (kx rfl) rfl (jm (kx rfl) rfl (kP (jR ?_))))))))
     refine jH (jL (jm (j0 rfl) rfl (jm (j0 rfl) rfl (jm (qp (a := .int .i64 nv) (b := .int .i64 slot) (by rw [← hval]; rfl) rfl K3) rfl (kP (jR ?_))))))
     cases hc : (nv == slot) with
     | true =>
       have hik : isK slot e = true := by
        unfold isK
        rw [hval]
        simpa using hc
       refine J5 rfl ?_
       have hsz : (kz slot es (seen.push e.born)).size + 1 = (kz slot es seen).size := by
        rw [UI hS.2 hes hik]
        obtain ⟨j, hj, hje⟩ := List.mem_iff_getElem.1 hke
        have h2 : (kz slot es seen).toList[j]? = some e := by rw [List.getElem?_eq_getElem hj, hje]
        rw [← Array.length_toList, Array.toList_filter, ← yc hnd h2, List.length_eraseIdx_of_lt hj, ← Array.length_toList]
        omega
       have hle : (kz slot es seen).size ≤ es.size := by
        rw [← Array.length_toList, ← Array.length_toList]
        exact (yW slot es seen).length_le
       refine jH (jL (jm (j0 rfl) rfl (jm (j0 (v := e.key) rfl) rfl (zB (fun w hw => hw.perm (List.Perm.swap ..)) (Qi (ae9 hu hk rfl rfl hke (hI.sub (yW slot es seen)) hnd) (kP (jR ?_)))))))
       refine jL (jm (j0 rfl) rfl (jm (qp (a := .int .i64 (Int.ofNat (es.size - (kz slot es seen).size))) rfl rfl (K0 (by constructor <;> simp <;> omega))) rfl (jm (kx rfl) rfl (kP (qw ?_)))))
       refine jG (seen.push e.born) trivial ?_ ?_ hlt
       · refine ⟨?_, rfl, rfl, rfl, trivial⟩
         show some (Value.int .i64 (Int.ofNat (es.size - (kz slot es seen).size) + 1)) = _
         congr 2
         have : es.size - (kz slot es (seen.push e.born)).size = es.size - (kz slot es seen).size + 1 := by omega
         rw [this]
         rfl
       · intro w hw
         rw [UI hS.2 hes hik]
         exact hw.perm (List.Perm.swap ..)
     | false =>
       have hik : isK slot e = false := by
        unfold isK
        rw [hval]
        simpa using hc
       refine yH rfl (uH (qw ?_))
       refine jG (seen.push e.born) trivial ?_ ?_ hlt
       · rw [W7 hS.2 hes hik]
         exact ⟨rfl, rfl, rfl, rfl, trivial⟩
       · rw [W7 hS.2 hes hik]
         exact fun w hw => hw
end
noncomputable def ownX (P : Program) (H : Nat → Nat) (k : Nat) (l : List (Nat × Way)) (fr : Nat) : Own := fun i => Bool.rec (ownL P H k l i) (some (freeA P (H fr) k fr)) (Nat.beq i fr)
theorem afa {P : Program} (kb : P.follows .mixedOrders = true) (H : Nat → Nat) (k : Nat) (l : List (Nat × Way)) {fr : Nat} {fn : Func} {r0 r1 r2 rest : Code} (hf : P.funcs[fr]? = some fn) (hb : fn.body = some (.seq r0 (.seq r1 (.seq r2 rest)))) (hres : fn.results = #[.tmp 6])
 (hrest : ∀ {G : World} {ρ : jh} {L : ja} {b clock : Nat} {es : Array MapEntry} {slot : Int} {Q : Exit → Act → World → Prop}, ρ.lookup 7 = some (.map (some b)) → ρ.lookup 1 = some (.int .i64 slot) → ρ.lookup 8 = some (.int .i64 0) → Stm es clock → KI es.toList → es.size ≤ 1000000 →
   (∀ ρ' : jh, ρ'.lookup 6 = some (.int .i64 (Int.ofNat (es.size - (es.filter fun e => !isK slot e).size))) → TQ G fn.ntmps ρ' ((b, .map (es.filter fun e => !isK slot e) clock) :: L) .ret Q) →
   T P G fn.ntmps ρ ((b, .map es clock) :: L) rest Q) : uD P (ownX P H k l fr) := by
 intro i f hx E hE G args m v m' σ As F L e hA hm
 unfold ownX at hx
 cases hb2 : Nat.beq i fr with
 | false => rw [hb2] at hx; exact ae8 kb H k l i f hx E hE e hA hm
 | true =>
   rw [hb2] at hx
   cases hx
   obtain rfl : i = fr := Nat.eq_of_beq_eq_true hb2
   exact adg kb hE hf hb hres hrest e hA hm
end Go.Proofs.YtgjlbilcnlffgaaGreatDoor.Ev
namespace Go.Proofs.YtgjlbilcnlffgaaGreatDoor.Ev
open Go
noncomputable def beqM : List (AV × AV) → List (AV × AV) → Bool
 | [], [] => true
 | p :: l, q :: m => beqV p.1 q.1 && beqV p.2 q.2 && beqM l m
 | _, _ => false
theorem aav : ∀ (a b : List (AV × AV)), beqM a b = true → a = b
 | [], b, h => by cases b <;> simp [beqM] at h; rfl
 | p :: l, b, h => by
   cases b with
   | nil => simp [beqM] at h
   | cons q m =>
     simp [beqM] at h
     rw [aav l m h.2, show p = q from Prod.ext (ya _ _ h.1.1) (ya _ _ h.1.2)]
noncomputable def beqO : AO → AO → Bool
 | .cells l e, .cells m e' => Nat.beq e e' && beqVs l m
 | .row l n e sz lo, .row m n' e' sz' lo' => Nat.beq n n' && Nat.beq e e' && Nat.beq sz sz' && Nat.beq lo lo' && beqVs l m
 | .rowF l n e, .rowF m n' e' => Nat.beq n n' && Nat.beq e e' && beqVs l m
 | .map l, .map m => beqM l m
 | .it i, .it j => Nat.beq i j
 | _, _ => false
theorem afb (a b : AO) (h : beqO a b = true) : a = b := by
 cases a <;> cases b <;> simp [beqO] at h
 · rw [h.1, qS _ _ h.2]
 · rw [h.1.1.1.1, h.1.1.1.2, h.1.1.2, h.1.2, qS _ _ h.2]
 · rw [h.1.1, h.1.2, qS _ _ h.2]
 · rw [aav _ _ h]
 · rw [h]
noncomputable def look (l : List (Nat × AO)) (i : Nat) : Option AO := List.rec none (fun p _ ih => Bool.rec ih (some p.2) (Nat.beq p.1 i)) l
noncomputable def toTrK {β : Type} (l : List (Nat × AO)) (t : Tr AO) : (Tr AO → β) → β := List.rec (motive := fun _ => (Tr AO → β) → β) (fun k => k t) (fun p _ ih k => ih fun t => Tr.setK 20 t p.1 p.2 k) l
noncomputable def delTrK {β : Type} (l : List (Nat × AO)) (t : Tr AO) : (Tr AO → β) → β := List.rec (motive := fun _ => (Tr AO → β) → β) (fun k => k t) (fun p _ ih k => ih fun t => Tr.setOK 20 t p.1 none k) l
def uw : List (Nat × AO) → Tr AO → Tr AO
 | [], t => t
 | p :: l, t => Tr.set 20 (uw l t) p.1 p.2
def KK : List (Nat × AO) → Tr AO → Tr AO
 | [], t => t
 | p :: l, t => Tr.setO 20 (KK l t) p.1 none
theorem yz {β : Type} : ∀ (l : List (Nat × AO)) (t : Tr AO) (k : Tr AO → β), toTrK l t k = k (uw l t)
 | [], t, k => rfl
 | p :: l, t, k => by
   have h : toTrK (p :: l) t k = toTrK l t fun t => Tr.setK 20 t p.1 p.2 k := rfl
   rw [h, yz l, Tr.setK_eq]
   rfl
theorem UK {β : Type} : ∀ (l : List (Nat × AO)) (t : Tr AO) (k : Tr AO → β), delTrK l t k = k (KK l t)
 | [], t, k => rfl
 | p :: l, t, k => by
   have h : delTrK (p :: l) t k = delTrK l t fun t => Tr.setOK 20 t p.1 none k := rfl
   rw [h, UK l, Tr.setOK_eq]
   rfl
theorem uk (p : Nat × AO) (l : List (Nat × AO)) (i : Nat) : look (p :: l) i = if i = p.1 then some p.2 else look l i := by
 have h : look (p :: l) i = Bool.rec (look l i) (some p.2) (Nat.beq p.1 i) := rfl
 rw [h]
 by_cases c : i = p.1
 · rw [if_pos c, bqT c.symm]
 · rw [if_neg c, bqF (Ne.symm c)]
noncomputable def smallL (l : List (Nat × AO)) : Bool := allB (fun p => Nat.ble p.1 999998) l
theorem yA : ∀ {l : List (Nat × AO)} {t : Tr AO}, smallL l = true → ∀ i, (uw l t).get i = (look l i).or (t.get i)
 | [], t, h, i => rfl
 | p :: l, t, h, i => by
   have hp := kp h p (List.mem_cons_self ..)
   have hl : smallL l = true := by
    have h : Bool.rec false (smallL l) (Nat.ble p.1 999998) = true := h
    rw [hp] at h
    exact h
   have := Nat.le_of_ble_eq_true hp
   show (Tr.set 20 (uw l t) p.1 p.2).get i = _
   rw [Tr.get_set 20 _ _ _ (by omega), yA hl, uk]
   split <;> rfl
theorem UL : ∀ {l : List (Nat × AO)} {t : Tr AO}, smallL l = true → ∀ i, (KK l t).get i = if (look l i).isSome then none else t.get i
 | [], t, h, i => rfl
 | p :: l, t, h, i => by
   have hp := kp h p (List.mem_cons_self ..)
   have hl : smallL l = true := by
    have h : Bool.rec false (smallL l) (Nat.ble p.1 999998) = true := h
    rw [hp] at h
    exact h
   have := Nat.le_of_ble_eq_true hp
   show (Tr.setO 20 (KK l t) p.1 none).get i = _
   rw [Tr.get_setO 20 _ _ _ (by omega), UL hl, uk]
   by_cases c : i = p.1
   · simp [c]
   · simp [c]
noncomputable def hasO (l : List (Nat × AO)) (m : Mem) : Bool := allB (fun p => Option.rec false (fun o => beqO p.2 o) (m.h.get p.1)) l
theorem qt {m : Mem} : ∀ {l : List (Nat × AO)}, hasO l m = true → ∀ i o, look l i = some o → m.h.get i = some o
 | [], h, i, o, e => by cases e
 | p :: l, h, i, o, e => by
   have hp := kp h p (List.mem_cons_self ..)
   have hl : hasO l m = true := by
    have h : Bool.rec false (hasO l m) (Option.rec false (fun o => beqO p.2 o) (m.h.get p.1) : Bool) = true := h
    rw [hp] at h
    exact h
   rw [uk] at e
   by_cases c : i = p.1
   · rw [if_pos c] at e
     cases e
     subst c
     cases hg : m.h.get p.1 with
     | none => rw [hg] at hp; cases hp
     | some q => rw [hg] at hp; rw [afb _ _ hp]
   · rw [if_neg c] at e
     exact qt hl i o e
structure Row where
 i : Nat
 args : List AV
 nx : Nat
 hr : List (Nat × AO)
 hw : List (Nat × AO)
 v : AV
 nx' : Nat
 h' : List (Nat × AO)
noncomputable def Row.fits (r : Row) (i : Nat) (args : List AV) (m : Mem) : Bool := Bool.rec false (Bool.rec false (Bool.rec false (Bool.rec false (hasO r.hw m) (hasO r.hr m)) (beqVs r.args args)) (Nat.beq r.nx m.nx)) (Nat.beq r.i i)
noncomputable def Row.out (r : Row) (m : Mem) : Option (AV × Mem) := delTrK r.hw m.h fun t => toTrK r.h' t fun t => some (r.v, ⟨t, r.nx'⟩)
noncomputable def Row.okB (E : jU) (r : Row) : Bool := Bool.rec false (Bool.rec false (Bool.rec false (Bool.rec false (Bool.rec false
 (toTrK r.hr .leaf fun t => toTrK r.hw t fun t => Option.rec false (fun q => Bool.rec false (Bool.rec false (Bool.rec false (Bool.rec false
   (allB (fun p => Bool.rec (Option.rec true (fun _ => false) (q.2.h.get p.1)) true (Option.rec false (fun _ => true) (look r.h' p.1) : Bool)) r.hw)
   (hasO r.h' q.2)) (hasO r.hr q.2)) (Nat.beq q.2.nx r.nx')) (beqV r.v q.1)) (E r.i r.args ⟨t, r.nx⟩))
 (allB (fun p => Bool.rec (Option.rec false (fun _ => true) (look r.hw p.1)) true (Nat.ble r.nx p.1)) r.h')) (Nat.ble r.nx r.nx')) (smallL r.h')) (smallL r.hw)) (smallL r.hr)
theorem kV {a b : Bool} (h : (Bool.rec false b a : Bool) = true) : a = true ∧ b = true := by
 cases a with
 | false => cases h
 | true => exact ⟨rfl, h⟩
section
variable {P : Program}
theorem Row.ok {E : jU} (hE : jV P E) {r : Row} (hr : r.okB E = true) {G : World} {i : Nat} {args : List AV} {m m' : Mem} {v : AV} {σ : Sg} {As : List Value} {F : Fm} {L : ja} (hf : r.fits i args m = true) (e : r.out m = some (v, m')) (hA : DenL σ args As) (hm : MemR σ m F L) : Spec P G i As.toArray L (kB σ v m' F) := by
 classical
 obtain ⟨f1, hf⟩ := kV hf
 obtain ⟨f2, hf⟩ := kV hf
 obtain ⟨f3, hf⟩ := kV hf
 obtain ⟨f4, f5⟩ := kV hf
 obtain rfl := Nat.eq_of_beq_eq_true f1
 have hnx := Nat.eq_of_beq_eq_true f2
 have hargs := qS _ _ f3
 obtain ⟨s1, hr⟩ := kV hr
 obtain ⟨s2, hr⟩ := kV hr
 obtain ⟨s3, hr⟩ := kV hr
 obtain ⟨hle, hr⟩ := kV hr
 obtain ⟨hnew, hr⟩ := kV hr
 have hle := Nat.le_of_ble_eq_true hle
 rw [yz, yz] at hr
 unfold Row.out at e
 rw [UK, yz] at e
 cases e
 cases hq : E r.i r.args ⟨uw r.hw (uw r.hr .leaf), r.nx⟩ with
 | none => rw [hq] at hr; cases hr
 | some q =>
   rw [hq] at hr
   obtain ⟨u, m1⟩ := q
   dsimp only at hr
   obtain ⟨t1, hr⟩ := kV hr
   obtain ⟨t2, hr⟩ := kV hr
   obtain ⟨t3, hr⟩ := kV hr
   obtain ⟨t4, t5⟩ := kV hr
   have hv := ya _ _ t1
   have hn1 := Nat.eq_of_beq_eq_true t2
   let dom : Nat → Prop := fun i => (look r.hw i).isSome = true ∨ (look r.hr i).isSome = true
   have hk : ∀ i, (uw r.hw (uw r.hr .leaf)).get i = (look r.hw i).or (look r.hr i) := fun i => by
    rw [yA s2, yA s1]
    cases look r.hr i <;> rfl
   have hkm : ∀ i o, (uw r.hw (uw r.hr .leaf)).get i = some o → m.h.get i = some o := fun i o h => by
    rw [hk] at h
    cases h1 : look r.hw i with
    | some o' => rw [h1] at h; cases h; exact qt f5 i _ h1
    | none => rw [h1] at h; exact qt f4 i o h
   have hkd : ∀ i, dom i → ∃ o, (uw r.hw (uw r.hr .leaf)).get i = some o := fun i h => by
    rw [hk]
    rcases h with h | h
    · obtain ⟨o, h⟩ := Option.isSome_iff_exists.1 h
      exact ⟨o, by rw [h]; rfl⟩
    · obtain ⟨o, h⟩ := Option.isSome_iff_exists.1 h
      cases h1 : look r.hw i with
      | some o' => exact ⟨o', rfl⟩
      | none => exact ⟨o, h⟩
   have hdk : ∀ i o, (uw r.hw (uw r.hr .leaf)).get i = some o → dom i := fun i o h => by
    rw [hk] at h
    cases h1 : look r.hw i with
    | some o' => exact Or.inl (by rw [h1]; rfl)
    | none => rw [h1] at h; exact Or.inr (by rw [show look r.hr i = some o from h]; rfl)
   let B : ja := L.filter fun p => decide (∀ j o x, dom j → m.h.get j = some o → σ j = some x → p.1 ≠ x.1)
   have hB : ∀ p, p ∈ B ↔ p ∈ L ∧ ∀ j o x, dom j → m.h.get j = some o → σ j = some x → p.1 ≠ x.1 := fun p => by
    show p ∈ L.filter _ ↔ _
    rw [List.mem_filter]
    simp
   have hFB : ∀ p ∈ F.b, p ∈ B := fun p hp => (hB p).2 ⟨hm.frame p hp, fun j o x _ h1 h2 => hm.apart j o x h1 h2 p hp⟩
   let z1 : Nat → Option AO := fun i => if dom i then F.z i else none
   let F1 : Fm := ⟨B, z1, fun i => i < m.nx ∧ σ i = none ∧ z1 i = none⟩
   have hm1 : MemR σ ⟨uw r.hw (uw r.hr .leaf), r.nx⟩ F1 L := by
    refine ⟨fun i o x h h2 => hm.get i o x (hkm i o h) h2, fun i j o o' x y h h' h2 h3 h4 => hm.inj i j o o' x y (hkm i o h) (hkm j o' h') h2 h3 h4, fun p hp => ((hB p).1 hp).1, fun i o x h h2 p hp => ((hB p).1 hp).2 i o x (hdk i o h) (hkm i o h) h2, fun i o h => ?_, fun i hi => hm.fresh i (by rw [← hnx]; exact hi), fun i o h => by rw [hnx]; exact hm.below i o (hkm i o h), hm.glb, fun i h => ⟨h.2.1, h.2.2, by rw [hnx]; exact h.1⟩⟩
    have h : (if dom i then F.z i else none) = some o := h
    by_cases c : dom i
    · rw [if_pos c] at h
      obtain ⟨g1, g2, g3⟩ := hm.ghost i o h
      obtain ⟨o', ho'⟩ := hkd i c
      have := hkm i o' ho'
      rw [g2] at this
      cases this
      exact ⟨g1, ho', by rw [hnx]; exact g3⟩
    · rw [if_neg c] at h; cases h
   have hsp := hE (G := G) hq (hargs ▸ hA) hm1
   refine hsp.mono fun V M ⟨σ', k1, k2, k3⟩ => ?_
   rw [← hv] at k2
   refine ⟨σ', k1, k2, ?_⟩
   have hget : ∀ i, (uw r.h' (KK r.hw m.h)).get i = (look r.h' i).or (if (look r.hw i).isSome then none else m.h.get i) := fun i => by rw [yA s3, UL s2]
   have hz1 : ∀ i, ¬ dom i → z1 i = none := fun i c => if_neg c
   have dead : ∀ i, i < m.nx → σ i = none → z1 i = none → σ' i = none := fun i h1 h2 h3 => (k3.dead i ⟨h1, h2, h3⟩).1
   have cases2 : ∀ i o, (uw r.h' (KK r.hw m.h)).get i = some o → m1.h.get i = some o ∨ (¬ dom i ∧ m.h.get i = some o) := fun i o h => by
    rw [hget] at h
    cases h1 : look r.h' i with
    | some o' => rw [h1] at h; cases h; exact Or.inl (qt t4 i _ h1)
    | none =>
      rw [h1] at h
      have h : (if (look r.hw i).isSome then none else m.h.get i) = some o := h
      cases h2 : look r.hw i with
      | some o' => rw [h2] at h; cases h
      | none =>
        rw [h2] at h
        have h : m.h.get i = some o := h
        cases h3 : look r.hr i with
        | some o' =>
          have := qt f4 i _ h3
          rw [h] at this
          cases this
          exact Or.inl (qt t3 i _ h3)
        | none =>
          refine Or.inr ⟨fun c => ?_, h⟩
          rcases c with c | c
          · rw [h2] at c; cases c
          · rw [h3] at c; cases c
   have beside : ∀ i o x, ¬ dom i → m.h.get i = some o → σ' i = some x → σ i = some x ∧ ∃ O, DenO σ' x.2 o O ∧ (x.1, O) ∈ B := fun i o x c h h2 => by
    have h3 : σ i = some x := by
     cases hs : σ i with
     | none => rw [dead i (hm.below i o h) hs (hz1 i c)] at h2; cases h2
     | some y => rw [k1 i y hs] at h2; exact h2
    obtain ⟨O, g1, g2⟩ := hm.get i o x h h3
    refine ⟨h3, O, g1.mono k1, (hB _).2 ⟨g2, fun j o' y hj h4 h5 e => ?_⟩⟩
    have := hm.inj i j o o' x y h h4 h3 h5 e
    subst this
    exact c hj
   refine ⟨fun i o x h h2 => ?_, fun i j o o' x y h h' h2 h3 h4 => ?_, fun p hp => k3.frame p (hFB p hp), fun i o x h h2 p hp => ?_, fun i o h => ?_, fun i hi => k3.fresh i (by rw [hn1]; exact hi), fun i o h => ?_, k3.glb, fun i h => ?_⟩
   · rcases cases2 i o h with h | ⟨c, h⟩
     · exact k3.get i o x h h2
     · obtain ⟨_, O, g1, g2⟩ := beside i o x c h h2
       exact ⟨O, g1, k3.frame _ g2⟩
   · rcases cases2 i o h with h | ⟨c, h⟩
     · rcases cases2 j o' h' with h' | ⟨c', h'⟩
       · exact k3.inj i j o o' x y h h' h2 h3 h4
       · obtain ⟨_, O, g1, g2⟩ := beside j o' y c' h' h3
         exact absurd h4.symm (k3.apart i o x h h2 _ g2)
     · obtain ⟨q1, O, g1, g2⟩ := beside i o x c h h2
       rcases cases2 j o' h' with h' | ⟨c', h'⟩
       · exact absurd h4 (k3.apart j o' y h' h3 _ g2)
       · obtain ⟨q2, _⟩ := beside j o' y c' h' h3
         exact hm.inj i j o o' x y h h' q1 q2 h4
   · rcases cases2 i o h with h | ⟨c, h⟩
     · exact k3.apart i o x h h2 p (hFB p hp)
     · exact hm.apart i o x h (beside i o x c h h2).1 p hp
   · obtain ⟨g1, g2, g3⟩ := hm.ghost i o h
     have hnh : i < r.nx := by rw [hnx]; exact g3
     by_cases c : dom i
     · have hz : F1.z i = some o := by show (if dom i then F.z i else none) = _; rw [if_pos c]; exact h
       obtain ⟨q1, q2, q3⟩ := k3.ghost i o hz
       refine ⟨q1, ?_, by dsimp only; omega⟩
       show (uw r.h' (KK r.hw m.h)).get i = some o
       rw [hget]
       cases h1 : look r.h' i with
       | some o' =>
         have := qt t4 i _ h1
         rw [q2] at this
         rw [this]; rfl
       | none =>
         show (if (look r.hw i).isSome then none else m.h.get i) = some o
         cases h2 : look r.hw i with
         | none => exact g2
         | some o' =>
           exfalso
           have : ∃ p ∈ r.hw, p.1 = i := by
            clear f5 s2 t5 hr hk hkm hkd hdk hnew hget cases2
            revert h2
            generalize r.hw = l
            intro h2
            induction l with
            | nil => cases h2
            | cons p l ih =>
              rw [uk] at h2
              by_cases c : i = p.1
              · exact ⟨p, List.mem_cons_self .., c.symm⟩
              · rw [if_neg c] at h2
                obtain ⟨p', hp', e'⟩ := ih h2
                exact ⟨p', List.mem_cons_of_mem _ hp', e'⟩
           obtain ⟨p, hp, rfl⟩ := this
           have := kp t5 p hp
           rw [h1, q2] at this
           cases this
     · refine ⟨dead i g3 g1 (hz1 i c), ?_, by dsimp only; omega⟩
       show (uw r.h' (KK r.hw m.h)).get i = some o
       rw [hget]
       have h2 : look r.hw i = none := by
        cases h2 : look r.hw i with
        | none => rfl
        | some o' => exact absurd (Or.inl (by rw [h2]; rfl)) c
       have h1 : look r.h' i = none := by
        cases h1 : look r.h' i with
        | none => rfl
        | some o' =>
          exfalso
          have : ∃ p ∈ r.h', p.1 = i := by
           clear s3 t4 hr hnew hget cases2
           revert h1
           generalize r.h' = l
           intro h1
           induction l with
           | nil => cases h1
           | cons p l ih =>
             rw [uk] at h1
             by_cases c : i = p.1
             · exact ⟨p, List.mem_cons_self .., c.symm⟩
             · rw [if_neg c] at h1
               obtain ⟨p', hp', e'⟩ := ih h1
               exact ⟨p', List.mem_cons_of_mem _ hp', e'⟩
          obtain ⟨p, hp, rfl⟩ := this
          have := kp hnew p hp
          rw [h2] at this
          cases hb : Nat.ble r.nx p.1 with
          | false => rw [hb] at this; cases this
          | true => have := Nat.le_of_ble_eq_true hb; omega
       rw [h1, h2]
       exact g2
   · rcases cases2 i o h with h | ⟨c, h⟩
     · have := k3.below i o h; rw [hn1] at this; exact this
     · have := hm.below i o h; dsimp only; omega
   · obtain ⟨g1, g2, g3⟩ := hm.dead i h
     have hz : z1 i = none := by
      show (if dom i then F.z i else none) = none
      split
      · exact g2
      · rfl
     exact ⟨dead i g3 g1 hz, g2, by dsimp only; omega⟩
end
noncomputable def memoE (rows : List Row) (E : jU) : jU := fun i args m => List.rec (E i args m) (fun r _ ih => Bool.rec ih (r.out m) (r.fits i args m)) rows
theorem Ya {P : Program} {E : jU} (hE : jV P E) : ∀ {rows : List Row}, (∀ r ∈ rows, ∃ E0, jV P E0 ∧ r.okB E0 = true) → jV P (memoE rows E)
 | [], h => hE
 | r :: rows, h => by
   rename_i G i args m v m' σ As F L
   intro e hA hm
   have e : (Bool.rec (memoE rows E i args m) (r.out m) (r.fits i args m) : Option (AV × Mem)) = some (v, m') := e
   cases hf : r.fits i args m with
   | false =>
     rw [hf] at e
     exact Ya hE (fun r hr => h r (List.mem_cons_of_mem _ hr)) e hA hm
   | true =>
     rw [hf] at e
     obtain ⟨E0, h1, h2⟩ := h r (List.mem_cons_self ..)
     exact Row.ok h1 h2 hf e hA hm
noncomputable def funY (P : Program) (H : Nat → Nat) (k : Nat) (X : Own) (g : List Nat) (rows : List Row) (d : Nat) : jU := Nat.rec (fun _ _ _ => none) (fun _ ih i args m => Bool.rec (Option.rec (stepC P H (fun n c => codeE P ih n k c) i args m) (fun f => f ih args m) (X i)) (memoE rows (stepC P H (fun n c => codeE P ih n k c)) i args m) (hasN g i)) d
theorem aaw (P : Program) (kb : P.follows .mixedOrders = true) (H : Nat → Nat) (k : Nat) {X : Own} (hX : uD P X) {g : List Nat} {rows : List Row} (hrows : ∀ r ∈ rows, ∃ E0, jV P E0 ∧ r.okB E0 = true) : ∀ d : Nat, jV P (funY P H k X g rows d)
 | 0 => fun e => by cases e
 | d + 1 => by
   rename_i G i args m v m' σ As F L
   intro e hA hm
   have ih : jV P (funY P H k X g rows d) := aaw P kb H k hX hrows d
   have hstep : jV P (stepC P H fun n c => codeE P (funY P H k X g rows d) n k c) := fun e hA hm => QI (fun n c => ql kb ih c) e hA hm
   have e : (Bool.rec (Option.rec (stepC P H (fun n c => codeE P (funY P H k X g rows d) n k c) i args m) (fun f => f (funY P H k X g rows d) args m) (X i)) (memoE rows (stepC P H (fun n c => codeE P (funY P H k X g rows d) n k c)) i args m) (hasN g i) : Option (AV × Mem)) = some (v, m') := e
   cases hb : hasN g i with
   | true => rw [hb] at e; exact Ya hstep hrows e hA hm
   | false =>
     rw [hb] at e
     cases hx : X i with
     | none => rw [hx] at e; exact hstep e hA hm
     | some f => rw [hx] at e; exact hX i f hx _ ih e hA hm
end Go.Proofs.YtgjlbilcnlffgaaGreatDoor.Ev
namespace Go.Proofs.YtgjlbilcnlffgaaGreatDoor.Ev
open Go
def hdN : List Nat → Nat
 | [] => 0
 | x :: _ => x
def tlN : List Nat → List Nat
 | [] => []
 | _ :: l => l
def afO (n : Nat) : IntKind := Nat.rec .i8 (fun n _ => Nat.rec .i16 (fun n _ => Nat.rec .i32 (fun n _ => Nat.rec .i64 (fun n _ => Nat.rec .u8 (fun n _ => Nat.rec .u16 (fun n _ => Nat.rec .u32 (fun _ _ => .u64) n) n) n) n) n) n) n
noncomputable def repN {α : Type} (n : Nat) (x : α) (l : List α) : List α := Nat.rec l (fun _ ih => x :: ih) n
noncomputable def decL (d : List Nat → AV × List Nat) (n : Nat) : List Nat → List AV × List Nat := Nat.rec (motive := fun _ => List Nat → List AV × List Nat) (fun l => ([], l))
 (fun _ ih l => Bool.rec
   ((fun q => (fun r => (q.1 :: r.1, r.2)) (ih q.2)) (d l))
   ((fun q => (fun r => (repN (hdN (tlN l)) q.1 r.1, r.2)) (ih q.2)) (d (tlN (tlN l)))) (Nat.beq (hdN l) 30)) n
noncomputable def pickN {α : Type} (n : Nat) (x : α) (l : List α) : α := Option.rec x (fun y => y) (nth l n)
noncomputable def decV (f : Nat) : List Nat → AV × List Nat := Nat.rec (motive := fun _ => List Nat → AV × List Nat) (fun l => (.und, l))
 (fun _ ih l => (fun t r => pickN t (AV.und, r) [(.bool false, r), (.bool true, r), (.int (afO (hdN r)) (.ofNat (hdN (tlN r))), tlN (tlN r)), (.int (afO (hdN r)) (.negSucc (hdN (tlN r))), tlN (tlN r)),
   (.str (List.take (hdN r) (tlN r)), List.drop (hdN r) (tlN r)), (.ptr0, r), (.ptr (hdN r) (hdN (tlN r)), tlN (tlN r)), (.slc0 (hdN r), tlN r),
   (.slc (hdN r) (hdN (tlN r)) (hdN (tlN (tlN r))) (.num (hdN (tlN (tlN (tlN r))))), tlN (tlN (tlN (tlN r)))), (.slc (hdN r) (hdN (tlN r)) (hdN (tlN (tlN r))) (.rest (hdN (tlN (tlN (tlN r))))), tlN (tlN (tlN (tlN r)))),
   (.slcE, r), (.mp0, r), (.mp (hdN r), tlN r), ((fun q => (.fn (hdN r) q.1, q.2)) (decL ih (hdN (tlN r)) (tlN (tlN r)))), (.nilFn, r), ((fun q => (.ifc (hdN r) q.1, q.2)) (ih (tlN r))), (.nilI, r),
   ((fun q => (.agg q.1, q.2)) (decL ih (hdN r) (tlN r))), ((fun q => (.tup q.1, q.2)) (decL ih (hdN r) (tlN r))), (.und, r),
   (.int .i64 (.ofNat (hdN r)), tlN r), (.int .u16 (.ofNat (hdN r)), tlN r), (.int .u8 (.ofNat (hdN r)), tlN r), (.ptrK (hdN r), tlN r)]) (hdN l) (tlN l)) f
noncomputable def decP (n : Nat) : List Nat → List (AV × AV) × List Nat := Nat.rec (motive := fun _ => List Nat → List (AV × AV) × List Nat) (fun l => ([], l))
 (fun _ ih l => (fun a => (fun b => (fun r => ((a.1, b.1) :: r.1, r.2)) (ih b.2)) (decV 20 a.2)) (decV 20 l)) n
noncomputable def decO (l : List Nat) : AO × List Nat := (fun t r => pickN t (AO.it 0, r) [
 ((fun q => (.cells q.1 (hdN q.2), tlN q.2)) (decL (decV 20) (hdN r) (tlN r))),
 ((fun q => (.row q.1 (hdN q.2) (hdN (tlN q.2)) (hdN (tlN (tlN q.2))) (hdN (tlN (tlN (tlN q.2)))), tlN (tlN (tlN (tlN q.2))))) (decL (decV 20) (hdN r) (tlN r))),
 ((fun q => (.rowF q.1 (hdN q.2) (hdN (tlN q.2)), tlN (tlN q.2))) (decL (decV 20) (hdN r) (tlN r))),
 ((fun q => (.map q.1, q.2)) (decP (hdN r) (tlN r))),
 (.it (hdN r), tlN r)]) (hdN l) (tlN l)
noncomputable def decH (n : Nat) : List Nat → List (Nat × AO) × List Nat := Nat.rec (motive := fun _ => List Nat → List (Nat × AO) × List Nat) (fun l => ([], l))
 (fun _ ih l => (fun o => (fun r => ((hdN l, o.1) :: r.1, r.2)) (ih o.2)) (decO (tlN l))) n
noncomputable def rowN (l : List Nat) : Row := (fun a => (fun r => (fun w => (fun v => (fun h => ⟨hdN l, a.1, hdN a.2, r.1, w.1, v.1, hdN v.2, h.1⟩) (decH (hdN (tlN v.2)) (tlN (tlN v.2)))) (decV 20 w.2)) (decH (hdN r.2) (tlN r.2))) (decH (hdN (tlN a.2)) (tlN (tlN a.2)))) (decL (decV 20) (hdN (tlN l)) (tlN (tlN l)))
end Go.Proofs.YtgjlbilcnlffgaaGreatDoor.Ev
namespace Go.Proofs.YtgjlbilcnlffgaaGreatDoor.Ev
open Go
noncomputable def ownM (P : Program) (H : Nat → Nat) (Z : jU → VG) (l : List Nat) (X : Own) : Own := fun i => Bool.rec (X i) (some (markF P H Z i)) (hasN l i)
theorem afc {P : Program} (kb : P.follows .mixedOrders = true) (H : Nat → Nat) {Z : jU → VG} (hZ : ∀ E, jV P E → Kg P (Z E)) (l : List Nat) {X : Own} (hX : uD P X) : uD P (ownM P H Z l X) := by
 intro i f hx E hE G args m v m' σ As F L e hA hm
 unfold ownM at hx
 cases hb : hasN l i with
 | false => rw [hb] at hx; exact hX i f hx E hE e hA hm
 | true =>
   rw [hb] at hx
   cases hx
   exact ade kb hE (hZ E hE) e hA hm
end Go.Proofs.YtgjlbilcnlffgaaGreatDoor.Ev
namespace Go.Proofs.YtgjlbilcnlffgaaGreatDoor.Ev
open Go
def aax (p : AV) (i : Nat) : Bool := match p with
 | .ptr0 => true
 | .ptr j 0 => Nat.beq j i
 | _ => false
theorem Yd {p : AV} {i : Nat} {σ : Sg} {V : Value} {y : Nat × Nat} (h : aax p i = true) (hy : σ i = some y) (hv : Den σ p V) : V = .pointer none ∨ V = .pointer (some ⟨y.1, 0, none⟩) := by
 unfold aax at h
 split at h
 · left
   simpa [Den] using hv
 · rename_i j
   obtain rfl := Nat.eq_of_beq_eq_true h
   simp only [Den] at hv
   obtain ⟨z, hz, rfl⟩ := hv
   rw [hy] at hz
   cases hz
   exact Or.inr rfl
 · cases h
noncomputable def chkA (tb : Nat) (args : List AV) (m : Mem) : Option (AV × Mem) := match args with
 | [.ptr i 0] => ob (m.h.get i) fun o => match o with
   | .cells [p, v] e => bo (Nat.beq e tb) (bo (aax p i) (bo (Nat.blt (Nat.succ i) 1000000) (Tr.setK 20 m.h i (.cells [.ptr i 0, v] e) fun h => some (.und, ⟨h, m.nx⟩))))
   | _ => none
 | _ => none
noncomputable def u8K {β : Type} (v : AV) (f : Nat → Option β) : Option β := match v with
 | .int .u8 (.ofNat b) => f b
 | _ => none
theorem adh {β : Type} {v : AV} {f : Nat → Option β} {r : β} (h : u8K v f = some r) : ∃ b, v = .int .u8 (.ofNat b) ∧ f b = some r := by
 unfold u8K at h
 split at h
 · exact ⟨_, rfl, h⟩
 · cases h
noncomputable def u8s (l : List AV) : Option (List Nat) := List.rec (some []) (fun v _ ih => u8K v fun b => bo (Nat.blt b 256) (ob ih fun r => some (b :: r))) l
theorem ZA {σ : Sg} : ∀ {l : List AV} {r : List Nat} {Ls : List Value}, u8s l = some r → DenL σ l Ls → (∀ b ∈ r, b < 256) ∧ Ls = (r.map UInt8.ofNat).map fun c => Value.int .u8 (c.toNat : Int)
 | [], r, Ls, e, h => by
   cases e
   obtain rfl := h.inv0
   exact ⟨by simp, rfl⟩
 | v :: l, r, Ls, e, h => by
   obtain ⟨b, rfl, e1⟩ := adh (show u8K v (fun b => bo (Nat.blt b 256) (ob (u8s l) fun r => some (b :: r))) = some r from e)
   obtain ⟨hb, e2⟩ := je e1
   obtain ⟨r', hr, e3⟩ := jd e2
   cases e3
   have hb : b < 256 := by simpa using hb
   obtain ⟨V, M, rfl, h1, h2⟩ := h.inv
   obtain ⟨k1, rfl⟩ := ZA hr h2
   obtain rfl : V = .int .u8 (Int.ofNat b) := by simpa [Den] using h1
   refine ⟨fun x hx => ?_, ?_⟩
   · rcases List.mem_cons.1 hx with rfl | hx
     · exact hb
     · exact k1 x hx
   · rw [List.map_cons, List.map_cons]
     congr 2
     show (b : Int) = ((UInt8.ofNat b).toNat : Int)
     congr 1
     simp
     omega
noncomputable def rowB (o : AO) (te n : Nat) : Option (List Nat) := match o with
 | .row l k e sz _ => bo (Nat.beq e te) (bo (Nat.beq k n) (bo (Nat.beq sz 1) (u8s l)))
 | .rowF l k e => bo (Nat.beq e te) (bo (Nat.beq k n) (u8s l))
 | _ => none
noncomputable def strA (tb te : Nat) (args : List AV) (m : Mem) : Option (AV × Mem) := match args with
 | [.ptr i 0] => ob (m.h.get i) fun o => match o with
   | .cells [p, .slc j 0 n (.rest 0)] e => bo (Nat.beq e tb) (bo (aax p i) (bo (Nat.blt 0 n) (bo (notB (Nat.beq i j)) (ob (m.h.get j) fun q => ob (rowB q te n) fun l => delK m i fun m => delK m j fun m => some (.str l, m)))))
   | _ => none
 | _ => none
section
variable {P : Program} {G : World} {F : Fm} {σ : Sg} {L : ja}
theorem afd {f tb : Nat} (hspec : ∀ {G : World} {L : ja} (b : Nat) (p v : Value), p = .pointer none ∨ p = .pointer (some ⟨b, 0, none⟩) → Spec P G f #[.pointer (some ⟨b, 0, none⟩)] ((b, .cells #[p, v] tb (0, 0)) :: L) fun u M => M = (b, .cells #[.pointer (some ⟨b, 0, none⟩), v] tb (0, 0)) :: L)
 {args : List AV} {m m' : Mem} {r : AV} {As : List Value} (e : chkA tb args m = some (r, m')) (hA : DenL σ args As) (hm : MemR σ m F L) : Spec P G f As.toArray L (kB σ r m' F) := by
 unfold chkA at e
 split at e
 · rename_i i
   obtain ⟨o, ho, e⟩ := jd e
   split at e
   · rename_i p v te
     obtain ⟨h1, e⟩ := je e
     obtain ⟨h2, e⟩ := je e
     obtain ⟨h3, e⟩ := je e
     rw [Tr.setK_eq] at e
     cases e
     obtain rfl := Nat.eq_of_beq_eq_true h1
     have h3 : i + 1 < 1000000 := Eq.mp Nat.blt_eq h3
     obtain ⟨A, _, rfl, a1, a2⟩ := hA.inv
     obtain rfl := a2.inv0
     simp only [Den] at a1
     obtain ⟨y, hy, rfl⟩ := a1
     obtain ⟨O, ⟨Ls, hL, rfl⟩, h4⟩ := hm.get i _ y ho hy
     obtain ⟨B, _, rfl, b1, b2⟩ := hL.inv
     obtain ⟨C, _, rfl, c1, c2⟩ := b2.inv
     obtain rfl := c2.inv0
     obtain ⟨s, t, rfl⟩ := List.append_of_mem h4
     have hp : (s ++ (y.1, Obj.cells [B, C].toArray te (0, 0)) :: t).Perm ((y.1, Obj.cells [B, C].toArray te (0, 0)) :: (s ++ t)) := List.perm_middle
     refine ⟨fun w hw => Calls.mono ((hspec y.1 B C (Yd h2 hy b1)).out w (hw.perm hp)) fun e w' hh => ?_⟩
     obtain ⟨u, M, rfl, rfl, k3⟩ := hh
     refine ⟨u, _, rfl, ⟨σ, σ.le_refl, by simp [Den], hm.write ho hy hp (by omega) ⟨[.pointer (some ⟨y.1, 0, none⟩), C], .cons ?_ (.cons c1 .nil), rfl⟩⟩, k3⟩
     simp only [Den]
     exact ⟨y, hy, rfl⟩
   · cases e
 · cases e
theorem afe {o : AO} {te n κ : Nat} {l : List Nat} {O : Obj} (e : rowB o te n = some l) (h : DenO σ κ o O) : (∀ b ∈ l, b < 256) ∧ l.length = n ∧ ∃ cur fr, O = .cells cur te fr ∧ n ≤ κ ∧ κ ≤ maxLen ∧ cur.size = κ ∧ cur.toList.take n = (l.map UInt8.ofNat).map fun c => Value.int .u8 (c.toNat : Int) := by
 unfold rowB at e
 split at e
 · obtain ⟨h1, e1⟩ := je e
   obtain ⟨h2, e2⟩ := je e1
   obtain ⟨h3, e3⟩ := je e2
   obtain rfl := Nat.eq_of_beq_eq_true h1
   obtain rfl := Nat.eq_of_beq_eq_true h2
   obtain rfl := Nat.eq_of_beq_eq_true h3
   obtain ⟨Ls, cur, q1, rfl, q2, q3, q4, q5, q6, q7⟩ := h
   have hl := q1.length
   obtain ⟨k1, rfl⟩ := ZA e3 q1
   simp only [List.length_map] at hl
   exact ⟨k1, by omega, cur, _, rfl, q3, q5, by omega, by rw [Nat.mul_one] at q7; exact q7⟩
 · obtain ⟨h1, e1⟩ := je e
   obtain ⟨h2, e2⟩ := je e1
   obtain rfl := Nat.eq_of_beq_eq_true h1
   obtain rfl := Nat.eq_of_beq_eq_true h2
   obtain ⟨Ls, cur, fr, q1, rfl, q2, q3, q4, q5, q6, q7⟩ := h
   have hl := q1.length
   obtain ⟨k1, rfl⟩ := ZA e2 q1
   simp only [List.length_map] at hl
   exact ⟨k1, by omega, cur, fr, rfl, q3, q4, q5, q6⟩
 · cases e
theorem aff {f tb te : Nat} (hspec : ∀ {G : World} {L : ja} (b g cap : Nat) (p : Value) (l : List UInt8) (cur : Array Value) (fr : Nat × Nat), p = .pointer none ∨ p = .pointer (some ⟨b, 0, none⟩) → l ≠ [] → l.length ≤ cap → cap ≤ maxLen → cur.size = cap → cur.toList.take l.length = (l.map fun c => Value.int .u8 (c.toNat : Int)) →
 Spec P G f #[.pointer (some ⟨b, 0, none⟩)] ((b, .cells #[p, .slice (some ⟨g, 0, none⟩) l.length cap] tb (0, 0)) :: (g, .cells cur te fr) :: L) fun u M => u = .string (bs l) ∧ M = L)
 {args : List AV} {m m' : Mem} {r : AV} {As : List Value} (e : strA tb te args m = some (r, m')) (hA : DenL σ args As) (hm : MemR σ m F L) : Spec P G f As.toArray L (kB σ r m' F) := by
 unfold strA at e
 split at e
 · rename_i i
   obtain ⟨o, ho, e⟩ := jd e
   split at e
   · rename_i p j n tb'
     obtain ⟨h1, e⟩ := je e
     obtain ⟨h2, e⟩ := je e
     obtain ⟨h3, e⟩ := je e
     obtain ⟨hij, e⟩ := je e
     obtain ⟨q, hq, e⟩ := jd e
     obtain ⟨l, hl, e⟩ := jd e
     obtain ⟨hi, e⟩ := yS e
     obtain ⟨hj, e⟩ := yS e
     cases e
     obtain rfl := Nat.eq_of_beq_eq_true h1
     have hne : j ≠ i := fun h => by
      rw [uC, h, Nat.beq_refl] at hij
      cases hij
     have h3 : 0 < n := Eq.mp Nat.blt_eq h3
     obtain ⟨A, _, rfl, a1, a2⟩ := hA.inv
     obtain rfl := a2.inv0
     simp only [Den] at a1
     obtain ⟨y, hy, rfl⟩ := a1
     obtain ⟨O, ⟨Ls, hL, rfl⟩, h4⟩ := hm.get i _ y ho hy
     obtain ⟨B, _, rfl, b1, b2⟩ := hL.inv
     obtain ⟨C, _, rfl, c1, c2⟩ := b2.inv
     obtain rfl := c2.inv0
     simp only [Den] at c1
     obtain ⟨z, hz, rfl⟩ := c1
     obtain ⟨s, t, hst⟩ := List.append_of_mem h4
     have hp : L.Perm ((y.1, Obj.cells [B, .slice (some ⟨z.1, 0, none⟩) n (Cp.of z.2 (.rest 0))].toArray tb' (0, 0)) :: (s ++ t)) := by rw [hst]; exact List.perm_middle
     have hm1 := hm.drop ho hy hp (by omega)
     have hq1 : (Tr.del 20 m.h i).get j = some q := by rw [Tr.get_del _ _ _ (by omega), if_neg hne]; exact hq
     obtain ⟨O2, d1, d2⟩ := hm1.get j _ z hq1 hz
     obtain ⟨r1, r2, cur, fr, rfl, r3, r4, r5, r6⟩ := afe hl d1
     obtain ⟨s2, t2, hst2⟩ := List.append_of_mem d2
     have hp2 : (s ++ t).Perm ((z.1, Obj.cells cur te fr) :: (s2 ++ t2)) := by rw [hst2]; exact List.perm_middle
     have hm2 := hm1.drop hq1 hz hp2 (by omega)
     have hlen : (l.map UInt8.ofNat).length = n := by rw [List.length_map, r2]
     refine ⟨fun w hw => ?_⟩
     have hw2 := hw.perm (hp.trans (hp2.cons _))
     have hsp := hspec (G := G) (L := s2 ++ t2) y.1 z.1 z.2 B (l.map UInt8.ofNat) cur fr (Yd h2 hy b1) (fun h0 => by rw [h0] at hlen; simp at hlen; omega) (by omega) r4 r5 (by rw [hlen]; exact r6)
     rw [hlen] at hsp
     refine Calls.mono (hsp.out w hw2) fun e w' hh => ?_
     obtain ⟨u, M, rfl, ⟨rfl, rfl⟩, k3⟩ := hh
     refine ⟨_, _, rfl, ⟨σ, σ.le_refl, ?_, hm2⟩, k3⟩
     simp only [Den]
     exact ⟨r1, rfl⟩
   · cases e
 · cases e
noncomputable def ownB (tb te fc fs : Nat) (X : Own) : Own := fun i => Bool.rec (Bool.rec (X i) (some fun _ => strA tb te) (Nat.beq i fs)) (some fun _ => chkA tb) (Nat.beq i fc)
theorem afg {tb te fc fs : Nat} {X : Own} (hX : uD P X)
 (h1 : ∀ {G : World} {L : ja} (b : Nat) (p v : Value), p = .pointer none ∨ p = .pointer (some ⟨b, 0, none⟩) → Spec P G fc #[.pointer (some ⟨b, 0, none⟩)] ((b, .cells #[p, v] tb (0, 0)) :: L) fun u M => M = (b, .cells #[.pointer (some ⟨b, 0, none⟩), v] tb (0, 0)) :: L)
 (h2 : ∀ {G : World} {L : ja} (b g cap : Nat) (p : Value) (l : List UInt8) (cur : Array Value) (fr : Nat × Nat), p = .pointer none ∨ p = .pointer (some ⟨b, 0, none⟩) → l ≠ [] → l.length ≤ cap → cap ≤ maxLen → cur.size = cap → cur.toList.take l.length = (l.map fun c => Value.int .u8 (c.toNat : Int)) →
   Spec P G fs #[.pointer (some ⟨b, 0, none⟩)] ((b, .cells #[p, .slice (some ⟨g, 0, none⟩) l.length cap] tb (0, 0)) :: (g, .cells cur te fr) :: L) fun u M => u = .string (bs l) ∧ M = L) : uD P (ownB tb te fc fs X) := by
 intro i f hx E hE G args m v m' σ As F L e hA hm
 unfold ownB at hx
 cases hb : Nat.beq i fc with
 | true =>
   rw [hb] at hx
   cases hx
   obtain rfl := Nat.eq_of_beq_eq_true hb
   exact afd h1 e hA hm
 | false =>
   rw [hb] at hx
   cases hb2 : Nat.beq i fs with
   | true =>
     rw [hb2] at hx
     cases hx
     obtain rfl := Nat.eq_of_beq_eq_true hb2
     exact aff h2 e hA hm
   | false =>
     rw [hb2] at hx
     exact hX i f hx E hE e hA hm
end
end Go.Proofs.YtgjlbilcnlffgaaGreatDoor.Ev
namespace Go.Proofs.YtgjlbilcnlffgaaGreatDoor.Ev
open Go
noncomputable def cloneS (args : List AV) (m : Mem) : Option (AV × Mem) := match args with
 | [.str l] => Bool.rec (bo (Nat.ble (lenN l) 1000) (some (.str l, ⟨m.h, Nat.succ m.nx⟩))) (some (.str l, m)) (Nat.beq (lenN l) 0)
 | _ => none
noncomputable def ownS (fc : Nat) (X : Own) : Own := fun i => Bool.rec (X i) (some fun _ => cloneS) (Nat.beq i fc)
theorem MemR.next {σ : Sg} {m : Mem} {F : Fm} {L : ja} (h : MemR σ m F L) : MemR σ ⟨m.h, Nat.succ m.nx⟩ F L :=
 ⟨h.get, h.inj, h.frame, h.apart, fun i o e => ⟨(h.ghost i o e).1, (h.ghost i o e).2.1, Nat.lt_succ_of_lt (h.ghost i o e).2.2⟩, fun i hi => h.fresh i (Nat.le_of_succ_le hi), fun i o e => Nat.lt_succ_of_lt (h.below i o e), h.glb, fun i hi => ⟨(h.dead i hi).1, (h.dead i hi).2.1, Nat.lt_succ_of_lt (h.dead i hi).2.2⟩⟩
theorem afh {P : Program} {fc : Nat} {X : Own} (hX : uD P X)
 (hC : ∀ {G : World} {L : ja} (l : List UInt8), l ≠ [] → l.length ≤ 1000 → Spec P G fc #[.string (bs l)] L fun u M => u = .string (bs l) ∧ M = L)
 (hC0 : ∀ {G : World} {L : ja}, Spec P G fc #[.string (bs [])] L fun u M => u = .string (bs []) ∧ M = L) : uD P (ownS fc X) := by
 intro i f hx E hE G args m v m' σ As F L e hA hm
 unfold ownS at hx
 cases hb : Nat.beq i fc with
 | false => rw [hb] at hx; exact hX i f hx E hE e hA hm
 | true =>
   rw [hb] at hx
   cases hx
   obtain rfl := Nat.eq_of_beq_eq_true hb
   have e : cloneS args m = some (v, m') := e
   unfold cloneS at e
   split at e
   · rename_i l _
     cases hz : Nat.beq (lenN l) 0 with
     | true =>
       rw [hz] at e
       cases e
       have hz := Nat.eq_of_beq_eq_true hz
       rw [jP] at hz
       obtain rfl := List.eq_nil_of_length_eq_zero hz
       obtain ⟨V, _, rfl, k1, k2⟩ := hA.inv
       obtain rfl := k2.inv0
       have k1' := k1
       simp only [Den] at k1
       obtain ⟨hl, rfl⟩ := k1
       refine ⟨fun w hw => ((hC0 (G := G) (L := L)).out w hw).mono fun e w' hh => ?_⟩
       obtain ⟨u, M, he, ⟨rfl, rfl⟩, hM⟩ := hh
       exact ⟨_, _, he, ⟨σ, σ.le_refl, k1', hm⟩, hM⟩
     | false =>
     rw [hz] at e
     obtain ⟨h2, e⟩ := je e
     cases e
     have h1 : lenN l ≠ 0 := fun h => by rw [h] at hz; cases hz
     have h2 := Nat.le_of_ble_eq_true h2
     rw [jP] at h1 h2
     obtain ⟨V, _, rfl, k1, k2⟩ := hA.inv
     obtain rfl := k2.inv0
     have k1' := k1
     simp only [Den] at k1
     obtain ⟨hl, rfl⟩ := k1
     refine ⟨fun w hw => ((hC (G := G) (L := L) (l.map UInt8.ofNat) (fun h => ?_) (by simpa using h2)).out w hw).mono fun e w' hh => ?_⟩
     · rw [List.map_eq_nil_iff] at h
       subst h
       exact h1 rfl
     · obtain ⟨u, M, he, ⟨rfl, rfl⟩, hM⟩ := hh
       exact ⟨_, _, he, ⟨σ, σ.le_refl, k1', hm.next⟩, hM⟩
   · cases e
end Go.Proofs.YtgjlbilcnlffgaaGreatDoor.Ev
namespace Go.Proofs.YtgjlbilcnlffgaaGreatDoor
open Go.RowKit
section
variable {G : World} {P : Program} {n : Nat} {ρ : jh} {L : ja} {ty : TypeId} {Q : Exit → Act → World → Prop}
theorem ZB {t e : TypeId} {j : TypeInfo} {a : Addr} (hp : P.underlying t = some (.pointer e)) (he : P.info? e = some j) : Bin P .neq t (.pointer (some a)) (.pointer (some a)) (.bool false) := ⟨fun x y w => by
 simp only [eqGuard]
 simpa using Lib.run_neq_ptr_same w a hp he⟩
theorem Has.shapeY {w : World} {b : Nat} {C : Array Value} {e : TypeId} {fr : Nat × Nat} (h : Has w L) (hm : (b, Obj.cells C e fr) ∈ L) : w.shape? b = some (e, C.size) := by
 unfold World.shape?; rw [h.get _ hm]
theorem Uj {s d t : TypeId} {x : Operand} {j : TypeInfo} {b off : Nat} {C : Array Value} {te : TypeId} {fr : Nat × Nat} (hx : ev ρ x = some (.pointer (some ⟨b, off, none⟩))) (hs : P.underlying s = some (.pointer t)) (hd : P.underlying d = some .unsafePointer)
 (ht : P.info? t = some j) (hj : Nat.beq j.size 0 = false) (hm : (b, Obj.cells C te fr) ∈ L) (ho : off < C.size) : OpQ P ρ L (.convert s d x) ty (.pointer (some ⟨b, off, none⟩)) :=
 ⟨fun r hr w hw o ho' _ => by
   simp only [execOp, ho', hr _ _ hx]
   rw [Sem.run_bind, Lib.run_to_unsafe w ⟨b, off, none⟩ hs hd ht (Nat.ne_of_beq_eq_false hj) (hw.shapeY hm) ho]
   rfl⟩
theorem KU {s d u : TypeId} {x : Operand} {j : TypeInfo} {b off : Nat} {C : Array Value} {te : TypeId} {fr : Nat × Nat} (hx : ev ρ x = some (.pointer (some ⟨b, off, none⟩))) (hs : P.underlying s = some .unsafePointer) (hd : P.underlying d = some (.pointer u))
 (hu : P.info? u = some j) (hm : (b, Obj.cells C te fr) ∈ L) (hl : liesAt P P.depth te (C.size / P.cellsOf te) off u 1 = true) : OpQ P ρ L (.convert s d x) ty (.pointer (some ⟨b, off, none⟩)) :=
 ⟨fun r hr w hw o ho' _ => by
   simp only [execOp, ho', hr _ _ hx]
   rw [Sem.run_bind, Lib.run_from_unsafe w ⟨b, off, none⟩ hs hd hu (hw.shapeY hm) hl]
   rfl⟩
theorem VI {f : FuncId} {fn : Func} {x : Operand} {ats : Array TypeId} {v : Value} (hx : ev ρ x = some v) (hf : P.funcs[f]? = some fn) (hname : (fn.name == "runtime.NumGoroutine") = false) (hb : fn.body.isNone = true) (hn : Extern.findNext fn = none) (he : Extern.find fn = some Extern.AbiNoEscape.same) :
 OpQ P ρ L (.call ⟨.value (.func f), #[x], ats⟩) ty v :=
 ⟨fun r hr w hw o ho _ => by
   have hrf : r (.func f) = .func (.func f) #[] #[] := hr _ _ rfl
   have : execOp r o = callFunc f #[v] := by
    simp only [execOp, ho, resolve, hrf, Deferred.ofValue]
    show invoke (.fn (.func f) #[]) _ = _
    simp [invoke, hr _ _ hx]
   rw [this, run_callFunc_extern hf hname hb hn he, Lib.run_noEscape]
   rfl⟩
theorem Uk {x : Operand} {t : TypeId} {g m c : Nat} (hx : ev ρ x = some (.slice (some ⟨g, 0, none⟩) m c)) (hc : c ≠ 0) : OpQ P ρ L (.call ⟨.builtin .unsafeSliceData, #[x], #[t]⟩) ty (.pointer (some ⟨g, 0, none⟩)) :=
 ⟨fun r hr w hw o ho _ => by simp [execOp, ho, hr _ _ hx, resolve, invoke, builtin, Lib.run_unsafeSliceData_row w _ _ _ _ _ hc]⟩
theorem uR {x y : Operand} {pt it e : TypeId} {g cap : Nat} {cur : Array Value} {fr : Nat × Nat} {l : List UInt8} (hx : ev ρ x = some (.pointer (some ⟨g, 0, none⟩))) (hy : ev ρ y = some (.int .i64 (l.length : Nat))) (hp : P.underlying pt = some (.pointer e)) (hc : P.cellsOf e = 1)
 (h0 : l ≠ []) (hn : l.length ≤ cap) (hcap : cap ≤ maxLen) (hsz : cur.size = cap) (hcells : ∀ (j : Nat) (c : UInt8), l[j]? = some c → cur[j]? = some (Value.int .u8 (c.toNat : Int))) :
 OpV P G ρ ((g, .cells cur e fr) :: L) (.call ⟨.builtin .unsafeString, #[x, y], #[pt, it]⟩) ty (.string (bs l)) L :=
 .run fun r hr w hw o ho _ => by
  have hm := List.mem_cons_self (a := (g, Obj.cells cur e fr)) (l := L)
  have hrun := Lib.run_unsafeString_row (P := P) w pt it o.type e hp hc g cur.size (hw.has.shapeY hm) l h0 jp (by unfold maxLen at hcap; omega) (fun j c hj => by rw [ku, Nat.zero_add]; exact hw.cell hm (hcells j c hj))
  refine ⟨w.freeze ⟨g, 0, none⟩ l.length, ?_, ?_⟩
  · simp [execOp, ho, hr _ _ hx, hr _ _ hy, resolve, invoke, builtin, hrun]
    rfl
  · refine ⟨hw.still.trans ?_, hw.tail.nodup, fun p hp => ?_⟩
    · unfold World.freeze
      split
      · exact Still.refl _
      · exact ⟨rfl, rfl, rfl, by simp⟩
    · have hne : p.1 ≠ g := hw.ne hp
      unfold World.freeze
      split
      · exact hw.tail.get p hp
      · show (w.heap.modify g _)[p.1]? = _
        rw [Array.getElem?_modify, if_neg (Ne.symm hne)]
        exact hw.tail.get p hp
end
theorem Ul : liesAt Tryz.prog Tryz.prog.depth 80 (2 / Tryz.prog.cellsOf 80) 0 80 1 = true := by kernel_rfl
theorem KL : Tryz.prog.cellsOf 5 = 1 := by kernel_rfl
theorem Um : (Tryz.prog.info? 80).map (fun i => Nat.beq i.size 0) = some false := by kernel_rfl
theorem KV {G : World} {L : ja} (b : Nat) (p v : Value) (hp : p = .pointer none ∨ p = .pointer (some ⟨b, 0, none⟩)) :
 Spec Tryz.prog G 57 #[.pointer (some ⟨b, 0, none⟩)] ((b, .cells #[p, v] 80 (0, 0)) :: L) fun u M => M = (b, .cells #[.pointer (some ⟨b, 0, none⟩), v] 80 (0, 0)) :: L := by
 obtain ⟨j, hj, hj0⟩ : ∃ j, Tryz.prog.info? 80 = some j ∧ Nat.beq j.size 0 = false := by
  have := Um
  cases h : Tryz.prog.info? 80 with
  | none => rw [h] at this; cases this
  | some j => rw [h] at this; exact ⟨j, rfl, Option.some.inj this⟩
 rcases hp with rfl | rfl
 · refine jw (n := 20) Tryz.func57 rfl rfl rfl ?_
   refine goC ?_
   refine jm (Uj rfl unO Tryz.underlying144 hj hj0 (List.mem_cons_self ..) (by simp)) rfl ?_
   refine jm (VI rfl Tryz.func88 rfl rfl rfl rfl) rfl ?_
   refine jm (KU rfl Tryz.underlying144 unO hj (List.mem_cons_self ..) Ul) rfl ?_
   refine goC ?_
   refine qN rfl ?_
   rfl
 · refine jw (n := 20) Tryz.func57 rfl rfl rfl ?_
   refine goC ?_
   refine jm (qp rfl rfl (ZB unO hj)) rfl ?_
   refine goC ?_
   refine qN rfl ?_
   rfl
theorem VJ {G : World} {L : ja} (b g cap : Nat) (p : Value) (l : List UInt8) (cur : Array Value) (fr : Nat × Nat) (hp : p = .pointer none ∨ p = .pointer (some ⟨b, 0, none⟩)) (h0 : l ≠ []) (h3 : l.length ≤ cap) (h4 : cap ≤ maxLen) (h5 : cur.size = cap) (h6 : cur.toList.take l.length = (l.map fun c => Value.int .u8 (c.toNat : Int))) :
 Spec Tryz.prog G 33 #[.pointer (some ⟨b, 0, none⟩)] ((b, .cells #[p, .slice (some ⟨g, 0, none⟩) l.length cap] 80 (0, 0)) :: (g, .cells cur 5 fr) :: L) fun u M => u = .string (bs l) ∧ M = L := by
 have hl0 : l.length ≠ 0 := by simpa using h0
 refine jw (n := 14) Tryz.func33 rfl rfl rfl ?_
 refine goC ?_
 refine kQ jx ([(b, .cells #[p, .slice (some ⟨g, 0, none⟩) l.length cap] 80 (0, 0))]) [] ?_
 refine tkQ 0 ?_
 refine tkQ 1 ?_
 refine tkQ 2 ?_
 refine tkQ 3 ?_
 first | (refine' jS 4 rfl rfl jf (qL (Uk rfl jp)) ?_ ?_; (· first | assumption | (intro p hp; grind)))
 refine tkQ 5 ?_
 refine tkQ 6 ?_
 refine tkQ 7 ?_
 refine tkQ 8 ?_
 refine tkQ 9 ?_
 refine qM (List.Perm.swap _ _ _) (uc 10 jf rfl rfl rfl rfl (uR rfl rfl unO KL h0 h3 h4 h5 ?_) ?_); (· intro j c hj; have hjl := (List.getElem?_eq_some_iff.1 hj).1; have : (cur.toList.take l.length)[j]? = some (Value.int .u8 (c.toNat : Int)) := (by rw [h6, List.getElem?_map, hj]; rfl); rw [List.getElem?_take_of_lt jp] at this; simpa using this); rintro _ _ ⟨rfl, rfl⟩; refine ⟨Or.inr (by first | assumption | (intro p hp; grind)), ?_⟩
 refine tkQ 11 ?_
 refine tdQ ?_
 refine goC ?_
 refine jr (fun w h => h.tail) ?_
 refine jq 2 _ rfl rfl ?_
 exact ⟨rfl, rfl⟩
end Go.Proofs.YtgjlbilcnlffgaaGreatDoor
namespace Go.Proofs.YtgjlbilcnlffgaaGreatDoor
open Go.RowKit
theorem abH {C : Array Value} {l : List Value} (h : C.size = l.length) : jJ C 0 l = l.toArray := by
 unfold jJ
 rw [List.take_zero, Nat.zero_add, List.drop_eq_nil_of_le (by simp [h])]
 simp
theorem Ye {G : World} {L : ja} (l : List UInt8) (h0 : l ≠ []) (h3 : l.length ≤ 1000) :
 Spec Tryz.prog G 257 #[.string (bs l)] L fun u M => u = .string (bs l) ∧ M = L := by
 have hl0 : l.length ≠ 0 := by simpa using h0
 have hb0 : ((l.length : Int) == 0) = false := by
  rw [beq_eq_false_iff_ne]
  omega
 refine jw (n := 18) Tryz.func257 rfl rfl rfl ?_
 refine goC ?_
 refine qX (K6 etO rfl rfl jp jp jp jp rfl) rfl ?_
 intro g
 refine goC ?_
 have hsz : (madeCells (Value.int .u8 0).cells ((l.length : Int).toNat * 1)).size = l.length := by
  have := size_madeCells (z := (Value.int .u8 0).cells) (n := (l.length : Int).toNat * 1)
  simpa using this
 refine jl (Ev.op_copyS (k := l.length) (news := l.map fun b => Value.int .u8 b.toNat) etO rfl rfl ?_ (by simp) (by rw [hsz]; omega) (Or.inl rfl)) rfl ?_
 · refine ⟨by simp, fun v hv => ?_, Or.inr ⟨unO, rfl, l, rfl, by simp, rfl⟩⟩
   obtain ⟨b, _, rfl⟩ := List.mem_map.1 hv
   rfl
 rw [abH (by rw [hsz]; simp)]
 refine goC ?_
 refine jl (uR (l := l) rfl rfl unO KL h0 (Nat.le_refl _) (by unfold maxLen; omega) (by simp) (fun j c hj => by simp [hj])) rfl ?_
 refine goC ?_
 refine jq 2 _ rfl rfl ?_
 exact ⟨rfl, rfl⟩
theorem Yf {G : World} {L : ja} :
 Spec Tryz.prog G 257 #[.string (bs [])] L fun u M => u = .string (bs []) ∧ M = L := by
 refine jw (n := 18) Tryz.func257 rfl rfl rfl ?_
 refine goC ?_
 refine jq 2 _ rfl rfl ?_
 exact ⟨rfl, rfl⟩
end Go.Proofs.YtgjlbilcnlffgaaGreatDoor
namespace Go.Proofs.YtgjlbilcnlffgaaGreatDoor.Ev
open Go
mutual
def adi : AV → Bool
 | .bool _ => true
 | .int _ _ => true
 | .str _ => true
 | .ptrK _ => true
 | .ifc _ v => adi v
 | _ => false
def adj : List AV → Bool
 | [] => true
 | v :: l => adi v && adj l
end
theorem aay {σ : Sg} : ∀ {v : AV} {V W : Value}, adi v = true → Den σ v V → Den σ v W → V = W
 | .bool b, V, W, _, h, k => by simp only [Den] at h k; rw [h, k]
 | .int kd n, V, W, _, h, k => by simp only [Den] at h k; rw [h, k]
 | .str l, V, W, _, h, k => by simp only [Den] at h k; rw [h.2, k.2]
 | .ptrK i, V, W, _, h, k => by
   simp only [Den] at h k
   obtain ⟨x, hx, rfl⟩ := h
   obtain ⟨y, hy, rfl⟩ := k
   rw [hx] at hy
   cases hy
   rfl
 | .ifc t v, V, W, hd, h, k => by
   simp only [Den] at h k
   obtain ⟨U, hU, rfl⟩ := h
   obtain ⟨U', hU', rfl⟩ := k
   rw [aay (v := v) (by simpa [adi] using hd) hU hU']
theorem aaz {σ : Sg} : ∀ {l : List AV} {V W : List Value}, adj l = true → DenL σ l V → DenL σ l W → V = W
 | [], V, W, _, h, k => by rw [h.inv0, k.inv0]
 | v :: l, V, W, hd, h, k => by
   have hd : adi v = true ∧ adj l = true := by simpa [adj] using hd
   obtain ⟨A, M, rfl, h1, h2⟩ := h.inv
   obtain ⟨B, N, rfl, k1, k2⟩ := k.inv
   rw [aay hd.1 h1 k1, aaz hd.2 h2 k2]
def adk : AO → Bool
 | .cells l _ => adj l
 | _ => false
theorem afi {σ : Sg} {κ κ' : Nat} {o : AO} {O O' : Obj} (hd : adk o = true) (h : DenO σ κ o O) (k : DenO σ κ' o O') : O = O' := by
 cases o with
 | cells l e =>
   obtain ⟨M, h1, rfl⟩ := h
   obtain ⟨N, k1, rfl⟩ := k
   rw [aaz hd h1 k1]
 | _ => cases hd
noncomputable def laidB (l : List (Nat × AO)) : Bool := allB (fun p => Bool.rec false (adk p.2) (Nat.blt p.1 100)) l
noncomputable def endB (E : jU) (f : Nat) (laid : List (Nat × AO)) (nx : Nat) : Bool := toTrK laid .leaf fun t => Option.rec false (fun q => Bool.rec false (hasO laid q.2) (beqV (.bool true) q.1)) (E f [] ⟨t, nx⟩)
theorem look_mem {l : List (Nat × AO)} {i : Nat} {o : AO} (h : look l i = some o) : (i, o) ∈ l := by
 induction l with
 | nil => cases h
 | cons p l ih =>
   rw [uk] at h
   split at h
   · rename_i e
     cases h
     rw [e]
     exact List.mem_cons_self ..
   · exact List.mem_cons_of_mem _ (ih h)
theorem adl {P : Program} {E : jU} {f nx : Nat} {laid : List (Nat × AO)} {σ : Sg} (hE : jV P E) (hend : endB E f laid nx = true) (hlaid : laidB laid = true) (hn : 100 ≤ nx) (hlow : ∀ i, i < 100 → σ i = some (i, 0)) (hfresh : ∀ i, nx ≤ i → σ i = none)
 {G : World} {L : ja} (hL : ∀ i o, look laid i = some o → ∃ O, DenO σ 0 o O ∧ (i, O) ∈ L) : Spec P G f #[] L fun u M => u = .bool true ∧ ∀ p ∈ L, p ∈ M := by
 refine ⟨fun w hw => ?_⟩
 have hnd := hw.nodup
 have hfact : ∀ i o, look laid i = some o → i < 100 ∧ adk o = true := fun i o h => by
  have h1 : Bool.rec false (adk o) (Nat.blt i 100) = true := kp hlaid _ (look_mem h)
  cases hb : Nat.blt i 100 with
  | false => rw [hb] at h1; cases h1
  | true =>
    rw [hb] at h1
    exact ⟨by simpa using hb, h1⟩
 let F : Fm := ⟨L.filter fun p => (look laid p.1).isNone, fun _ => none, fun _ => False⟩
 have hF : ∀ p, p ∈ F.b ↔ p ∈ L ∧ look laid p.1 = none := fun p => by
  show p ∈ L.filter _ ↔ _
  rw [List.mem_filter]
  simp
 have hsm : smallL laid = true := by
  have : ∀ l : List (Nat × AO), (∀ p ∈ l, p.1 < 100) → smallL l = true := fun l => by
   induction l with
   | nil => intro _; rfl
   | cons p l ih =>
     intro h
     show Bool.rec false (smallL l) (Nat.ble p.1 999998) = true
     have := h p (List.mem_cons_self ..)
     rw [show Nat.ble p.1 999998 = true from Nat.ble_eq_true_of_le (by omega)]
     exact ih fun q hq => h q (List.mem_cons_of_mem _ hq)
  refine this _ fun p hp => ?_
  have h1 : Bool.rec false (adk p.2) (Nat.blt p.1 100) = true := kp hlaid _ hp
  cases hb : Nat.blt p.1 100 with
  | false => rw [hb] at h1; cases h1
  | true => simpa using hb
 have hget : ∀ i, (uw laid .leaf).get i = look laid i := fun i => by
  rw [yA hsm]
  cases look laid i <;> rfl
 have hm : MemR σ ⟨uw laid .leaf, nx⟩ F L := by
  refine ⟨fun i o x e ex => ?_, fun i j o o' x y e e' ex ey exy => ?_, fun p hp => ((hF p).1 hp).1, fun i o x e ex p hp => ?_, fun i o e => (by cases e), fun i hi => hfresh i hi, fun i o e => ?_, fun g hg => hlow g hg, fun i e => e.elim⟩
  · rw [hget] at e
    rw [hlow i (hfact i o e).1] at ex
    cases ex
    exact hL i o e
  · rw [hget] at e e'
    rw [hlow i (hfact i o e).1] at ex
    rw [hlow j (hfact j o' e').1] at ey
    cases ex
    cases ey
    exact exy
  · rw [hget] at e
    rw [hlow i (hfact i o e).1] at ex
    cases ex
    intro hpi
    have := ((hF p).1 hp).2
    rw [hpi, e] at this
    cases this
  · rw [hget] at e
    have := (hfact i o e).1
    dsimp only
    omega
 unfold endB at hend
 rw [yz] at hend
 cases hq : E f [] ⟨uw laid .leaf, nx⟩ with
 | none => rw [hq] at hend; cases hend
 | some q =>
   rw [hq] at hend
   obtain ⟨v, m'⟩ := q
   obtain ⟨hv, hh⟩ := kV hend
   obtain rfl : AV.bool true = v := ya _ _ hv
   have hsp := hE (G := G) hq (.nil (σ := σ)) hm
   refine (hsp.out w hw).mono fun e w' ⟨u, M, he, ⟨σ', k1, k2, k3⟩, hM⟩ => ⟨u, M, he, ⟨by simpa [Den] using k2, fun p hp => ?_⟩, hM⟩
   cases hl : look laid p.1 with
   | none => exact k3.frame p ((hF p).2 ⟨hp, hl⟩)
   | some o =>
     obtain ⟨h100, hdet⟩ := hfact _ _ hl
     obtain ⟨O, hO, hOL⟩ := hL _ _ hl
     obtain ⟨O', g1, g2⟩ := k3.get p.1 o (p.1, 0) (qt hh _ _ hl) (k1 _ _ (hlow _ h100))
     have hOO : O = O' := afi hdet (hO.mono k1) g1
     subst hOO
     have : p = (p.1, O) := by
      obtain ⟨A, B, rfl⟩ := List.append_of_mem hp
      rw [List.map_append, List.map_cons, List.nodup_append, List.nodup_cons] at hnd
      rcases List.mem_append.1 hOL with h | h
      · exact absurd rfl (hnd.2.2 p.1 (List.mem_map.2 ⟨_, h, rfl⟩) p.1 (List.mem_cons_self ..))
      · rcases List.mem_cons.1 h with h | h
        · exact h.symm
        · exact absurd (List.mem_map.2 ⟨_, h, rfl⟩) hnd.2.1.1
     rw [this]
     exact g2
end Go.Proofs.YtgjlbilcnlffgaaGreatDoor.Ev
namespace Go.Proofs.YtgjlbilcnlffgaaGreatDoor.Nm
abbrev Bytes := List UInt8
def Yg : Nat → Bytes → Option (List Bytes)
 | 0, _ => none
 | _ + 1, [] => none
 | f + 1, c :: t =>
   if c = 0 then (if t = [] then some [] else none)
   else if 63 < c.toNat then none
   else if t.length < c.toNat then none
   else (Yg f (t.drop c.toNat)).map (t.take c.toNat :: ·)
theorem UM : ∀ (f g : Nat) (l : Bytes), l.length ≤ f → l.length ≤ g → Yg f l = Yg g l
 | 0, 0, _, _, _ => rfl
 | 0, g + 1, l, h, _ => by
   cases l with
   | nil => rfl
   | cons c t => simp at h
 | f + 1, 0, l, _, h => by
   cases l with
   | nil => rfl
   | cons c t => simp at h
 | f + 1, g + 1, [], _, _ => rfl
 | f + 1, g + 1, c :: t, h1, h2 => by
   have e1 : (t.drop c.toNat).length ≤ f := by simp at h1 ⊢; omega
   have e2 : (t.drop c.toNat).length ≤ g := by simp at h2 ⊢; omega
   simp only [Yg]
   rw [UM f g _ e1 e2]
theorem abI (f : Nat) (l : Bytes) (h : l.length ≤ f) : Yg f l = Yg l.length l := UM f _ l h (Nat.le_refl _)
def lbl (l : Bytes) : Option (List Bytes) := Yg l.length l
theorem afj : lbl [] = none := rfl
theorem lbl_cons (c : UInt8) (t : Bytes) : lbl (c :: t) =
 if c = 0 then (if t = [] then some [] else none)
 else if 63 < c.toNat then none
 else if t.length < c.toNat then none
 else (lbl (t.drop c.toNat)).map (t.take c.toNat :: ·) := by
 unfold lbl
 simp only [Yg, List.length_cons]
 rw [abI t.length (t.drop c.toNat) (by simp)]
def nm (l : Bytes) : Option (List Bytes) := if l.length ≤ 255 then lbl l else none
def may (l : Bytes) : Bool := (nm l).isSome
def lowB (c : UInt8) : UInt8 := if 65 ≤ c ∧ c ≤ 90 then c + 32 else c
def low (l : Bytes) : Bytes := l.map lowB
def enc : List Bytes → Bytes
 | [] => [0]
 | l :: ls => UInt8.ofNat l.length :: (l ++ enc ls)
def Ok (ls : List Bytes) : Prop := ∀ l ∈ ls, 1 ≤ l.length ∧ l.length ≤ 63
theorem agc : Ok [] := by intro l h; cases h
theorem ok_cons {l : Bytes} {ls : List Bytes} : Ok (l :: ls) ↔ (1 ≤ l.length ∧ l.length ≤ 63) ∧ Ok ls := by
 unfold Ok; simp
theorem enc_length (ls : List Bytes) : (enc ls).length = (ls.map fun l => l.length + 1).sum + 1 := by
 induction ls with
 | nil => rfl
 | cons l ls ih => simp [enc, ih]; omega
theorem length_lt_enc (ls : List Bytes) : ls.length < (enc ls).length := by
 induction ls with
 | nil => simp [enc]
 | cons l ls ih => simp [enc]; omega
theorem Qb : ∀ ls : List Bytes, Ok ls → lbl (enc ls) = some ls
 | [], _ => by simp [enc, lbl_cons]
 | l :: ls, h => by
   obtain ⟨⟨h1, h2⟩, h3⟩ := ok_cons.1 h
   have e : (UInt8.ofNat l.length).toNat = l.length := by simp; omega
   have n0 : ¬ UInt8.ofNat l.length = 0 := by
    intro k
    have := congrArg UInt8.toNat k
    rw [e] at this
    simp at this
    subst this
    simp at h1
   simp only [enc]
   rw [lbl_cons, if_neg n0, e, if_neg jp, if_neg (by simp)]
   simp [Qb ls h3]
theorem Yh : ∀ (n : Nat) (l : Bytes) (ls : List Bytes), l.length ≤ n → lbl l = some ls → l = enc ls ∧ Ok ls
 | _, [], _, _, h => by simp [afj] at h
 | 0, _ :: _, _, h, _ => by simp at h
 | n + 1, c :: t, ls, hl, h => by
   rw [lbl_cons] at h
   split at h
   · rename_i hc
     split at h
     · rename_i ht
       cases h
       subst hc ht
       exact ⟨rfl, agc⟩
     · cases h
   · rename_i hc
     split at h
     · cases h
     · rename_i h63
       split at h
       · cases h
       · rename_i hlen
         have hd : (t.drop c.toNat).length ≤ n := by simp at hl ⊢; omega
         cases hr : lbl (t.drop c.toNat) with
         | none => simp [hr] at h
         | some ls' =>
           simp [hr] at h
           subst h
           obtain ⟨h1, h2⟩ := Yh n _ _ hd hr
           have hc1 : 1 ≤ c.toNat := by
            rcases Nat.eq_zero_or_pos c.toNat with h0 | h0
            · exact absurd (UInt8.toNat_inj.1 (by simpa using h0)) hc
            · exact h0
           have ht : (t.take c.toNat).length = c.toNat := by simp; omega
           refine ⟨?_, ok_cons.2 ⟨by omega, h2⟩⟩
           simp only [enc, ht, ← h1, List.take_append_drop]
           congr 1
           exact UInt8.toNat_inj.1 (by simp)
theorem afk {l : Bytes} {ls : List Bytes} : lbl l = some ls ↔ l = enc ls ∧ Ok ls :=
 ⟨fun h => Yh l.length l ls (Nat.le_refl _) h, fun h => by rw [h.1]; exact Qb ls h.2⟩
theorem nm_iff {l : Bytes} {ls : List Bytes} : nm l = some ls ↔ l = enc ls ∧ Ok ls ∧ l.length ≤ 255 := by
 unfold nm
 split
 · rename_i h; rw [afk]; simp [h]
 · rename_i h; simp [h]
theorem afl {a b : List Bytes} (ha : Ok a) (hb : Ok b) (h : enc a = enc b) : a = b := by
 have h1 := Qb a ha
 rw [h, Qb b hb] at h1
 exact (Option.some.inj h1).symm
theorem QM (l : Bytes) : (low l).length = l.length := by simp [low]
theorem QN (c : UInt8) (h : c.toNat < 65) : lowB c = c := by
 unfold lowB
 rw [if_neg]
 rintro ⟨h1, _⟩
 have := UInt8.le_iff_toNat_le.1 h1
 simp at this
 omega
def lowL (ls : List Bytes) : List Bytes := ls.map low
theorem aaA {ls : List Bytes} (h : Ok ls) : Ok (lowL ls) := by
 intro l hl
 obtain ⟨x, hx, rfl⟩ := List.mem_map.1 hl
 rw [QM]
 exact h x hx
theorem VK : ∀ ls : List Bytes, Ok ls → low (enc ls) = enc (lowL ls)
 | [], _ => by simp [enc, low, lowL, QN]
 | l :: ls, h => by
   obtain ⟨⟨h1, h2⟩, h3⟩ := ok_cons.1 h
   have ih := VK ls h3
   have e : (UInt8.ofNat l.length).toNat = l.length := by simp; omega
   have e1 : lowB (UInt8.ofNat l.length) = UInt8.ofNat l.length := QN _ (by rw [e]; omega)
   have : low (enc (l :: ls)) = lowB (UInt8.ofNat l.length) :: (low l ++ low (enc ls)) := by
    simp [enc, low]
   rw [this, e1, ih]
   simp [enc, lowL, QM]
def fold (n : Bytes) : Bytes := if may n then low n else []
def labels (n : Bytes) : List Bytes := (nm n).getD []
def aik (n : Bytes) : Bytes := match nm n with | some (_ :: ls) => enc ls | _ => []
def ail (n : Bytes) : Bool := match nm n with | some (_ :: _) => true | _ => false
def same (a b : Bytes) : Bool := may a && may b && (low a == low b)
def aiO (n z : Bytes) : Bool :=
 match nm n, nm z with
 | some a, some b => (lowL b).isSuffixOf (lowL a)
 | _, _ => false
theorem may_some {n : Bytes} {ls : List Bytes} (h : nm n = some ls) : may n = true := by simp [may, h]
theorem may_none {n : Bytes} (h : nm n = none) : may n = false := by simp [may, h]
theorem nm_of_may {n : Bytes} (h : may n = true) : ∃ ls, nm n = some ls := Option.isSome_iff_exists.1 h
theorem zX (a b : List Bytes) : (enc (a ++ b)).length = (a.map fun l => l.length + 1).sum + (enc b).length := by
 rw [enc_length, enc_length]; simp; omega
theorem yi (a : List Bytes) : (enc (lowL a)).length = (enc a).length := by
 rw [enc_length, enc_length]
 simp only [lowL, List.map_map]
 congr 2
 exact List.map_congr_left fun l _ => by simp [low]
def Upto (a a2 : List Bytes) (zl : Nat) : Prop := (∃ a1, a = a1 ++ a2) ∧ ∀ x y, a = x ++ y → a2.length < y.length → zl < (enc y).length
theorem Upto.start (a : List Bytes) (zl : Nat) : Upto a a zl := by
 refine ⟨⟨[], rfl⟩, fun x y h hl => ?_⟩
 rw [h] at hl
 simp at hl
 omega
theorem Upto.step {a a2 : List Bytes} {l : Bytes} {zl : Nat} (h : Upto a (l :: a2) zl) (hz : zl < (enc (l :: a2)).length) : Upto a a2 zl := by
 obtain ⟨⟨a1, h1⟩, h2⟩ := h
 refine ⟨⟨a1 ++ [l], by simp [h1]⟩, fun x y hxy hl => ?_⟩
 by_cases hq : (l :: a2).length < y.length
 · exact h2 x y hxy hq
 · have hlen : y.length = (l :: a2).length := by simp at hq ⊢; omega
   have : y = l :: a2 := by
    have e := hxy.symm.trans h1
    exact (List.append_inj' e hlen).2
   rw [this]
   exact hz
theorem Upto.fin {a a2 b : List Bytes} (ha : Ok a) (hb : Ok b) (h : Upto a a2 (enc b).length) (hle : (enc a2).length ≤ (enc b).length) :
 (lowL b).isSuffixOf (lowL a) = (low (enc a2) == low (enc b)) := by
 obtain ⟨⟨a1, h1⟩, h2⟩ := h
 have ha2 : Ok a2 := fun l hl => ha l (by rw [h1]; exact List.mem_append_right _ hl)
 rw [Bool.eq_iff_iff, List.isSuffixOf_iff_suffix, beq_iff_eq, VK _ ha2, VK _ hb]
 constructor
 · rintro ⟨x', hx⟩
   have hal : (lowL a).length = a.length := by simp [lowL]
   have hbl : (lowL b).length = b.length := by simp [lowL]
   have hn : x'.length + b.length = a.length := by
    have := congrArg List.length hx
    simp [hbl, hal] at this
    exact this
   have hy : lowL (a.drop x'.length) = lowL b := by
    have e : lowL a = lowL (a.take x'.length) ++ lowL (a.drop x'.length) := by
     simp only [lowL, ← List.map_append, List.take_append_drop]
    rw [e] at hx
    refine ((List.append_inj' hx ?_).2).symm
    simp [lowL]
    omega
   have hyl : (enc (a.drop x'.length)).length = (enc b).length := by
    rw [← yi, hy, yi]
   have hcases : (a.drop x'.length).length = a2.length := by
    rcases Nat.lt_trichotomy (a.drop x'.length).length a2.length with hlt | heq | hgt
    · exfalso
      have e : a1 ++ a2 = a.take x'.length ++ a.drop x'.length := by rw [← h1, List.take_append_drop]
      have hs : (a2.drop (a2.length - (a.drop x'.length).length)) = a.drop x'.length := by
       have e2 : a1 ++ a2.take (a2.length - (a.drop x'.length).length) ++ a2.drop (a2.length - (a.drop x'.length).length) = a.take x'.length ++ a.drop x'.length := by
        rw [List.append_assoc, List.take_append_drop]
        exact e
       exact (List.append_inj' e2 (by simp at hlt ⊢; omega)).2
      have e3 : (enc a2).length = ((a2.take (a2.length - (a.drop x'.length).length)).map fun l => l.length + 1).sum + (enc (a.drop x'.length)).length := by
       conv => lhs; rw [← List.take_append_drop (a2.length - (a.drop x'.length).length) a2]
       rw [zX, hs]
      have hpos : 0 < ((a2.take (a2.length - (a.drop x'.length).length)).map fun l => l.length + 1).sum := by
       cases hc : a2.take (a2.length - (a.drop x'.length).length) with
       | nil =>
         have := congrArg List.length hc
         simp at this hlt
         omega
       | cons u v => simp; omega
      omega
    · exact heq
    · exfalso
      have := h2 (a.take x'.length) (a.drop x'.length) (by rw [List.take_append_drop]) hgt
      omega
   have : a.drop x'.length = a2 := by
    have e : a1 ++ a2 = a.take x'.length ++ a.drop x'.length := by rw [← h1, List.take_append_drop]
    exact (List.append_inj' e hcases.symm).2.symm
   rw [← this, hy]
 · intro h
   have := afl (aaA ha2) (aaA hb) h
   rw [h1, ← this]
   exact ⟨lowL a1, by simp [lowL]⟩
end Go.Proofs.YtgjlbilcnlffgaaGreatDoor.Nm
namespace Go.Proofs.YtgjlbilcnlffgaaGreatDoor.Cn
open Go.Lib (decDigits)
abbrev Bytes := List UInt8
def isDig (c : UInt8) : Bool := 48 ≤ c.toNat && c.toNat ≤ 57
def valD (l : Bytes) : Nat := l.foldl (fun n c => n * 10 + (c.toNat - 48)) 0
def okD (w : Bytes) : Bool := !(w == []) && decide (w.length ≤ 10) && !((w.head? == some 48) && decide (1 < w.length)) && w.all isDig
def numP (w : Bytes) (most : Nat) : Option Nat := if okD w && decide (valD w ≤ most) then some (valD w) else none
theorem adm : valD [] = 0 := rfl
theorem valD_snoc (l : Bytes) (c : UInt8) : valD (l ++ [c]) = valD l * 10 + (c.toNat - 48) := by simp [valD]
theorem aaB {p : Bytes → Prop} (h0 : p []) (h1 : ∀ l c, p l → p (l ++ [c])) (l : Bytes) : p l := by
 have : ∀ m : Bytes, p m.reverse := by
  intro m
  induction m with
  | nil => exact h0
  | cons a t ih => rw [List.reverse_cons]; exact h1 _ _ ih
 have := this l.reverse
 rwa [List.reverse_reverse] at this
theorem valD_lt : ∀ (l : Bytes), l.all isDig = true → valD l < 10 ^ l.length := by
 intro l
 refine aaB (p := fun l => l.all isDig = true → valD l < 10 ^ l.length) (fun _ => by simp [valD]) (fun l c ih => ?_) l
 · intro h
   rw [List.all_append] at h
   obtain ⟨h1, h2⟩ := Bool.and_eq_true_iff.1 h
   have := ih h1
   have hc : isDig c = true := by simpa using h2
   unfold isDig at hc
   simp at hc
   rw [valD_snoc, List.length_append, List.length_singleton, Nat.pow_succ]
   omega
theorem adn : ∀ (w : Bytes), w ≠ [] → w.all isDig = true → (w.head? = some 48 → w.length ≤ 1) → decDigits (valD w) = w := by
 intro w
 refine aaB (p := fun w => w ≠ [] → w.all isDig = true → (w.head? = some 48 → w.length ≤ 1) → decDigits (valD w) = w) (fun h => absurd rfl h) (fun l c ih => ?_) w
 · intro _ h hd
   rw [List.all_append] at h
   obtain ⟨h1, h2⟩ := Bool.and_eq_true_iff.1 h
   have hc : isDig c = true := by simpa using h2
   unfold isDig at hc
   simp at hc
   rw [valD_snoc]
   have hcc : UInt8.ofNat (48 + (c.toNat - 48)) = c := by
    rw [show 48 + (c.toNat - 48) = c.toNat by omega]; simp
   by_cases hl : l = []
   · subst hl
     rw [adm, decDigits, dif_pos jp]
     simp only [Nat.zero_mul, Nat.zero_add, List.nil_append]
     rw [hcc]
   · have hd' : l.head? = some 48 → l.length ≤ 1 := by
      intro k
      have : (l ++ [c]).head? = some 48 := by cases l with | nil => exact absurd rfl hl | cons a t => simpa using k
      have h5 := hd this
      rw [List.length_append, List.length_singleton] at h5
      omega
     have i1 := ih hl h1 hd'
     have hpos : 0 < valD l := by
      rcases Nat.eq_zero_or_pos (valD l) with z | z
      · exfalso
        rw [z, decDigits, dif_pos (by decide)] at i1
        have : (l ++ [c]).head? = some 48 := by rw [← i1]; rfl
        have := hd this
        rw [← i1] at this
        simp at this
      · exact z
     rw [decDigits, dif_neg jp, show (valD l * 10 + (c.toNat - 48)) / 10 = valD l by omega, show (valD l * 10 + (c.toNat - 48)) % 10 = c.toNat - 48 by omega, i1, hcc]
theorem numP_some {w : Bytes} {most n : Nat} (h : numP w most = some n) : w = decDigits n ∧ n ≤ most := by
 unfold numP at h
 split at h
 · rename_i hk
   obtain ⟨k1, k2⟩ := Bool.and_eq_true_iff.1 hk
   unfold okD at k1
   simp at k1 k2
   obtain ⟨⟨⟨a1, a2⟩, a3⟩, a4⟩ := k1
   cases h
   refine ⟨(adn w a1 ?_ ?_).symm, k2⟩
   · rw [List.all_eq_true]; exact a4
   · intro z
     rcases Nat.lt_or_ge 1 w.length with q | q
     · rcases a3 with a | a
       · exact absurd z a
       · exact a
     · exact q
 · cases h
def spl (c : UInt8) : Bytes → List Bytes
 | [] => [[]]
 | a :: t => if a = c then [] :: spl c t else match spl c t with
   | [] => [[a]]
   | w :: ws => (a :: w) :: ws
def zY (c : UInt8) : List Bytes → Bytes
 | [] => []
 | [w] => w
 | w :: ws => w ++ c :: zY c ws
theorem spl_ne (c : UInt8) (l : Bytes) : spl c l ≠ [] := by
 cases l with
 | nil => simp [spl]
 | cons a t => unfold spl; split; · simp
               split <;> simp
theorem ux (c : UInt8) (w : Bytes) {ws : List Bytes} (h : ws ≠ []) : zY c (w :: ws) = w ++ c :: zY c ws := by
 cases ws with
 | nil => exact absurd rfl h
 | cons a t => rfl
theorem Yi (c : UInt8) (l : Bytes) : zY c (spl c l) = l := by
 induction l with
 | nil => rfl
 | cons a t ih =>
   unfold spl
   have hn := spl_ne c t
   split
   · rename_i h; subst h
     rw [ux _ _ hn, ih]; rfl
   · cases hs : spl c t with
     | nil => exact absurd hs hn
     | cons w ws =>
       rw [hs] at ih
       cases ws with
       | nil => simpa [zY] using ih
       | cons b bs => rw [ux _ _ (by simp)] at ih ⊢; simp [ih]
theorem spl_none {c : UInt8} {l : Bytes} (h : c ∉ l) : spl c l = [l] := by
 induction l with
 | nil => rfl
 | cons a t ih =>
   simp at h
   unfold spl
   rw [if_neg (fun k => h.1 k.symm), ih h.2]
theorem spl_at {c : UInt8} {l r : Bytes} (h : c ∉ l) : spl c (l ++ c :: r) = l :: spl c r := by
 induction l with
 | nil => simp [spl]
 | cons a t ih =>
   simp at h
   rw [List.cons_append]
   show spl c (a :: (t ++ c :: r)) = _
   rw [spl, if_neg (fun k => h.1 k.symm), ih h.2]
def linesP (s : Bytes) : List Bytes × Bytes := ((spl 10 s).dropLast, (spl 10 s).getLastD [])
theorem linesP_end (s : Bytes) (h : (10 : UInt8) ∉ s) : linesP s = ([], s) := by unfold linesP; rw [spl_none h]; rfl
theorem linesP_line (l r : Bytes) (h : (10 : UInt8) ∉ l) : linesP (l ++ 10 :: r) = (l :: (linesP r).1, (linesP r).2) := by
 unfold linesP
 rw [spl_at h]
 have hn := spl_ne 10 r
 cases hs : spl 10 r with
 | nil => exact absurd hs hn
 | cons a t => rfl
def unlines (ls : List Bytes) (r : Bytes) : Bytes := (ls.flatMap fun l => l ++ [10]) ++ r
theorem yB (r : Bytes) : unlines [] r = r := rfl
theorem unlines_cons (l : Bytes) (ls : List Bytes) (r : Bytes) : unlines (l :: ls) r = l ++ 10 :: unlines ls r := by simp [unlines]
theorem ado (ls : List Bytes) (r : Bytes) (h : ∀ l ∈ ls, (10 : UInt8) ∉ l) (hr : (10 : UInt8) ∉ r) : linesP (unlines ls r) = (ls, r) := by
 induction ls with
 | nil => exact linesP_end r hr
 | cons l ls ih => rw [unlines_cons, linesP_line _ _ (h l (by simp)), ih (fun x hx => h x (by simp [hx]))]
theorem adp (s : Bytes) : (10 : UInt8) ∉ s ∨ ∃ l r, s = l ++ 10 :: r ∧ (10 : UInt8) ∉ l := by
 induction s with
 | nil => left; simp
 | cons a t ih =>
   by_cases ha : a = 10
   · subst ha; exact Or.inr ⟨[], t, rfl, by simp⟩
   · rcases ih with h | ⟨l, r, rfl, h⟩
     · left; simp only [List.mem_cons, not_or]; exact ⟨fun k => ha k.symm, h⟩
     · right; exact ⟨a :: l, r, rfl, by simp only [List.mem_cons, not_or]; exact ⟨fun k => ha k.symm, h⟩⟩
theorem QO (s : Bytes) : unlines (linesP s).1 (linesP s).2 = s ∧ (∀ l ∈ (linesP s).1, (10 : UInt8) ∉ l) ∧ (10 : UInt8) ∉ (linesP s).2 := by
 generalize hn : s.length = n
 induction n using Nat.strongRecOn generalizing s with
 | _ n ih =>
   rcases adp s with h | ⟨l, r, rfl, h⟩
   · rw [linesP_end s h]; exact ⟨rfl, by simp, h⟩
   · rw [linesP_line l r h]
     obtain ⟨h1, h2, h3⟩ := ih r.length (by subst hn; simp; omega) r rfl
     refine ⟨by rw [unlines_cons, h1], ?_, h3⟩
     intro x hx
     rcases List.mem_cons.1 hx with rfl | k
     · exact h
     · exact h2 x k
end Go.Proofs.YtgjlbilcnlffgaaGreatDoor.Cn
