/-
 Part 10: Sq Fo Fp Ib Ic Eq Ex CC Ih Id Er.
-/
import Derived.Test.YtbjkkoacclfejaaGreatZs2
import Derived.Test.YtbjkkoacclfejaaGreatZs3
import Derived.Test.YtbjkkoacclfejaaGreatZs1
import Derived.Test.YtbjkkoacclfejaaGreatZs9
import Derived.Test.YtbjkkoacclfejaaGreatZs5
import Derived.Test.YtbjkkoacclfejaaGreatZs4
set_option maxRecDepth 100000
set_option maxHeartbeats 16000000
set_option linter.unusedVariables false
set_option linter.unusedSimpArgs false
namespace Go.Proofs.YtbjkkoacclfejaaGreat
section
open Go.RowKit
structure RemO (q : Nat × Obj) (L R : ja) : Prop where out : ∀ p, cnt p L = hit p q + cnt p R
structure RemA (A L R : ja) : Prop where out : ∀ p, cnt p L = cnt p A + cnt p R
structure Fits (M L : ja) : Prop where out : ∀ p, cnt p M ≤ cnt p L
section
variable {q r : Nat × Obj} {A B L M R R1 : ja}
theorem Vh : RemO q (q :: R) R := ⟨fun p => by rw [kL]⟩
theorem aaX {b : Nat} {o o' : Obj} (e : o' = o) : RemO (b, o) ((b, o') :: R) R := e ▸ Vh
theorem aaY (h : RemO q R R1) : RemO q (r :: R) (r :: R1) := ⟨fun p => by rw [kL, kL, h.out p]; omega⟩
theorem acA (h : RemO q R R1) : RemO q (B ++ R) (B ++ R1) := ⟨fun p => by rw [qn, qn, h.out p]; omega⟩
theorem aaZ : RemA A (A ++ R) R := ⟨fun p => by rw [qn]⟩
theorem acB : RemA A A [] := ⟨fun p => by rw [Qv]; omega⟩
theorem aa0 (h : RemA A R R1) : RemA A (r :: R) (r :: R1) := ⟨fun p => by rw [kL, kL, h.out p]; omega⟩
theorem acC (h : RemA A R R1) : RemA A (B ++ R) (B ++ R1) := ⟨fun p => by rw [qn, qn, h.out p]; omega⟩
theorem aa1 : Fits L L := ⟨fun p => Nat.le_refl _⟩
theorem acD : Fits [] L := ⟨fun p => by rw [Qv]; omega⟩
theorem aa2 (h : RemO q L R) (k : Fits M R) : Fits (q :: M) L := ⟨fun p => by rw [kL, h.out p]; have := k.out p; omega⟩
theorem acE (h : RemA A L R) (k : Fits M R) : Fits (A ++ M) L := ⟨fun p => by rw [qn, h.out p]; have := k.out p; omega⟩
theorem acF (h : RemA A L R) : Fits A L := ⟨fun p => by rw [h.out p]; omega⟩
theorem acG {N : ja} (h : Fits (A ++ (M ++ N)) L) : Fits ((A ++ M) ++ N) L := by rw [List.append_assoc]; exact h
theorem acH (h : Fits (q :: (A ++ M)) L) : Fits ((q :: A) ++ M) L := h
theorem acI (h : Fits M L) : Fits ([] ++ M) L := h
theorem aa3 {L' : ja} (e : L = L') (h : Fits M L') : Fits M L := e ▸ h
end
theorem ah9 {q : Nat × Obj} {L R : ja} (h : RemO q L R := by repeat (first | with_reducible exact Vh | ((with_reducible apply aaX); exact rfl) | with_reducible apply aaY | with_reducible apply acA)) : RemO q L R := h
theorem aeD {A L R : ja} (h : RemA A L R := by repeat (first | with_reducible exact aaZ | with_reducible exact acB | with_reducible apply aa0 | with_reducible apply acC)) : RemA A L R := h
theorem jP {M L : ja} (h : Fits M L := by
 apply aa3
 · (try simp only [List.append_assoc, List.cons_append, List.nil_append]); exact rfl
 repeat (first | with_reducible exact aa1 | with_reducible exact acD | with_reducible apply acG | with_reducible apply acH | with_reducible apply acI | ((with_reducible apply aa2); · exact ah9) | ((with_reducible apply acE); · exact aeD) | ((with_reducible apply acF); exact aeD))) : Fits M L := h
section
variable {P : Program} {G : World} {n : Nat} {ρ : jG} {L M : ja} {op : Op} {ty : TypeId} {v : Value} {Q : Exit → Act → World → Prop} {ops : Array Oper}
theorem Fits.heap (h : Fits M L) : ∀ w, Heap G w L → Heap G w M := fun w hw => hw.cnt h.out
theorem OpT.fits {Φ : Value → ja → Prop} (h : OpT P G ρ M op ty Φ) (k : Fits M L) : OpT P G ρ L op ty Φ := OpT.heap (fun w hw => hw.cnt k.out) h
theorem qj {d : Nat} {f : FuncId} {xs : List Operand} {ats : Array TypeId} {pos : String} {after : Array Edge} {rest : List Oper} {vs : List Value} {Φ : Value → ja → Prop}
 (hspec : Spec P G f vs.toArray M Φ) (hr : ∀ v L', Φ v L' → TL P G ops n ((d, v) :: ρ) L' rest Q) (hv : kY ρ xs = some vs := by exact rfl) (hf : Fits M L := by exact jP) (hb : qt P f = true := by kernel_rfl) (hd : Nat.blt d n = true := by exact rfl) :
 TL P G ops n ρ L (⟨some d, .call ⟨.value (.func f), xs.toArray, ats⟩, ty, pos, after, none⟩ :: rest) Q :=
 jw ((jc hb hv hspec).fits hf) hd hr
theorem aae {d : Nat} {f : FuncId} {xs : List Operand} {ats : Array TypeId} {rest : List Oper} {vs : List Value} {Φ : Value → ja → Prop}
 (hspec : Spec P G f vs.toArray M Φ) (hr : ∀ v L', Φ v L' → TL P G ops n ((d, v) :: ρ) L' rest Q) (hv : kY ρ xs = some vs := by exact rfl) (hf : Fits M L := by exact jP) (hb : qt P f = true := by kernel_rfl) (hd : Nat.blt d n = true := by exact rfl) :
 TG P G ops n ρ L d (.call ⟨.value (.func f), xs.toArray, ats⟩) ty rest Q :=
 uH ((jc hb hv hspec).fits hf) hd hr
theorem Ut {d : Nat} {f : FuncId} {xs : List Operand} {ats : Array TypeId} {pos : String} {after : Array Edge} {rest : List Oper} {vs : List Value}
 (hspec : Spec P G f vs.toArray L fun u N => u = v ∧ N = L) (hr : TL P G ops n ((d, v) :: ρ) L rest Q) (hv : kY ρ xs = some vs := by exact rfl) (hb : qt P f = true := by kernel_rfl) (hd : Nat.blt d n = true := by exact rfl) :
 TL P G ops n ρ L (⟨some d, .call ⟨.value (.func f), xs.toArray, ats⟩, ty, pos, after, none⟩ :: rest) Q :=
 jU (jc hb hv hspec) hd hr
theorem aia {d : Nat} {f : FuncId} {xs : List Operand} {ats : Array TypeId} {rest : List Oper} {vs : List Value}
 (hspec : Spec P G f vs.toArray L fun u N => u = v ∧ N = L) (hr : TL P G ops n ((d, v) :: ρ) L rest Q) (hv : kY ρ xs = some vs := by exact rfl) (hb : qt P f = true := by kernel_rfl) (hd : Nat.blt d n = true := by exact rfl) :
 TG P G ops n ρ L d (.call ⟨.value (.func f), xs.toArray, ats⟩) ty rest Q :=
 kf (jc hb hv hspec) hd hr
end
inductive Upd (b : Nat) (o o' : Obj) : ja → ja → Prop
 | here {R : ja} : Upd b o o' ((b, o) :: R) ((b, o') :: R)
 | cons {r : Nat × Obj} {R R' : ja} : Upd b o o' R R' → Upd b o o' (r :: R) (r :: R')
 | app {B R R' : ja} : Upd b o o' R R' → Upd b o o' (B ++ R) (B ++ R')
theorem Upd.perm {b : Nat} {o o' : Obj} : ∀ {L L' : ja}, Upd b o o' L L' → ∃ R, L.Perm ((b, o) :: R) ∧ ((b, o') :: R).Perm L'
 | _, _, .here => ⟨_, List.Perm.refl _, List.Perm.refl _⟩
 | _, _, .cons (r := r) h => by
   obtain ⟨R, h1, h2⟩ := h.perm
   exact ⟨r :: R, (h1.cons r).trans (List.Perm.swap _ _ _), (List.Perm.swap _ _ _).trans (h2.cons r)⟩
 | _, _, .app (B := B) h => by
   obtain ⟨R, h1, h2⟩ := h.perm
   exact ⟨B ++ R, (h1.append_left B).trans List.perm_middle, List.perm_middle.symm.trans (h2.append_left B)⟩
theorem Qn {b : Nat} {o o' : Obj} {L L' : ja} (h : Upd b o o' L L' := by repeat (first | with_reducible exact Upd.here | with_reducible apply Upd.cons | with_reducible apply Upd.app)) : Upd b o o' L L' := h
section
variable {P : Program} {G : World} {n : Nat} {ρ : jG} {L L' : ja} {op : Op} {ty : TypeId} {v : Value} {Q : Exit → Act → World → Prop} {ops : Array Oper}
theorem stU {x y : Operand} {pos : String} {after : Array Edge} {rest : List Oper} {b off : Nat} {t : TypeId} {C C' : Array Value} {te : TypeId} {v u : Value} (hx : ev ρ x = some (.pointer (some ⟨b, off, none⟩))) (hy : ev ρ y = some v)
 (h1 : Ji P t = true) (hu : Upd b (.cells C te (0, 0)) (.cells C' te (0, 0)) L L') (hone : v.oneCell' = true) (hv : C[off]? = some u) (hC : C.setIfInBounds off v = C') (h : TL P G ops n ρ L' rest Q) :
 TL P G ops n ρ L (⟨none, .store t x y, ty, pos, after, none⟩ :: rest) Q := by
 obtain ⟨R, p1, p2⟩ := hu.perm
 exact qk p1 (qG hx hy h1 hone hv hC (qk p2 h))
theorem Jc {x y : Operand} {pos : String} {after : Array Edge} {rest : List Oper} {b k : Nat} {t : TypeId} {C D : Array Value} {te : TypeId} (hx : ev ρ x = some (.pointer (some ⟨b, 0, none⟩))) (hy : ev ρ y = some (.agg D))
 (ht : j5 P t k = true) (hu : Upd b (.cells C te (0, 0)) (.cells D te (0, 0)) L L') (hC : C.size = k) (hD : D.size = k) (hone : JV D = true) (h : TL P G ops n ρ L' rest Q) : TL P G ops n ρ L (⟨none, .store t x y, ty, pos, after, none⟩ :: rest) Q := by
 obtain ⟨R, p1, p2⟩ := hu.perm
 exact qk p1 (ud hx hy ht hC hD hone (qk p2 h))
theorem uM {fn : Func} {Φ : Value → ja → Prop} (t : Nat) {v : Value} {M : ja} (hr : fn.results = #[.tmp t]) (hv : ρ.lookup t = some v) (h : Φ v M) (hf : Fits M L) : TQ G n ρ L .ret (bodyPost P fn (kE G Φ)) := ju (fun w hw => hw.cnt hf.out) (ji t v hr hv h)
theorem aeE {fn : Func} {Φ : Value → ja → Prop} {M : ja} (hr : fn.results = #[]) (h : Φ (.tuple #[]) M) (hf : Fits M L) : TQ G n ρ L .ret (bodyPost P fn (kE G Φ)) := ju (fun w hw => hw.cnt hf.out) (uR hr h)
theorem Qa {fn : Func} {Φ : Value → ja → Prop} (t u : Nat) {v x : Value} {M : ja} (hr : fn.results = #[.tmp t, .tmp u]) (hv : ρ.lookup t = some v) (hx : ρ.lookup u = some x) (h : Φ (.tuple #[v, x]) M) (hf : Fits M L) : TQ G n ρ L .ret (bodyPost P fn (kE G Φ)) := ju (fun w hw => hw.cnt hf.out) (jM t u v x hr hv hx h)
end
section
variable {P : Program} {G : World} {n : Nat} {ρ : jG} {L : ja} {ty : TypeId} {Q : Exit → Act → World → Prop} {ops : Array Oper}
end
def KA (n k : Nat) : Array Bool := ((List.range n).map fun i => decide (i < k)).toArray
theorem aa4 (n : Nat) : KA n 0 = Array.replicate n false := by
 unfold KA
 apply Array.ext <;> simp
theorem acJ (n k : Nat) : (KA n k).setIfInBounds k true = KA n (k + 1) := by
 unfold KA
 rw [List.setIfInBounds_toArray]
 congr 1
 apply List.ext_getElem
 · simp
 · intro i h1 h2
   rw [List.getElem_set]
   simp only [List.getElem_map, List.getElem_range]
   split
   · rename_i e; subst e; simp
   · rename_i e; rw [decide_eq_decide]; omega
section
variable {P : Program} {G : World} {n : Nat} {ρ : jG} {L : ja} {v : Value} {Q : Exit → Act → World → Prop} {ops : Array Oper}
theorem aej {id : Nat} (hm : P.follows .mixedOrders = true) (K : ja) (W : List Nat) (h : TA P G ops n K W Q ops.size (KA ops.size 0) ρ L) : T P G n ρ L (.region id ops true) Q := jq hm K W (by rw [← aa4]; exact h)
theorem yN {id : Nat} (hm : P.follows .mixedOrders = true) (h : TA P G ops n L [] Q ops.size (KA ops.size 0) ρ L) : T P G n ρ L (.region id ops true) Q := aej hm L [] h
theorem tkS {K : ja} {W : List Nat} {fuel N k : Nat} {d : Nat} {oi : Oper} (h : TA P G ops n K W Q fuel (KA N (k + 1)) ((d, v) :: ρ) L) (hi : ops[k]? = some oi := by exact rfl) (hd : oi.dst = some d := by exact rfl) (ht : Wm ops W n (KA N k) k d = true := by kernel_rfl)
 (hq : Quiet P G ops K ρ oi v := by exact qqQ) (hK : ∀ p ∈ K, p ∈ L := by first | exact fun p h => h | assumption | (intro p hp; grind)) : TA P G ops n K W Q (fuel + 1) (KA N k) ρ L := jp k hi hd ht hq hK (by rw [acJ]; exact h)
theorem tkL {K : ja} {W : List Nat} {fuel N k : Nat} {d : Nat} {oi : Oper} (hi : ops[k]? = some oi) (hd : oi.dst = some d) (ht : Wm ops W n (KA N k) k d = true) (hq : Quiet P G ops K ρ oi v) (hK : ∀ p ∈ K, p ∈ L) (h : TA P G ops n K W Q fuel (KA N (k + 1)) ((d, v) :: ρ) L) : TA P G ops n K W Q (fuel + 1) (KA N k) ρ L := tkS h hi hd ht hq hK
theorem qu {K : ja} {W : List Nat} {fuel : Nat} {listed : Array Bool} {M : ja} (i : Nat) {d : Nat} {f : FuncId} {xs : List Operand} {ats : Array TypeId} {ty : TypeId} {pos : String} {after : Array Edge} {vs : List Value} {args : Array Value} {Φ : Value → ja → Prop}
 (hspec : Spec P G f args M Φ) (h : ∀ v L', Φ v L' → (∀ p ∈ K, p ∈ L') ∧ TA P G ops n K W Q fuel (listed.setIfInBounds i true) ((d, v) :: ρ) L') (hi : ops[i]? = some ⟨some d, .call ⟨.value (.func f), xs.toArray, ats⟩, ty, pos, after, none⟩ := by exact rfl) (ha : kY ρ xs = some vs := by exact rfl) (he : args = vs.toArray := by exact rfl) (hf : Fits M L := by exact jP)
 (hb : qt P f = true := by kernel_rfl) (hdn : Nat.blt d n = true := by exact rfl) (hr : Region.ready .any ops listed = [i] := by decide +kernel) : TA P G ops n K W Q (fuel + 1) listed ρ L :=
 jF i hr hi rfl hdn rfl ((jc hb ha (he ▸ hspec)).fits hf) fun v L' hv => ⟨Or.inr (h v L' hv).1, (h v L' hv).2⟩
theorem Uu {K : ja} {W : List Nat} {fuel : Nat} {listed : Array Bool} {M : ja} (i : Nat) {d j dj : Nat} {want b : Bool} {f : FuncId} {xs : List Operand} {ats : Array TypeId} {ty : TypeId} {pos : String} {after : Array Edge} {vs : List Value} {args : Array Value} {Φ : Value → ja → Prop}
 (hspec : Spec P G f args M Φ) (h : ∀ v L', Φ v L' → (∀ p ∈ K, p ∈ L') ∧ TA P G ops n K W Q fuel (listed.setIfInBounds i true) ((d, v) :: ρ) L') (hi : ops[i]? = some ⟨some d, .call ⟨.value (.func f), xs.toArray, ats⟩, ty, pos, after, some (j, want)⟩ := by exact rfl) (ha : kY ρ xs = some vs := by exact rfl) (he : args = vs.toArray := by exact rfl) (hf : Fits M L := by exact jP)
 (hs : jT ops j = some dj := by exact rfl) (hv : ρ.lookup dj = some (.bool b) := by exact rfl) (hw : b = want := by exact kp) (hb : qt P f = true := by kernel_rfl) (hdn : Nat.blt d n = true := by exact rfl) (hr : Region.ready .any ops listed = [i] := by decide +kernel) : TA P G ops n K W Q (fuel + 1) listed ρ L := by
 refine ⟨fun h0 => (by rw [hr] at h0; cases h0), fun k hk => ?_⟩
 rw [hr] at hk
 obtain rfl : k = i := by simpa using hk
 refine ⟨_, hi, fun e he' => ?_, true, ⟨dj, _, hs, hv, by rw [hw]; simp [YH]⟩, Or.inl ⟨rfl, Φ, (jc hb ha (he ▸ hspec)).fits hf, fun v L' hv' => ⟨Or.inr (h v L' hv').1, (h v L' hv').2⟩⟩⟩
 cases he'
 simpa using hdn
theorem aib {K : ja} {W : List Nat} {fuel : Nat} {listed : Array Bool} (h : TQ G n ρ L .normal Q) (hr : Region.ready .any ops listed = [] := by decide +kernel) : TA P G ops n K W Q fuel listed ρ L := Qq hr h
end
theorem drR {P Q : Prop} (k : Q) (run : Hd Q → P := by intro k; (repeat1' (apply tkL; (· exact rfl); (· exact rfl); (· kernel_rfl); (· exact qqQ); (· first | exact fun p h => h | assumption | (intro p hp; grind)))); exact k.out) : P := run ⟨k⟩
theorem goU {P Q : Prop} (k : Q) (run : Hd Q → P := by intro k; (repeat1' (first | with_reducible apply kZ | with_reducible apply uh | (apply jB; (· exact yA); (· exact rfl)) | with_reducible apply jY | with_reducible apply kh | with_reducible apply uQ | with_reducible apply qT | with_reducible apply uF | with_reducible apply uo | with_reducible apply yS | with_reducible apply KE | with_reducible apply kV | with_reducible apply qi | with_reducible apply kn | with_reducible apply kN | with_reducible apply kW | with_reducible apply kM | with_reducible apply ut | (apply kO; (· decide)) | (apply jB; (· apply kA; (· exact rfl); (· exact kp); (· exact rfl)); (· exact rfl)) | (apply jB; (· apply ku; (· exact rfl); (· exact kp); (· exact rfl)); (· exact rfl)) | (apply ql; (· exact rfl); (· exact rfl); (· exact kp)) | (apply jN; (· exact yA); (· exact rfl)) | (apply jN; (· apply kA; (· exact rfl); (· exact kp); (· exact rfl)); (· exact rfl)) | (apply jN; (· apply ku; (· exact rfl); (· exact kp); (· exact rfl)); (· exact rfl)) | (apply yW; (· exact rfl); (· exact rfl); (· exact kp); (· exact rfl)) | (apply qL; (· exact rfl); (· exact rfl); (· exact rfl)) | (apply jB; (· exact aak); (· exact rfl)) | (apply jN; (· exact aak); (· exact rfl)) | (apply Jc; (· exact rfl); (· exact rfl); (· exact stO); (· exact Qn); (· exact rfl); (· exact rfl); (· exact rfl)) | (apply stU; (· exact rfl); (· exact rfl); (· exact onO); (· exact Qn); (· exact rfl); (· exact JW); (· exact rfl)) | (refine yN jb ?_; (repeat1' (apply tkL; (· exact rfl); (· exact rfl); (· kernel_rfl); (· exact qqQ); (· exact fun p h => h))); (apply Qq; (· decide +kernel))) | (apply Jg; (· exact rfl); (· exact kp)) | (apply Vz; (· exact rfl); (· exact kp)))); exact k.out) : P := run ⟨k⟩
theorem goV {P Q : Prop} (k : Q) (run : Hd Q → P := by intro k; (repeat1' (first | with_reducible apply kZ | with_reducible apply uh | (apply jB; (· exact yA); (· exact rfl)) | with_reducible apply jY | with_reducible apply kh | with_reducible apply uQ | with_reducible apply qT | with_reducible apply uF | with_reducible apply uo | with_reducible apply yS | with_reducible apply KE | with_reducible apply kV | with_reducible apply qi | with_reducible apply kn | with_reducible apply kN | with_reducible apply kW | with_reducible apply kM | with_reducible apply ut | (apply kO; (· decide)) | (apply jB; (· apply kA; (· exact rfl); (· exact kp); (· exact rfl)); (· exact rfl)) | (apply jB; (· apply ku; (· exact rfl); (· exact kp); (· exact rfl)); (· exact rfl)) | (apply ql; (· exact rfl); (· exact rfl); (· exact kp)) | (apply jN; (· exact yA); (· exact rfl)) | (apply jN; (· apply kA; (· exact rfl); (· exact kp); (· exact rfl)); (· exact rfl)) | (apply jN; (· apply ku; (· exact rfl); (· exact kp); (· exact rfl)); (· exact rfl)) | (apply yW; (· exact rfl); (· exact rfl); (· exact kp); (· exact rfl)) | (apply qL; (· exact rfl); (· exact rfl); (· exact rfl)) | (apply jB; (· exact aak); (· exact rfl)) | (apply jN; (· exact aak); (· exact rfl)) | (refine yN jb ?_; (repeat1' (apply tkL; (· exact rfl); (· exact rfl); (· kernel_rfl); (· exact qqQ); (· exact fun p h => h))); (apply Qq; (· decide +kernel))) | (apply Jg; (· exact rfl); (· exact kp)) | (apply Vz; (· exact rfl); (· exact kp)))); exact k.out) : P := run ⟨k⟩
end
section
open Go.RowKit
open Hg (En Pl)
open Vd (RSet Vdt Vote Rec Quest Piece Ballot)
variable {G : World} {L : ja}
def jE (a : As) (bp bb : Nat) : Array Value := #[.string (bs a.q.name), .int .u16 a.q.kind, .int .u16 a.q.cls, .int .u8 a.pol, .int .i64 a.want, .pointer (some ⟨bp, 0, none⟩), .pointer (some ⟨bb, 0, none⟩), .int .i64 a.now, .int .i64 a.ded, .bool a.over]
def KBox (K : ja) (bb : Nat) (want : Int) (l : List Ballot) (M : ja) : Prop := BoxOk l ∧ ∃ a c B, ORow ballotR 225 6 K a c l B ∧ M = (bb, .cells #[.int .i64 want, .slice a l.length c] 200 (0, 0)) :: B
def zN (K : ja) (ap : Nat) (a : As) (X : ja) : Prop := ∃ bp bb Mp Mb, RPlan bp a.p Mp ∧ KBox K bb a.want a.l Mb ∧ X = (ap, .cells (jE a bp bb) 82 (0, 0)) :: (Mp ++ Mb)
section
variable {K X : ja} {bb : Nat} {want : Int} {l : List Ballot}
theorem KBox.sl {a : Option Addr} {c : Nat} {B : ja} (hB : ORow ballotR 225 6 K a c l B) (hX : ∀ p ∈ B, p ∈ L) : sliceR 6 (fun _ => ballotR K) L [.slice a l.length c] l := (hB.imp (r' := fun _ => ballotR K) (L' := []) (fun cs x _ h => h)).sliceR j3 (by simp) hX
theorem aic (h : KBox K bb want l X) (hX : ∀ p ∈ X, p ∈ L) (hK : ∀ p ∈ K, p ∈ L) : Spec Tryz.prog G 139 #[.pointer (some ⟨bb, 0, none⟩)] L fun w M => w = .int .i64 (qO (Vd.votesB l)) ∧ M = L := by
 have hn := h.1.len
 obtain ⟨_, a, c, B, hB, rfl⟩ := h
 exact adP (K := K) bb want a c l (hX _ (List.mem_cons_self ..)) (KBox.sl hB fun p hp => hX p (List.mem_cons_of_mem _ hp)) hK jd
theorem ajO (h : KBox K bb want l X) (hX : ∀ p ∈ X, p ∈ L) (hK : ∀ p ∈ K, p ∈ L) : Spec Tryz.prog G 135 #[.pointer (some ⟨bb, 0, none⟩)] L (ZW K L (qr want (Vd.votesB l))) := by
 have hn := h.1.len
 obtain ⟨_, a, c, B, hB, rfl⟩ := h
 exact acf (K := K) bb want a c l (hX _ (List.mem_cons_self ..)) (KBox.sl hB fun p hp => hX p (List.mem_cons_of_mem _ hp)) hK jd
theorem acK (h : KBox K bb want l X) (hX : ∀ p ∈ X, p ∈ L) (hK : ∀ p ∈ K, p ∈ L) : Spec Tryz.prog G 136 #[.pointer (some ⟨bb, 0, none⟩)] L fun u M => ∃ a3 c3 B3, u = .slice a3 (kw want (Vd.votesB l)).length c3 ∧ ORow (uj .i64) 3 1 [] a3 c3 (kw want (Vd.votesB l)) B3 ∧ M = B3 ++ L := by
 have hn := h.1.len
 obtain ⟨_, a, c, B, hB, rfl⟩ := h
 exact Za (K := K) bb want a c l (hX _ (List.mem_cons_self ..)) (KBox.sl hB fun p hp => hX p (List.mem_cons_of_mem _ hp)) hK jd
theorem Zs (h : KBox K bb want l X) : Spec Tryz.prog G 137 #[.pointer (some ⟨bb, 0, none⟩)] (X ++ L) fun w M => ∃ av cv Bv, w = .slice av (Vd.votesB l).length cv ∧ ORow voteR 202 5 K av cv (Vd.votesB l) Bv ∧ M = Bv ++ (X ++ L) := by
 have hn := h.1.len
 obtain ⟨_, a, c, B, hB, rfl⟩ := h
 exact abU (G := G) (L := L) bb want a c l B hB jd
theorem aid {cs : List Value} {x : Vote} (h : KBox K bb want l X) (hx : voteR K cs x) : Spec Tryz.prog G 92 #[.pointer (some ⟨bb, 0, none⟩), .agg cs.toArray] (X ++ L) fun w M => w = .int .i64 (Vd.putB l ⟨x, false⟩).2 ∧ ∃ X', KBox K bb want (Vd.putB l ⟨x, false⟩).1 X' ∧ M = X' ++ L := by
 have hok := h.1
 have hn := h.1.len
 obtain ⟨_, a, c, B, hB, rfl⟩ := h
 exact (adF (G := G) (L := L) (K := K) bb want a c l B cs x hB hx jd).mono fun w M ⟨e1, a', c', B', hB', e3⟩ => ⟨e1, _, ⟨hok.put _, a', c', B', hB', rfl⟩, e3⟩
theorem aie (u : Int) (hu : -9223372036854775808 ≤ u ∧ u ≤ 9223372036854775807) (h : KBox K bb want l X) : Spec Tryz.prog G 93 #[.pointer (some ⟨bb, 0, none⟩), .int .i64 u] (X ++ L) fun w M => w = .int .i64 (Vd.putB l ⟨⟨u, Vdt.none, 0⟩, true⟩).2 ∧ ∃ X', KBox K bb want (Vd.putB l ⟨⟨u, Vdt.none, 0⟩, true⟩).1 X' ∧ M = X' ++ L := by
 have hok := h.1
 have hn := h.1.len
 obtain ⟨_, a, c, B, hB, rfl⟩ := h
 exact (adQ (G := G) (L := L) (K := K) bb want a c l B u hB hu jd).mono fun w M ⟨e1, a', c', B', hB', e3⟩ => ⟨e1, _, ⟨hok.put _, a', c', B', hB', rfl⟩, e3⟩
theorem aif (h : KBox K bb want l X) (hX : ∀ p ∈ X, p ∈ L) : Spec Tryz.prog G 61 #[.pointer (some ⟨bb, 0, none⟩)] L fun u M => ∃ b2 X2, u = .pointer (some ⟨b2, 0, none⟩) ∧ KBox K b2 want l X2 ∧ M = X2 ++ L := by
 have hok := h.1
 have hn := h.1.len
 obtain ⟨_, a, c, B, hB, rfl⟩ := h
 exact (adR (G := G) (L := L) (K := K) bb want a c l (hX _ (List.mem_cons_self ..)) (KBox.sl hB fun p hp => hX p (List.mem_cons_of_mem _ hp)) jd).mono fun u M ⟨b2, a', c', B', e, hB', hM⟩ => ⟨b2, _, e, ⟨hok, a', c', B', hB', rfl⟩, hM⟩
theorem ajP (want : Int) (hw : 1 ≤ want ∧ want ≤ 9) : Spec Tryz.prog G 87 #[.int .i64 want] L fun u M => ∃ bb X, u = .tuple #[.pointer (some ⟨bb, 0, none⟩), .int .i64 0] ∧ KBox K bb want [] X ∧ M = X ++ L := by
 refine (ae4 want).mono fun u M h => ?_
 rcases h with ⟨h1, h2, bb, h3, h4⟩ | ⟨h, _⟩
 · exact ⟨bb, _, h3, ⟨BoxOk.nil, none, 0, [], ORow.nil _, rfl⟩, h4⟩
 · omega
end
theorem aek (vs : List Vote) (h : vs.length ≤ 9) : 0 ≤ qO vs ∧ qO vs ≤ 9 := ⟨zD _, mostR_le.2 ⟨by decide, fun x hx => by have := List.length_filter_le (fun y : Vote => decide (y.vd = x.vd)) vs; unfold jR; omega⟩⟩
theorem ael {K : ja} {ap : Nat} {a : As} {X : ja} (h : zN K ap a X) (hA : AWell a) (hKL : ∀ p ∈ K, p ∈ L) : Spec Tryz.prog G 120 #[.pointer (some ⟨ap, 0, none⟩)] (X ++ L) fun u M => u = .int .i64 (Aq.hope a) ∧ M = X ++ L := by
 obtain ⟨bp, bb, Mp, Mb, hp, hb, rfl⟩ := h
 have e1 : (jE a bp bb)[0 + 3]? = some (.int .u8 a.pol) := rfl
 have e3 : (jE a bp bb)[0 + 5]? = some (.pointer (some ⟨bp, 0, none⟩)) := rfl
 have e4 : (jE a bp bb)[0 + 6]? = some (.pointer (some ⟨bb, 0, none⟩)) := rfl
 have ho := Um hA.ok.good
 have hl9 := hb.1.len
 have hvl := j7 a.l
 have hm := aek (Vd.votesB a.l) jd
 rw [List.cons_append]
 refine jm (n := 31) Tryz.func120 rfl rfl rfl ?_
 by_cases h1 : a.pol = 1
 · have hh : Aq.hope a = Hg.opens a.p + qO (Vd.votesB a.l) := by unfold Aq.hope; rw [if_pos h1]; rfl
   rw [hh]
   refine goU ?_
   refine yN jb ?_
   refine tkQ 0 ?_
   refine tkQ 1 ?_
   refine tkQ 2 ?_
   refine tkQ 3 ?_
   refine tkQ 5 ?_
   refine tkQ 6 ?_
   refine tkQ 7 ?_
   refine tkQ 8 ?_
   refine qu 4 (Wb hp ?_) ?_
   · exact jf
   rintro _ _ ⟨rfl, rfl⟩
   refine ⟨jf, ?_⟩
   refine qu 9 (aic hb ?_ ?_) ?_
   · exact jf
   · exact fun p hp => (jf) p (hKL p hp)
   rintro _ _ ⟨rfl, rfl⟩
   refine ⟨jf, ?_⟩
   refine tkQ 10 (hK := jf) ?_
   refine tkQ 11 (hK := jf) ?_
   refine tdQ ?_
   refine goU ?_
   exact uM 2 rfl rfl ⟨rfl, rfl⟩ jP
 · have hh : Aq.hope a = Hg.opens a.p + ((Vd.votesB a.l).length : Int) := by unfold Aq.hope; rw [if_neg h1]; rfl
   rw [hh]
   refine goU ?_
   refine yN jb ?_
   refine tkQ 0 ?_
   refine tkQ 1 ?_
   refine tkQ 2 ?_
   refine tkQ 3 ?_
   refine tkQ 5 ?_
   refine tkQ 6 ?_
   refine tkQ 7 ?_
   refine tkQ 8 ?_
   refine qu 4 (Wb hp ?_) ?_
   · exact jf
   rintro _ _ ⟨rfl, rfl⟩
   refine ⟨jf, ?_⟩
   refine qu 9 (Zs hb) ?_
   rintro _ _ ⟨av, cv, Bv, rfl, hBv, rfl⟩
   refine ⟨jf, ?_⟩
   refine tkQ 10 (hK := jf) ?_
   refine tkQ 11 (hK := jf) ?_
   refine tkQ 12 (hK := jf) ?_
   refine tdQ ?_
   refine goU ?_
   exact uM 2 rfl rfl ⟨rfl, rfl⟩ jP
theorem acL (ap bp bb : Nat) (a : As) (now : Int) (hn : 0 ≤ a.now ∧ a.now ≤ Hg.top) : Spec Tryz.prog G 91 #[.pointer (some ⟨ap, 0, none⟩), .int .i64 now] ((ap, .cells (jE a bp bb) 82 (0, 0)) :: L) fun u M => M = (ap, .cells (jE (Aq.upto a now) bp bb) 82 (0, 0)) :: L := by
 have e5 : (jE a bp bb)[0 + 7]? = some (.int .i64 a.now) := rfl
 refine jm (n := 15) Tryz.func91 rfl rfl rfl ?_
 by_cases h1 : 1099511627776 < now
 · have hh : Aq.upto a now = { a with now := max a.now 1099511627776 } := by unfold Aq.upto Hg.top; rw [Int.min_eq_right jd]
   rw [hh]
   refine goU ?_
   exact aeE rfl rfl jP
 · have hh : Aq.upto a now = { a with now := max a.now now } := by unfold Aq.upto Hg.top; rw [Int.min_eq_left jd]
   rw [hh]
   refine goU ?_
   exact aeE rfl rfl jP
end
section
open Go.RowKit
open Hg (En Pl)
open Vd (RSet Vdt Vote Rec Quest Piece Ballot)
variable {G : World} {L : ja}
section
variable {P : Program} {n : Nat} {ρ : jG} {L' : ja} {ty : TypeId} {Q : Exit → Act → World → Prop} {ops : Array Oper}
theorem yQ {fn : Func} {Φ : Value → ja → Prop} (a t : Nat) {b k : Nat} {C : Array Value} {te : TypeId} {fr : Nat × Nat} {M : ja} (hr : fn.results = #[.cell a t]) (hv : ρ.lookup a = some (.pointer (some ⟨b, 0, none⟩))) (h : Φ (.agg C) M) (hf : Fits M L)
 (ht : j5 P t k = true := by exact stO) (hm : (b, Obj.cells C te fr) ∈ L := by exact u3) (hk : C.size = k := by exact rfl) : TQ G n ρ L .ret (bodyPost P fn (kE G Φ)) := kT a t hr hv ht hm hk (fun w hw => hw.cnt hf.out) h
theorem KB {fn : Func} {Φ : Value → ja → Prop} (a t u : Nat) {b k : Nat} {C : Array Value} {te : TypeId} {fr : Nat × Nat} {x : Value} {M : ja} (hr : fn.results = #[.cell a t, .tmp u]) (hv : ρ.lookup a = some (.pointer (some ⟨b, 0, none⟩))) (hx : ρ.lookup u = some x) (h : Φ (.tuple #[.agg C, x]) M) (hf : Fits M L)
 (ht : j5 P t k = true := by exact stO) (hm : (b, Obj.cells C te fr) ∈ L := by exact u3) (hk : C.size = k := by exact rfl) : TQ G n ρ L .ret (bodyPost P fn (kE G Φ)) := kB a t u hr hv hx ht hm hk (fun w hw => hw.cnt hf.out) h
theorem stD {K : ja} {W : List Nat} {fuel : Nat} {listed : Array Bool} (i : Nat) {x y : Operand} {pos : String} {after : Array Edge} {b off : Nat} {t : TypeId} {C C' : Array Value} {te : TypeId} {v u : Value}
 (h : (∀ p ∈ K, p ∈ L') ∧ TA P G ops n K W Q fuel (listed.setIfInBounds i true) ρ L') (hi : ops[i]? = some ⟨none, .store t x y, ty, pos, after, none⟩ := by exact rfl) (hx : ev ρ x = some (.pointer (some ⟨b, off, none⟩)) := by exact rfl) (hy : ev ρ y = some v := by exact rfl)
 (h1 : Ji P t = true := by exact onO) (hu : Upd b (.cells C te (0, 0)) (.cells C' te (0, 0)) L L' := by exact Qn) (hone : v.oneCell' = true := by exact rfl) (hv : C[off]? = some u := by exact JW) (hC : C.setIfInBounds off v = C' := by exact rfl) (hr : Region.ready .any ops listed = [i] := by decide +kernel) :
 TA P G ops n K W Q (fuel + 1) listed ρ L := by
 obtain ⟨R, p1, p2⟩ := hu.perm
 refine jZ i hr hi rfl rfl (OpT.heap (fun w hw => hw.perm p1) (ul hx hy h1 hone hv hC)) ?_
 rintro _ _ ⟨_, rfl⟩
 exact ⟨Or.inr fun p hp => p2.mem_iff.2 (h.1 p hp), VA p2 h.2⟩
theorem aig {K : ja} {W : List Nat} {fuel : Nat} {listed : Array Bool} (i : Nat) {x y : Operand} {pos : String} {after : Array Edge} {b off : Nat} {t : TypeId} {C C' : Array Value} {te : TypeId} (cs : List Value)
 (h : (∀ p ∈ K, p ∈ L') ∧ TA P G ops n K W Q fuel (listed.setIfInBounds i true) ρ L') (hi : ops[i]? = some ⟨none, .store t x y, ty, pos, after, none⟩ := by exact rfl) (hx : ev ρ x = some (.pointer (some ⟨b, off, none⟩)) := by exact rfl) (hy : ev ρ y = some (.agg cs.toArray) := by exact rfl)
 (h1 : j5 P t cs.length = true := by exact stL) (hu : Upd b (.cells C te (0, 0)) (.cells C' te (0, 0)) L L' := by exact Qn) (hone : cs.all (·.oneCell') = true := by exact rfl) (hv : Nat.ble (off + cs.length) C.size = true := by exact rfl) (hC : qM C off cs = C' := by exact rfl) (hr : Region.ready .any ops listed = [i] := by decide +kernel) :
 TA P G ops n K W Q (fuel + 1) listed ρ L := by
 obtain ⟨R, p1, p2⟩ := hu.perm
 refine jZ i hr hi rfl rfl (OpT.heap (fun w hw => hw.perm p1) (hC ▸ yx hx hy h1 (fun v hv => List.all_eq_true.1 hone v hv) (Nat.le_of_ble_eq_true hv))) ?_
 rintro _ _ ⟨_, rfl⟩
 exact ⟨Or.inr fun p hp => p2.mem_iff.2 (h.1 p hp), VA p2 h.2⟩
theorem ajQ {x y : Operand} {pos : String} {after : Array Edge} {rest : List Oper} {b off : Nat} {t : TypeId} {C C' : Array Value} {te : TypeId} (cs : List Value)
 (h : TL P G ops n ρ L' rest Q) (hx : ev ρ x = some (.pointer (some ⟨b, off, none⟩)) := by exact rfl) (hy : ev ρ y = some (.agg cs.toArray) := by exact rfl)
 (h1 : j5 P t cs.length = true := by exact stL) (hu : Upd b (.cells C te (0, 0)) (.cells C' te (0, 0)) L L' := by exact Qn) (hone : cs.all (·.oneCell') = true := by exact rfl) (hv : Nat.ble (off + cs.length) C.size = true := by exact rfl) (hC : qM C off cs = C' := by exact rfl) :
 TL P G ops n ρ L (⟨none, .store t x y, ty, pos, after, none⟩ :: rest) Q := by
 obtain ⟨R, p1, p2⟩ := hu.perm
 exact qk p1 (QE (hC ▸ yx hx hy h1 (fun v hv => List.all_eq_true.1 hone v hv) (Nat.le_of_ble_eq_true hv)) (qk p2 h))
end
def DecDO (ap bp bb : Nat) (a : As) (vs vg : Value) (K Mb L : ja) (u : Value) (M : ja) : Prop :=
 (Aq.decided a = none ∧ u = .tuple #[.agg (ke vs vg), .bool false] ∧ M = (ap, .cells (jE a bp bb) 82 (0, 0)) :: (Mb ++ L)) ∨
 ∃ v t ag di w1 q1 w2 q2 a3 c3 a4 c4 N, Aq.decided a = some (v, t, ag, di) ∧ u = .tuple #[.agg #[vs, vg, .bool false, .bool false, .int .u8 v.code, .slice w1 v.sets.length q1, .slice w2 v.soa.length q2, .int .u32 t, .slice a3 ag.length c3, .slice a4 di.length c4], .bool true] ∧
  vdR (N ++ K) [.int .u8 v.code, .slice w1 v.sets.length q1, .slice w2 v.soa.length q2] v ∧ IRow N (.slice a3 ag.length c3) ag ∧ IRow N (.slice a4 di.length c4) di ∧ M = (ap, .cells (jE a bp bb) 82 (0, 0)) :: (Mb ++ (N ++ L))
theorem DecDO.no {ap bp bb : Nat} {a : As} {vs vg : Value} {K Mb L : ja} (h : Aq.decided a = none) : DecDO ap bp bb a vs vg K Mb L (.tuple #[.agg (ke vs vg), .bool false]) ((ap, .cells (jE a bp bb) 82 (0, 0)) :: (Mb ++ L)) := Or.inl ⟨h, rfl, rfl⟩
theorem DecDO.yes {ap bp bb : Nat} {a : As} {vs vg : Value} {ag di : List Int} {v : Vdt} {t : Int} {K Mb L : ja} (N : ja) {w1 w2 a3 a4 : Option Addr} {q1 q2 c3 c4 : Nat} (h : Aq.decided a = some (v, t, ag, di))
 (hv : vdR (N ++ K) [.int .u8 v.code, .slice w1 v.sets.length q1, .slice w2 v.soa.length q2] v) (ha : IRow N (.slice a3 ag.length c3) ag) (hd : IRow N (.slice a4 di.length c4) di) :
 DecDO ap bp bb a vs vg K Mb L (.tuple #[.agg #[vs, vg, .bool false, .bool false, .int .u8 v.code, .slice w1 v.sets.length q1, .slice w2 v.soa.length q2, .int .u32 t, .slice a3 ag.length c3, .slice a4 di.length c4], .bool true]) ((ap, .cells (jE a bp bb) 82 (0, 0)) :: (Mb ++ (N ++ L))) :=
 Or.inr ⟨v, t, ag, di, w1, q1, w2, q2, a3, c3, a4, c4, N, h, rfl, hv, ha, hd, rfl⟩
theorem Zt {ap bp bb : Nat} {a : As} {ys yg : Option Addr} {js ks jg kg : Nat} {K Mb : ja} (hb : KBox K bb a.want a.l Mb) (hA : AWell a) (hKL : ∀ p ∈ K, p ∈ L) (h1 : a.pol = 1) :
 Spec Tryz.prog G 119 #[.pointer (some ⟨ap, 0, none⟩), .agg (ke (.slice ys js ks) (.slice yg jg kg))] ((ap, .cells (jE a bp bb) 82 (0, 0)) :: (Mb ++ L)) (DecDO ap bp bb a (.slice ys js ks) (.slice yg jg kg) K Mb L) := by
 have e1 : (jE a bp bb)[0 + 3]? = some (.int .u8 a.pol) := rfl
 have e2 : (jE a bp bb)[0 + 4]? = some (.int .i64 a.want) := rfl
 have e4 : (jE a bp bb)[0 + 6]? = some (.pointer (some ⟨bb, 0, none⟩)) := rfl
 have hdec : Aq.decided a = if (qr a.want (Vd.votesB a.l)).2.2.2 then some ((qr a.want (Vd.votesB a.l)).1, (qr a.want (Vd.votesB a.l)).2.1, (qr a.want (Vd.votesB a.l)).2.2.1, kw a.want (Vd.votesB a.l)) else none := by unfold Aq.decided; rw [if_pos h1]; rfl
 refine jm (n := 82) Tryz.func119 rfl rfl rfl ?_
 repeat (first | refine goU ?_ | (refine jO ?_; intro bNew) | (refine kl ?_; intro bBox))
 refine qj (ajO hb ?_ ?_) ?_
 · exact jf
 · exact fun p hp => (jf) p (hKL p hp)
 rintro _ _ ⟨cw, a3, c3, B3, rfl, hw, hB3, rfl⟩
 obtain ⟨w1, q1, w2, q2, rfl, hw1, hw2, hw3⟩ := hw.vals
 repeat (first | refine goU ?_ | (refine jO ?_; intro b6))
 generalize qr a.want (Vd.votesB a.l) = W at *
 cases hwon : W.2.2.2 with
 | true =>
   rw [hwon, if_pos rfl] at hdec
   refine goU ?_
   refine jq jb [(ap, .cells (jE a bp bb) 82 (0, 0)), (b6, Obj.cells ([.int .u8 W.1.code, .slice w1 W.1.sets.length q1, .slice w2 W.1.soa.length q2] : List Value).toArray 40 (0, 0))] [] ?_
   refine tkQ 0 (hK := jf) ?_
   refine tkQ 1 (hK := jf) ?_
   refine tkQ 2 (hK := jf) ?_
   refine tkQ 3 (hK := jf) ?_
   refine tkQ 4 (hK := jf) ?_
   refine tkQ 5 (hK := jf) ?_
   refine tkQ 6 (hK := jf) ?_
   refine tkQ 8 (hK := jf) ?_
   refine qu 7 (acK hb ?_ ?_) ?_
   · exact jf
   · exact fun p hp => (jf) p (hKL p hp)
   rintro _ _ ⟨a4, c4, B4, rfl, hB4, rfl⟩
   refine ⟨jf, ?_⟩
   refine aig 9 [.int .u8 W.1.code, .slice w1 W.1.sets.length q1, .slice w2 W.1.soa.length q2] ?_
   refine ⟨jf, ?_⟩
   refine tkQ 10 (hK := jf) ?_
   refine stD 11 ?_
   refine ⟨jf, ?_⟩
   refine tkQ 12 (hK := jf) ?_
   refine stD 13 ?_
   refine ⟨jf, ?_⟩
   refine tkQ 14 (hK := jf) ?_
   refine stD 15 ?_
   refine ⟨jf, ?_⟩
   refine tdQ ?_
   refine goU ?_
   exact KB 4 107 5 rfl rfl rfl (DecDO.yes (B4 ++ B3) hdec (jQ _ _ _ _ jf ⟨_, _, rfl, hw1, hw2, hw3⟩) (zH (hB3.sliceR (uf _) (by simp) jf)) (zH (hB4.sliceR (uf _) (by simp) jf))) jP
 | false =>
   rw [hwon, if_neg (by decide)] at hdec
   refine goU ?_
   exact KB 4 107 5 rfl rfl rfl (DecDO.no hdec) jP
theorem Zu {ap bp bb : Nat} {a : As} {ys yg : Option Addr} {js ks jg kg : Nat} {K Mb : ja} (hb : KBox K bb a.want a.l Mb) (hA : AWell a) (hKL : ∀ p ∈ K, p ∈ L) (h1 : a.pol = 2) :
 Spec Tryz.prog G 119 #[.pointer (some ⟨ap, 0, none⟩), .agg (ke (.slice ys js ks) (.slice yg jg kg))] ((ap, .cells (jE a bp bb) 82 (0, 0)) :: (Mb ++ L)) (DecDO ap bp bb a (.slice ys js ks) (.slice yg jg kg) K Mb L) := by
 have e1 : (jE a bp bb)[0 + 3]? = some (.int .u8 a.pol) := rfl
 have e2 : (jE a bp bb)[0 + 4]? = some (.int .i64 a.want) := rfl
 have e4 : (jE a bp bb)[0 + 6]? = some (.pointer (some ⟨bb, 0, none⟩)) := rfl
 have q3 : ∀ j v, ([.string (bs a.q.name), .int .u16 a.q.kind, .int .u16 a.q.cls] : List Value)[j]? = some v → (jE a bp bb)[0 + 0 + j]? = some v := fun j v hj => by
  match j, hj with
  | 0, hj => exact hj
  | 1, hj => exact hj
  | 2, hj => exact hj
 have hdec := Yo h1
 have hl9 := hb.1.len
 have hvl := j7 a.l
 have hvv : Aq.votes a = Vd.votesB a.l := rfl
 rw [hvv] at hdec
 refine jm (n := 82) Tryz.func119 rfl rfl rfl ?_
 repeat (first | refine goU ?_ | (refine jO ?_; intro bNew) | (refine kl ?_; intro bBox))
 refine qj (Zs hb) ?_
 rintro _ _ ⟨av, cv, Bv, rfl, hBv, rfl⟩
 by_cases hlen : ((Vd.votesB a.l).length : Int) < a.want
 · rw [if_pos hlen] at hdec
   refine goU ?_
   exact KB 4 107 5 rfl rfl rfl (DecDO.no hdec) jP
 · rw [if_neg hlen] at hdec
   have hsl : ∀ M : ja, (∀ p ∈ Bv, p ∈ M) → sliceR 5 (fun _ => voteR K) M [.slice av (Vd.votesB a.l).length cv] (Vd.votesB a.l) := fun M hM => (hBv.imp (r' := fun _ => voteR K) (L' := []) (fun cs x _ h => h)).sliceR j3 (by simp) hM
   refine goU ?_
   refine jB (jA [.string (bs a.q.name), .int .u16 a.q.kind, .int .u16 a.q.cls] rfl stL u3 q3) rfl ?_
   refine goU ?_
   refine qj (ab6 (K := K) _ a.q (Vd.votesB a.l) ?_ hA.q.name hA.q.kind hA.q.cls (hsl _ ?_) jd (fun x hx => ⟨(hA.ends x hx).few, (hA.ends x hx).small⟩)) ?_
   · exact fun p hp => (jf) p (hKL p hp)
   · exact jf
   rintro _ _ ⟨cw, XU, rfl, hw, rfl⟩
   obtain ⟨w1, q1, w2, q2, rfl, hw1, hw2, hw3⟩ := hw.vals
   refine goU ?_
   refine ajQ [.int .u8 (Vd.union a.q (Vd.votesB a.l)).1.code, .slice w1 (Vd.union a.q (Vd.votesB a.l)).1.sets.length q1, .slice w2 (Vd.union a.q (Vd.votesB a.l)).1.soa.length q2] ?_
   refine goU ?_
   exact KB 4 107 5 rfl rfl rfl (DecDO.yes XU hdec hw jI jI) jP
theorem Zv {ap bp bb : Nat} {a : As} {ys yg : Option Addr} {js ks jg kg : Nat} {K Mb : ja} (hb : KBox K bb a.want a.l Mb) (hA : AWell a) (hKL : ∀ p ∈ K, p ∈ L) (h1 : a.pol = 3) (hw1 : a.want = 1) :
 Spec Tryz.prog G 119 #[.pointer (some ⟨ap, 0, none⟩), .agg (ke (.slice ys js ks) (.slice yg jg kg))] ((ap, .cells (jE a bp bb) 82 (0, 0)) :: (Mb ++ L)) (DecDO ap bp bb a (.slice ys js ks) (.slice yg jg kg) K Mb L) := by
 have e1 : (jE a bp bb)[0 + 3]? = some (.int .u8 a.pol) := rfl
 have e2 : (jE a bp bb)[0 + 4]? = some (.int .i64 a.want) := rfl
 have e4 : (jE a bp bb)[0 + 6]? = some (.pointer (some ⟨bb, 0, none⟩)) := rfl
 have hvv : Aq.votes a = Vd.votesB a.l := rfl
 have hdec : Aq.decided a = if ((Vd.votesB a.l).length : Int) < a.want then none else match (Vd.votesB a.l)[0]? with
  | some x => some (x.vd, x.time, [], [])
  | none => none := by unfold Aq.decided; rw [if_neg jd, if_neg (by omega : ¬ a.pol = 2)]; rfl
 refine jm (n := 82) Tryz.func119 rfl rfl rfl ?_
 repeat (first | refine goU ?_ | (refine jO ?_; intro bNew) | (refine kl ?_; intro bBox))
 refine qj (Zs hb) ?_
 rintro _ _ ⟨av, cv, Bv, rfl, hBv, rfl⟩
 by_cases hlen : ((Vd.votesB a.l).length : Int) < a.want
 · rw [if_pos hlen] at hdec
   refine goU ?_
   exact KB 4 107 5 rfl rfl rfl (DecDO.no hdec) jP
 · rw [if_neg hlen] at hdec
   obtain ⟨x, hx⟩ : ∃ x, (Vd.votesB a.l)[0]? = some x := ⟨_, List.getElem?_eq_getElem jd⟩
   rw [hx] at hdec
   dsimp only at hdec
   have hlp : 0 < (Vd.votesB a.l).length := by omega
   obtain ⟨b, cur, rfl, rfl, _, _, _, hc⟩ := hBv.block (fun e => by rw [e] at hlp; simp at hlp)
   obtain ⟨cx, _, hxr, _, hcx⟩ := hc 0 x hx
   obtain ⟨w1, q1, w2, q2, rfl, k1, k2, k3, _⟩ := hxr.vals
   have hcx' : ∀ j v, ([.int .i64 x.up, .int .u8 x.vd.code, .slice w1 x.vd.sets.length q1, .slice w2 x.vd.soa.length q2, .int .u32 x.time] : List Value)[j]? = some v → cur[0 + (0 : Int).toNat * 5 + j]? = some v := fun j v hj => by rw [Nat.zero_add]; exact hcx j v hj
   have g4 : cur[0 + (0 : Int).toNat * 5 + 4]? = some (.int .u32 x.time) := hcx' 4 _ rfl
   have hver : ∀ j v, ([.int .u8 x.vd.code, .slice w1 x.vd.sets.length q1, .slice w2 x.vd.soa.length q2] : List Value)[j]? = some v → cur[0 + (0 : Int).toNat * 5 + 1 + j]? = some v := fun j v hj => by
    rw [Nat.add_assoc]
    match j, hj with
    | 0, hj => exact hcx' 1 v hj
    | 1, hj => exact hcx' 2 v hj
    | 2, hj => exact hcx' 3 v hj
   refine goU ?_
   refine jq jb [(b, .cells cur 202 (0, 0))] [] ?_
   refine tkQ 0 (hK := jf) ?_
   refine tkQ 1 (hK := jf) ?_
   refine tkQ 2 (hK := jf) ?_
   refine jp 3 rfl rfl je (jL (jA [.int .u8 x.vd.code, .slice w1 x.vd.sets.length q1, .slice w2 x.vd.soa.length q2] rfl stL (List.mem_singleton.2 rfl) hver)) jf ?_
   refine tkQ 4 (hK := jf) ?_
   refine tkQ 5 (hK := jf) ?_
   refine tkQ 6 (hK := jf) ?_
   refine tkQ 7 (hK := jf) ?_
   refine tkQ 8 (hK := jf) ?_
   refine aig 9 [.int .u8 x.vd.code, .slice w1 x.vd.sets.length q1, .slice w2 x.vd.soa.length q2] ?_
   refine ⟨jf, ?_⟩
   refine tkQ 10 (hK := jf) ?_
   refine stD 11 ?_
   refine ⟨jf, ?_⟩
   refine tdQ ?_
   refine goU ?_
   exact KB 4 107 5 rfl rfl rfl (DecDO.yes [] hdec ⟨_, _, rfl, k1, k2, k3⟩ jI jI) jP
theorem Zw {ap bp bb : Nat} {a : As} {ys yg : Option Addr} {js ks jg kg : Nat} {K Mb : ja} (hb : KBox K bb a.want a.l Mb) (hA : AWell a) (hKL : ∀ p ∈ K, p ∈ L) :
 Spec Tryz.prog G 119 #[.pointer (some ⟨ap, 0, none⟩), .agg (ke (.slice ys js ks) (.slice yg jg kg))] ((ap, .cells (jE a bp bb) 82 (0, 0)) :: (Mb ++ L)) (DecDO ap bp bb a (.slice ys js ks) (.slice yg jg kg) K Mb L) := by
 rcases hA.ok.pol with h | h | ⟨h, hw⟩
 · exact Zt hb hA hKL h
 · exact Zu hb hA hKL h
 · exact Zv hb hA hKL h hw
end
section
open Go.RowKit
open Hg (En Pl)
open Vd (RSet Vdt Vote Rec Quest Piece Ballot)
section
variable {P : Program} {G : World} {n : Nat} {ρ : jG} {L F : ja} {ty : TypeId} {Q : Exit → Act → World → Prop} {ops : Array Oper}
theorem aem {s x : Operand} {t e : TypeId} {bytes : Nat} {z v : Value} {a : Option Addr} {c : Nat} {l g : List Int} {B : ja} (E : ElemTy P t e 1 bytes z) (hs : ev ρ s = some v) (hx : ev ρ x = some (.slice a g.length c))
 (hrow : Row e 1 v l.length (kC l) B) (hg : IRow L (.slice a g.length c) g) (h63 : l.length + g.length ≤ maxLen) (hby : (l.length + g.length) * bytes ≤ 140737488355328) :
 OpT P G ρ (B ++ L) (.call ⟨.builtin .append, #[s, x], #[t, t]⟩) ty fun v' L' => ∃ a' c' B', v' = .slice a' (l ++ g).length c' ∧ Row e 1 (.slice a' (l ++ g).length c') (l ++ g).length (kC (l ++ g)) B' ∧ L' = B' ++ L := by
 have hi : kC (l ++ g) = kC l ++ kC g := by simp [kC]
 have hn : (l ++ g).length = l.length + g.length := by simp
 have key : OpT P G ρ (B ++ L) (.call ⟨.builtin .append, #[s, x], #[t, t]⟩) ty fun v' L' => ∃ B', Row e 1 v' (l.length + g.length) (kC l ++ kC g) B' ∧ L' = B' ++ L := by
  obtain ⟨a', cap, he, h⟩ := hg
  simp only [Value.slice.injEq, true_and] at he
  obtain ⟨rfl, rfl⟩ := he
  rcases h with rfl | ⟨b, off, C, te, fr, rfl, hm, hc⟩
  · exact zR E hs hx hrow h63 hby
  · refine uA E hs hx hrow ⟨by simp [kC], fun y hy => ?_, Or.inr ⟨b, off, c, C, te, fr, rfl, hm, fun j y hj => ?_⟩⟩ h63 hby
    · obtain ⟨i, _, rfl⟩ := List.mem_map.1 hy
      rfl
    · simp only [kC, List.getElem?_map, Option.map_eq_some_iff] at hj
      obtain ⟨i, hi, rfl⟩ := hj
      simpa using hc j i hi
 rw [← hn, ← hi] at key
 refine key.post fun v' M ⟨B', h1, h2⟩ => ?_
 obtain ⟨a', c', rfl⟩ := h1.slice
 exact ⟨M, ⟨a', c', B', rfl, h1, h2⟩, fun w hw => hw⟩
theorem aih {d : Nat} {s x : Operand} {pos : String} {after : Array Edge} {rest : List Oper} {t e : TypeId} {bytes : Nat} {z v : Value} {a : Option Addr} {c : Nat} {l g : List Int} {B : ja} (hrow : Row e 1 v l.length (kC l) B) (hg : IRow F (.slice a g.length c) g)
 (hr : ∀ a' c' B', Row e 1 (.slice a' (l ++ g).length c') (l ++ g).length (kC (l ++ g)) B' → TL P G ops n ((d, .slice a' (l ++ g).length c') :: ρ) (B' ++ F) rest Q)
 (E : ElemTy P t e 1 bytes z := by exact etO) (hs : ev ρ s = some v := by exact rfl) (hx : ev ρ x = some (.slice a g.length c) := by exact rfl) (hf : Fits (B ++ F) L := by exact jP) (h63 : l.length + g.length ≤ maxLen := by unfold maxLen; omega) (hby : (l.length + g.length) * bytes ≤ 140737488355328 := by omega) (hd : Nat.blt d n = true := by exact rfl) :
 TL P G ops n ρ L (⟨some d, .call ⟨.builtin .append, #[s, x], #[t, t]⟩, ty, pos, after, none⟩ :: rest) Q :=
 jw ((aem E hs hx hrow hg h63 hby).fits hf) hd fun v M ⟨a', c', B', h1, h2, h3⟩ => by subst h1 h3; exact hr a' c' B' h2
theorem acM {d : Nat} {s x : Operand} {pos : String} {after : Array Edge} {rest : List Oper} {t e te : TypeId} {bytes bl : Nat} {z v : Value} {l : List Int} {u : Int} {B : ja} (hrow : Row e 1 v l.length (kC l) B)
 (hr : ∀ a' c' B', Row e 1 (.slice a' (l ++ [u]).length c') (l ++ [u]).length (kC (l ++ [u])) B' → TL P G ops n ((d, .slice a' (l ++ [u]).length c') :: ρ) (B' ++ F) rest Q)
 (E : ElemTy P t e 1 bytes z := by exact etO) (hs : ev ρ s = some v := by exact rfl) (hx : ev ρ x = some (.slice (some ⟨bl, 0, none⟩) 1 1) := by exact rfl) (hf : Fits ((bl, .cells #[.int .i64 u] te (0, 0)) :: (B ++ F)) L := by exact jP) (h63 : l.length + 1 ≤ maxLen := by unfold maxLen; omega) (hby : (l.length + 1) * bytes ≤ 140737488355328 := by omega) (hd : Nat.blt d n = true := by exact rfl) :
 TL P G ops n ρ L (⟨some d, .call ⟨.builtin .append, #[s, x], #[t, t]⟩, ty, pos, after, none⟩ :: rest) Q :=
 jw ((adm E hs hx hrow rfl h63 hby).fits hf) hd fun v M ⟨B', h1, h2⟩ => by
  have hn : (l ++ [u]).length = l.length + 1 := by simp
  have hi : kC (l ++ [u]) = kC l ++ [.int .i64 u] := by simp [kC]
  rw [← hn, ← hi] at h1
  obtain ⟨a', c', rfl⟩ := h1.slice
  subst h2
  exact hr a' c' B' h1
end
variable {G : World} {L : ja}
theorem QC {ap bp bb : Nat} {a : As} {s g : List Int} {Mp Mb K D : ja} {ys yg : Option Addr} {ks kg : Nat} (hp : RPlan bp a.p Mp) (hb : KBox K bb a.want a.l Mb) (hA : AWell a) (hKD : ∀ p ∈ K, p ∈ D) (hDL : ∀ p ∈ D, p ∈ L) (hs9 : s.length ≤ 100) (hs : IRow D (.slice ys s.length ks) s) (hg : IRow D (.slice yg g.length kg) g) :
 Spec Tryz.prog G 89 #[.pointer (some ⟨ap, 0, none⟩), .agg (ke (.slice ys s.length ks) (.slice yg g.length kg))] ((ap, .cells (jE a bp bb) 82 (0, 0)) :: (Mp ++ (Mb ++ L))) fun u M =>
  ∃ cs Mp' N, u = .agg cs.toArray ∧ RPlan bp (Aq.look a (dd s g)).1.p Mp' ∧ Ja (N ++ D) cs (Aq.look a (dd s g)).2 ∧ M = (ap, .cells (jE (Aq.look a (dd s g)).1 bp bb) 82 (0, 0)) :: (Mp' ++ (Mb ++ (N ++ L))) := by
 have hKL : ∀ p ∈ K, p ∈ L := fun p hp => hDL p (hKD p hp)
 have hAw := hA.ok.want
 have hAn := hA.ok.now
 have e2 : (jE a bp bb)[0 + 4]? = some (.int .i64 a.want) := rfl
 have e3 : (jE a bp bb)[0 + 5]? = some (.pointer (some ⟨bp, 0, none⟩)) := rfl
 have e7 : (jE a bp bb)[0 + 7]? = some (.int .i64 a.now) := rfl
 have e9 : (jE a bp bb)[0 + 9]? = some (.bool a.over) := rfl
 refine jm (n := 56) Tryz.func89 rfl rfl rfl ?_
 repeat (first | refine goU ?_ | (refine jO ?_; intro bR) | (refine kl ?_; intro bD))
 refine qj (Zw hb hA ?_) ?_
 · exact fun p hp => (jf) p (hKL p hp)
 rintro _ _ (⟨hdc, rfl, rfl⟩ | ⟨v, t, ag, di, w1, q1, w2, q2, a3, c3, a4, c4, N, hdc, rfl, hv, hag, hdi, rfl⟩)
 rotate_left
 · have hl : Aq.look a (dd s g) = ({ a with over := true }, { dd s g with over := true, done := true, vd := v, time := t, agree := ag, dissent := di }) := by unfold Aq.look; rw [hdc]
   rw [hl]
   refine goU ?_
   exact yQ 4 107 rfl rfl ⟨[.slice ys s.length ks, .slice yg g.length kg, .bool true, .bool true, .int .u8 v.code, .slice w1 v.sets.length q1, .slice w2 v.soa.length q2, .int .u32 t, .slice a3 ag.length c3, .slice a4 di.length c4], Mp, N, rfl, hp, ⟨ys, ks, yg, kg, w1, q1, w2, q2, a3, c3, a4, c4, rfl, hs.mono jf, hg.mono jf, jQ _ _ _ _ (fun p hp => by rcases List.mem_append.1 hp with h | h; exact List.mem_append_left _ h; exact List.mem_append_right _ (hKD p h)) hv, hag.mono jf, hdi.mono jf⟩, rfl⟩ jP
 · have hlk : Aq.look a (dd s g) = Aq.lookL (a.p.list.length + 1) a (dd s g) := by unfold Aq.look; rw [hdc]
   refine goU ?_
   refine jy (σ := Pl × List Int × Option Addr × Nat × ja × ja) (fun x => RPlan bp x.1 x.2.2.2.2.1 ∧ AWell { a with p := x.1 } ∧ x.2.1.length + qK x.1 ≤ 200 ∧ IRow (x.2.2.2.2.2 ++ D) (.slice x.2.2.1 x.2.1.length x.2.2.2.1) x.2.1 ∧ ∃ n, qK x.1 ≤ n ∧ Aq.lookL (n + 1) { a with p := x.1 } (dd x.2.1 g) = Aq.look a (dd s g))
    (fun x => [(0, .pointer (some ⟨ap, 0, none⟩)), (3, .pointer (some ⟨bD, 0, none⟩)), (4, .pointer (some ⟨bR, 0, none⟩))]) (fun x => (ap, Obj.cells (jE a bp bb) 82 (0, 0)) :: (bD, Obj.cells (ke (.slice x.2.2.1 x.2.1.length x.2.2.2.1) (.slice yg g.length kg)) 107 (0, 0)) :: (bR, Obj.cells (ke (.slice none 0 0) (.slice none 0 0)) 107 (0, 0)) :: (x.2.2.2.2.1 ++ (Mb ++ (x.2.2.2.2.2 ++ L)))) (fun x => qK x.1) (a.p, s, ys, ks, Mp, []) ⟨hp, hA, ?_, hs, a.p.list.length, Nat.sub_le _ _, hlk.symm⟩ ?_ (Fits.heap jP) ?_
   · have := hA.ok.good.len
     have : qK a.p ≤ a.p.list.length := Nat.sub_le _ _
     dsimp only
     omega
   · exact jr
   rintro ⟨p, s', y, k, Mq, N⟩ ⟨hp', hA', hsl, hR', n, hn, hlook⟩
   dsimp only at hp' hA' hsl hR' hn hlook ⊢
   rw [← hlook]
   have hop := Um hA'.ok.good
   have hhope := ael (G := G) (ap := ap) (a := { a with p := p }) (X := (ap, Obj.cells (jE a bp bb) 82 (0, 0)) :: (Mq ++ Mb)) (L := (bD, Obj.cells (ke (.slice y s'.length k) (.slice yg g.length kg)) 107 (0, 0)) :: (bR, Obj.cells (ke (.slice none 0 0) (.slice none 0 0)) 107 (0, 0)) :: (N ++ L)) ⟨bp, bb, Mq, Mb, hp', hb, rfl⟩ hA' (fun p hp => by simp [hKL p hp])
   refine goU ?_
   refine jq jb [(ap, Obj.cells (jE a bp bb) 82 (0, 0))] [] ?_
   refine tkQ 0 (hK := jf) ?_
   refine tkQ 2 (hK := jf) ?_
   refine tkQ 3 (hK := jf) ?_
   refine tkQ 4 (hK := jf) ?_
   refine tkQ 5 (hK := jf) ?_
   refine qu 1 hhope ?_
   rintro _ _ ⟨rfl, rfl⟩
   refine ⟨jf, ?_⟩
   refine tkQ 6 (hK := jf) ?_
   refine tdQ ?_
   by_cases hw : a.want ≤ Aq.hope { a with p := p }
   · have e : Aq.lookL (n + 1) { a with p := p } (dd s' g) = ({ a with p := p }, dd s' g) := by unfold Aq.lookL; rw [if_pos hw]
     rw [e]
     refine goU ?_
     exact yQ 4 107 rfl rfl ⟨[.slice y s'.length k, .slice yg g.length kg, .bool false, .bool false, .int .u8 0, .slice none 0 0, .slice none 0 0, .int .u32 0, .slice none 0 0, .slice none 0 0], Mq, N, rfl, hp', ⟨y, k, yg, kg, none, 0, none, 0, none, 0, none, 0, rfl, hR'.mono jf, hg.mono jf, ⟨_, _, rfl, sliceR.nil, sliceR.nil, Int.le_refl 0, show (0 : Int) ≤ 255 by decide⟩, jI, jI⟩, rfl⟩ jP
   · have e : Aq.lookL (n + 1) { a with p := p } (dd s' g) = if (Hg.more p a.now).2.2 then Aq.lookL n { a with p := (Hg.more p a.now).1 } (dd (s' ++ [(Hg.more p a.now).2.1]) g) else ({ a with p := (Hg.more p a.now).1, over := true }, { dd s' g with over := true }) := by rw [Aq.lookL, if_neg hw]; rfl
     rw [e]
     refine goU ?_
     refine jq jb [(ap, Obj.cells (jE a bp bb) 82 (0, 0))] [] ?_
     refine tkQ 0 (hK := jf) ?_
     refine tkQ 1 (hK := jf) ?_
     refine tkQ 2 (hK := jf) ?_
     refine tkQ 3 (hK := jf) ?_
     refine tkQ 4 (hK := jf) ?_
     refine tkQ 5 (hK := jf) ?_
     refine tkQ 6 (hK := jf) ?_
     refine tkQ 7 (hK := jf) ?_
     refine qu 8 (aef hp' a.now) ?_
     rintro _ _ ⟨rfl, M3, hp3, rfl⟩
     refine ⟨jf, ?_⟩
     refine tkQ 9 (hK := jf) ?_
     refine tkQ 10 (hK := jf) ?_
     refine tkQ 11 (hK := jf) ?_
     refine tkQ 12 (hK := jf) ?_
     refine tkQ 13 (hK := jf) ?_
     refine tdQ ?_
     obtain ⟨r, hr⟩ : ∃ r, r = Hg.more p a.now := ⟨_, rfl⟩
     have hA2 : AWell { a with p := r.1 } := by rw [hr]; exact hA'.more
     have hlf : r.2.2 = true → qK r.1 < qK p := by rw [hr]; exact Yp
     rw [← hr] at hp3 ⊢
     cases hm : r.2.2 with
     | false =>
       rw [if_neg (by simp)]
       refine goU ?_
       exact yQ 4 107 rfl rfl ⟨[.slice y s'.length k, .slice yg g.length kg, .bool true, .bool false, .int .u8 0, .slice none 0 0, .slice none 0 0, .int .u32 0, .slice none 0 0, .slice none 0 0], M3, N, rfl, hp3, ⟨y, k, yg, kg, none, 0, none, 0, none, 0, none, 0, rfl, hR'.mono jf, hg.mono jf, ⟨_, _, rfl, sliceR.nil, sliceR.nil, Int.le_refl 0, show (0 : Int) ≤ 255 by decide⟩, jI, jI⟩, rfl⟩ jP
     | true =>
       rw [if_pos rfl]
       have hlf2 := hlf hm
       refine goU ?_
       refine jS (h := yw etO) ?_
       intro bE
       refine goU ?_
       refine aih (l := []) (Row.made (c := 0) (C := #[]) rfl (by decide)) (hR'.mono ?_) ?_ (h63 := by simp only [List.length_nil]; unfold maxLen; omega) (hby := by simp only [List.length_nil]; omega)
       · exact fun p hp => by rcases List.mem_append.1 hp with h | h; exact (jf : ∀ q ∈ N, q ∈ _) p h; exact (jf : ∀ q ∈ L, q ∈ _) p (hDL p h)
       intro a5 c5 B5 hR5
       rw [List.nil_append] at hR5 ⊢
       repeat (first | refine goU ?_ | (refine jS ?_; intro bL))
       refine acM hR5 ?_
       intro a6 c6 B6 hR6
       refine goU ?_
       obtain ⟨n2, rfl⟩ : ∃ n2, n = n2 + 1 := ⟨n - 1, by omega⟩
       refine jh (r.1, s' ++ [r.2.1], a6, c6, M3, B6) ⟨hp3, hA2, ?_, hR6.irow jf, n2, ?_, rfl⟩ ?_ (Fits.heap jP) hlf2
       · dsimp only
         rw [List.length_append, List.length_singleton]
         omega
       · dsimp only; omega
       · exact jr
end
section
open Go.RowKit
open Hg (En Pl)
open Vd (RSet Vdt Vote Rec Quest Piece Ballot)
variable {G : World} {L : ja}
def afl (X : ja → Prop) (L : ja) (d : Dd) (u : Value) (M : ja) : Prop := ∃ cs X' N, u = .agg cs.toArray ∧ Ja (N ++ L) cs d ∧ X X' ∧ M = X' ++ (N ++ L)
theorem aen {K : ja} {ap : Nat} {a : As} {X : ja} (h : zN K ap a X) (hA : AWell a) (hKL : ∀ p ∈ K, p ∈ L) (u : Int) (v : Vdt) (t now : Int) (cv : List Value) (hv : vdR K cv v) (hev : EndOk a.q v) (ht : 0 ≤ t ∧ t ≤ 4294967295) (hu : -9223372036854775808 ≤ u ∧ u ≤ 9223372036854775807) :
 Spec Tryz.prog G 62 #[.pointer (some ⟨ap, 0, none⟩), .int .i64 u, .agg cv.toArray, .int .u32 t, .int .i64 now] (X ++ L) (afl (zN K ap (Aq.vote a u v t now).1) L (Aq.vote a u v t now).2) := by
 obtain ⟨bp, bb, Mp, Mb, hp, hb, rfl⟩ := h
 have hn := hA.ok.now
 obtain ⟨vv1, vc1, vv2, vc2, rfl, hvs1, hvs2, hvc⟩ := hv.vals
 have e3 : (jE a bp bb)[0 + 5]? = some (.pointer (some ⟨bp, 0, none⟩)) := rfl
 have e9 : (jE a bp bb)[0 + 9]? = some (.bool a.over) := rfl
 rw [List.cons_append]
 refine jm (n := 40) Tryz.func62 rfl rfl rfl ?_
 repeat (first | refine goU ?_ | (refine jO ?_; intro bR) | (refine kl ?_; intro bV))
 cases ho : a.over with
 | true =>
   have hm : Aq.vote a u v t now = (a, Dd.none) := by unfold Aq.vote; rw [if_pos ho]
   rw [hm]
   rw [ho] at e9
   refine goU ?_
   exact yQ 10 107 rfl rfl ⟨_, _, [], rfl, qh, ⟨bp, bb, Mp, Mb, hp, hb, rfl⟩, rfl⟩ jP
 | false =>
   rw [ho] at e9
   refine goU ?_
   refine aae (Yr hp u) ?_
   rintro _ _ ⟨rfl, M2, hp2, rfl⟩
   cases hc : (Hg.close a.p u).2 with
   | false =>
     have hm : Aq.vote a u v t now = ({ a with p := (Hg.close a.p u).1 }, Dd.none) := by unfold Aq.vote; rw [if_neg (by rw [ho]; decide), hc]; rfl
     rw [hm]
     refine goU ?_
     exact yQ 10 107 rfl rfl ⟨_, _, [], rfl, qh, ⟨bp, bb, M2, Mb, hp2, hb, rfl⟩, rfl⟩ jP
   | true =>
     obtain ⟨a2, ha2⟩ : ∃ z, z = { (Aq.upto { a with p := (Hg.close a.p u).1 } now) with l := (Vd.putB a.l ⟨⟨u, v, t⟩, false⟩).1 } := ⟨_, rfl⟩
     have hm : Aq.vote a u v t now = Aq.look a2 (dd [] []) := by unfold Aq.vote; rw [if_neg (by rw [ho]; decide), hc, if_pos rfl, ha2]; rfl
     have hw2 : AWell a2 := by rw [ha2]; exact AWell.put (a := Aq.upto { a with p := (Hg.close a.p u).1 } now) (hA.of ((hA.ok.close u).upto now) rfl rfl) ⟨⟨u, v, t⟩, false⟩ (fun _ => hev)
     have he2 : jE (Aq.upto a now) bp bb = jE a2 bp bb := by rw [ha2]; rfl
     have e6 : (jE a2 bp bb)[0 + 6]? = some (.pointer (some ⟨bb, 0, none⟩)) := rfl
     rw [hm]
     refine goU ?_
     refine qj (acL ap bp bb a now hn) ?_
     rintro _ _ rfl
     rw [he2]
     refine goU ?_
     refine jq jb [(ap, .cells (jE a2 bp bb) 82 (0, 0)), (bV, .cells ([.int .u8 v.code, .slice vv1 v.sets.length vc1, .slice vv2 v.soa.length vc2] : List Value).toArray 40 (0, 0))] [] ?_
     refine tkQ 0 (hK := jf) ?_
     refine tkQ 1 (hK := jf) ?_
     refine tkQ 2 (hK := jf) ?_
     refine tkQ 3 (hK := jf) ?_
     refine tkQ 4 (hK := jf) ?_
     refine tkQ 5 (hK := jf) ?_
     refine tkQ 6 (hK := jf) ?_
     refine jp 7 rfl rfl je (jL aak) jf ?_
     refine qu 8 (aid (x := ⟨u, v, t⟩) hb ⟨_, _, rfl, hvs1, hvs2, hvc, ht, hu⟩) ?_
     rintro _ _ ⟨rfl, Mc, hb2, rfl⟩
     refine ⟨jf, ?_⟩
     refine tdQ ?_
     have hb3 : KBox K bb a2.want a2.l Mc := by rw [ha2]; exact hb2
     have hp3 : RPlan bp a2.p M2 := by rw [ha2]; exact hp2
     refine goU ?_
     refine qj (QC (s := []) (g := []) (ys := none) (yg := none) (ks := 0) (kg := 0) (D := L) hp3 hb3 hw2 hKL ?_ (by decide) jI jI) ?_
     · exact jf
     rintro _ _ ⟨cs, M4, N, rfl, hp4, hd, rfl⟩
     have hone := uz hd
     have hsz : cs.toArray.size = 10 := hone.2
     refine Jc rfl rfl stO Qn rfl hone.2 hone.1 ?_
     refine goU ?_
     have hkk := ko (d := dd [] []) hw2.ok
     exact yQ 10 107 rfl rfl ⟨cs, _, N, rfl, hd, ⟨bp, bb, M4, Mc, hp4, (by rw [hkk.2.2.1, hkk.2.2.2.2.1]; exact hb3), rfl⟩, rfl⟩ jP (hk := hsz)
theorem aeo {K : ja} {ap : Nat} {a : As} {X : ja} (h : zN K ap a X) (hA : AWell a) (hKL : ∀ p ∈ K, p ∈ L) (u now : Int) (hu : -9223372036854775808 ≤ u ∧ u ≤ 9223372036854775807) :
 Spec Tryz.prog G 63 #[.pointer (some ⟨ap, 0, none⟩), .int .i64 u, .int .i64 now] (X ++ L) (afl (zN K ap (Aq.pass a u now).1) L (Aq.pass a u now).2) := by
 obtain ⟨bp, bb, Mp, Mb, hp, hb, rfl⟩ := h
 have hn := hA.ok.now
 have e3 : (jE a bp bb)[0 + 5]? = some (.pointer (some ⟨bp, 0, none⟩)) := rfl
 have e9 : (jE a bp bb)[0 + 9]? = some (.bool a.over) := rfl
 rw [List.cons_append]
 refine jm (n := 33) Tryz.func63 rfl rfl rfl ?_
 repeat (first | refine goU ?_ | (refine jO ?_; intro bR))
 cases ho : a.over with
 | true =>
   have hm : Aq.pass a u now = (a, Dd.none) := by unfold Aq.pass; rw [if_pos ho]
   rw [hm]
   rw [ho] at e9
   refine goU ?_
   exact yQ 6 107 rfl rfl ⟨_, _, [], rfl, qh, ⟨bp, bb, Mp, Mb, hp, hb, rfl⟩, rfl⟩ jP
 | false =>
   rw [ho] at e9
   refine goU ?_
   refine aae (Yr hp u) ?_
   rintro _ _ ⟨rfl, M2, hp2, rfl⟩
   cases hc : (Hg.close a.p u).2 with
   | false =>
     have hm : Aq.pass a u now = ({ a with p := (Hg.close a.p u).1 }, Dd.none) := by unfold Aq.pass; rw [if_neg (by rw [ho]; decide), hc]; rfl
     rw [hm]
     refine goU ?_
     exact yQ 6 107 rfl rfl ⟨_, _, [], rfl, qh, ⟨bp, bb, M2, Mb, hp2, hb, rfl⟩, rfl⟩ jP
   | true =>
     obtain ⟨a2, ha2⟩ : ∃ z, z = { (Aq.upto { a with p := (Hg.close a.p u).1 } now) with l := (Vd.putB a.l ⟨⟨u, Vdt.none, 0⟩, true⟩).1 } := ⟨_, rfl⟩
     have hm : Aq.pass a u now = Aq.look a2 (dd [] []) := by unfold Aq.pass; rw [if_neg (by rw [ho]; decide), hc, if_pos rfl, ha2]; rfl
     have hw2 : AWell a2 := by rw [ha2]; exact AWell.put (a := Aq.upto { a with p := (Hg.close a.p u).1 } now) (hA.of ((hA.ok.close u).upto now) rfl rfl) ⟨⟨u, Vdt.none, 0⟩, true⟩ (fun h => by cases h)
     have he2 : jE (Aq.upto a now) bp bb = jE a2 bp bb := by rw [ha2]; rfl
     have e6 : (jE a2 bp bb)[0 + 6]? = some (.pointer (some ⟨bb, 0, none⟩)) := rfl
     rw [hm]
     refine goU ?_
     refine qj (acL ap bp bb a now hn) ?_
     rintro _ _ rfl
     rw [he2]
     refine goU ?_
     refine qj (aie u hu hb) ?_
     rintro _ _ ⟨rfl, Mc, hb2, rfl⟩
     have hb3 : KBox K bb a2.want a2.l Mc := by rw [ha2]; exact hb2
     have hp3 : RPlan bp a2.p M2 := by rw [ha2]; exact hp2
     refine goU ?_
     refine qj (QC (s := []) (g := []) (ys := none) (yg := none) (ks := 0) (kg := 0) (D := L) hp3 hb3 hw2 hKL ?_ (by decide) jI jI) ?_
     · exact jf
     rintro _ _ ⟨cs, M4, N, rfl, hp4, hd, rfl⟩
     have hone := uz hd
     have hsz : cs.toArray.size = 10 := hone.2
     refine Jc rfl rfl stO Qn rfl hone.2 hone.1 ?_
     refine goU ?_
     have hkk := ko (d := dd [] []) hw2.ok
     exact yQ 6 107 rfl rfl ⟨cs, _, N, rfl, hd, ⟨bp, bb, M4, Mc, hp4, (by rw [hkk.2.2.1, hkk.2.2.2.2.1]; exact hb3), rfl⟩, rfl⟩ jP (hk := hsz)
theorem aep {K : ja} {ap : Nat} {a : As} {X : ja} (h : zN K ap a X) (hA : AWell a) (hKL : ∀ p ∈ K, p ∈ L) (now : Int) :
 Spec Tryz.prog G 64 #[.pointer (some ⟨ap, 0, none⟩), .int .i64 now] (X ++ L) (afl (zN K ap (Aq.tick a now).1) L (Aq.tick a now).2) := by
 obtain ⟨bp, bb, Mp, Mb, hp, hb, rfl⟩ := h
 have hn := hA.ok.now
 have e9 : (jE a bp bb)[0 + 9]? = some (.bool a.over) := rfl
 rw [List.cons_append]
 refine jm (n := 45) Tryz.func64 rfl rfl rfl ?_
 repeat (first | refine goU ?_ | (refine jO ?_; intro bR))
 cases ho : a.over with
 | true =>
   have hm : Aq.tick a now = (a, Dd.none) := by unfold Aq.tick; rw [if_pos ho]
   rw [hm]
   rw [ho] at e9
   refine goU ?_
   exact yQ 4 107 rfl rfl ⟨_, _, [], rfl, qh, ⟨bp, bb, Mp, Mb, hp, hb, rfl⟩, rfl⟩ jP
 | false =>
   rw [ho] at e9
   refine goU ?_
   refine qj (acL ap bp bb a now hn) ?_
   rintro _ _ rfl
   obtain ⟨a1, ha1⟩ : ∃ z, z = Aq.upto a now := ⟨_, rfl⟩
   rw [← ha1]
   have hw1 : AWell a1 := by rw [ha1]; exact hA.of (hA.ok.upto now) rfl rfl
   have hap : a1.p = a.p := by rw [ha1]; rfl
   have had : a1.ded = a.ded := by rw [ha1]; rfl
   have hp1 : RPlan bp a1.p Mp := by rw [hap]; exact hp
   have hb1 : KBox K bb a1.want a1.l Mb := by rw [ha1]; exact hb
   have f3 : (jE a1 bp bb)[0 + 5]? = some (.pointer (some ⟨bp, 0, none⟩)) := rfl
   have f7 : (jE a1 bp bb)[0 + 7]? = some (.int .i64 a1.now) := rfl
   have f8 : (jE a1 bp bb)[0 + 8]? = some (.int .i64 a1.ded) := rfl
   have f9 : (jE a1 bp bb)[0 + 9]? = some (.bool a1.over) := rfl
   by_cases hend : a1.ded ≤ a1.now
   · have hm : Aq.tick a now = ({ a1 with over := true }, { Dd.none with over := true }) := by unfold Aq.tick; rw [if_neg (by rw [ho]; decide), ← ha1, if_pos (had ▸ hend)]
     rw [hm]
     refine goU ?_
     exact yQ 4 107 rfl rfl ⟨[.slice none 0 0, .slice none 0 0, .bool true, .bool false, .int .u8 0, .slice none 0 0, .slice none 0 0, .int .u32 0, .slice none 0 0, .slice none 0 0], _, [], rfl, ⟨none, 0, none, 0, none, 0, none, 0, none, 0, none, 0, rfl, jI, jI, ⟨_, _, rfl, sliceR.nil, sliceR.nil, Int.le_refl 0, show (0 : Int) ≤ 255 by decide⟩, jI, jI⟩, ⟨bp, bb, Mp, Mb, hp1, hb1, rfl⟩, rfl⟩ jP
   · obtain ⟨k, hk⟩ : ∃ k, k = Hg.tick a1.p a1.now := ⟨_, rfl⟩
     obtain ⟨a2, ha2⟩ : ∃ z, z = { a1 with p := k.1 } := ⟨_, rfl⟩
     have hm : Aq.tick a now = Aq.look a2 (dd k.2.2 k.2.1) := by unfold Aq.tick; rw [if_neg (by rw [ho]; decide), ← ha1, if_neg (had ▸ hend), ha2, hk, hap]; rfl
     have hw2 : AWell a2 := by rw [ha2, hk]; exact hw1.of (hw1.ok.tick _) rfl rfl
     have hf2 : k.2.2.length ≤ 100 := by rw [hk]; exact Un hw1.ok.good a1.now
     rw [hm]
     refine goU ?_
     refine jq jb [(ap, .cells (jE a1 bp bb) 82 (0, 0))] [] ?_
     refine tkQ 0 (hK := jf) ?_
     refine tkQ 1 (hK := jf) ?_
     refine tkQ 2 (hK := jf) ?_
     refine tkQ 3 (hK := jf) ?_
     refine tkQ 4 (hK := jf) ?_
     refine tkQ 5 (hK := jf) ?_
     refine tkQ 6 (hK := jf) ?_
     refine tkQ 7 (hK := jf) ?_
     have htk := aeh (G := G) (L := (ap, Obj.cells (jE a1 bp bb) 82 (0, 0)) :: (bR, Obj.cells (ke (.slice none 0 0) (.slice none 0 0)) 107 (0, 0)) :: (Mb ++ L)) hp1 hw1.ok.begins a1.now
     rw [← hk] at htk
     refine qu 8 htk ?_
     rintro _ _ ⟨ag, cg, az, cz, Bg, Bs, M2, rfl, hRg, hRs, hp2, rfl⟩
     refine ⟨jf, ?_⟩
     refine tkQ 9 (hK := jf) ?_
     refine tkQ 10 (hK := jf) ?_
     refine tkQ 11 (hK := jf) ?_
     refine tkQ 12 (hK := jf) ?_
     refine tkQ 13 (hK := jf) ?_
     refine tdQ ?_
     have he2 : jE a1 bp bb = jE a2 bp bb := by rw [ha2]; rfl
     have hb3 : KBox K bb a2.want a2.l Mb := by rw [ha2]; exact hb1
     have hp3 : RPlan bp a2.p M2 := by rw [ha2]; exact hp2
     rw [he2]
     refine goU ?_
     refine qj (QC (s := k.2.2) (g := k.2.1) (ys := az) (yg := ag) (ks := cz) (kg := cg) (D := Bs ++ (Bg ++ L)) hp3 hb3 hw2 ?_ ?_ hf2 (hRs.irow jf) (hRg.irow jf)) ?_
     · exact fun p hp => (jf) p (hKL p hp)
     · exact jf
     rintro _ _ ⟨cs, M4, N, rfl, hp4, hd, rfl⟩
     have hone := uz hd
     have hsz : cs.toArray.size = 10 := hone.2
     refine Jc rfl rfl stO Qn rfl hone.2 hone.1 ?_
     refine goU ?_
     have hkk := ko (d := dd k.2.2 k.2.1) hw2.ok
     exact yQ 4 107 rfl rfl ⟨cs, _, N ++ (Bs ++ Bg), rfl, kH _ _ _ _ jf hd, ⟨bp, bb, M4, Mb, hp4, (by rw [hkk.2.2.1, hkk.2.2.2.2.1]; exact hb3), rfl⟩, rfl⟩ jP (hk := hsz)
theorem afm {K : ja} {ap : Nat} {a : As} {X : ja} (h : zN K ap a X) (hA : AWell a) : Spec Tryz.prog G 28 #[.pointer (some ⟨ap, 0, none⟩)] (X ++ L) fun u M => u = .tuple #[.int .i64 (Aq.dueA a).1, .bool (Aq.dueA a).2] ∧ M = X ++ L := by
 obtain ⟨bp, bb, Mp, Mb, hp, hb, rfl⟩ := h
 rw [List.cons_append]
 have e3 : (jE a bp bb)[0 + 5]? = some (.pointer (some ⟨bp, 0, none⟩)) := rfl
 have e7 : (jE a bp bb)[0 + 7]? = some (.int .i64 a.now) := rfl
 have e8 : (jE a bp bb)[0 + 8]? = some (.int .i64 a.ded) := rfl
 have e9 : (jE a bp bb)[0 + 9]? = some (.bool a.over) := rfl
 have hn := hA.ok.now
 have hdn := hA.ok.ded
 have htop : Hg.top = 1099511627776 := rfl
 have hdue := acw hA.ok.good
 refine jm (n := 42) Tryz.func28 rfl rfl rfl ?_
 cases ho : a.over with
 | true =>
   have hq : Aq.dueA a = (0, false) := by unfold Aq.dueA; rw [if_pos ho]
   rw [hq]
   rw [ho] at e9
   refine goU ?_
   exact Qa 2 3 rfl rfl rfl ⟨rfl, rfl⟩ jP
 | false =>
   have hq : Aq.dueA a = if Hg.top < Aq.dueT a then (0, false) else (Aq.dueT a, true) := by unfold Aq.dueA; rw [if_neg (by rw [ho]; decide)]
   have hT : Aq.dueT a = max (if (due a.p).2 then min a.ded (due a.p).1 else a.ded) (a.now + 1) := rfl
   rw [hq]
   rw [ho] at e9
   refine goU ?_
   refine Ut (afk hp hA.ok.begins jf) ?_
   obtain ⟨⟨d1, d2⟩, hd⟩ : ∃ z, z = due a.p := ⟨_, rfl⟩
   rw [← hd] at hT hdue ⊢
   dsimp only at hT hdue ⊢
   obtain ⟨T, hTe⟩ : ∃ T, Aq.dueT a = T := ⟨_, rfl⟩
   rw [hTe] at hT ⊢
   cases d2 with
   | true =>
     rw [if_pos rfl] at hT
     by_cases hlt : a.ded < d1
     · have h1 : T = max a.ded (a.now + 1) := by rw [hT, Int.min_eq_left jd]
       subst h1
       by_cases ht : Hg.top < max a.ded (a.now + 1)
       · rw [if_pos ht]
         rw [htop] at ht
         refine goU ?_
         exact Qa 2 3 rfl rfl rfl ⟨rfl, rfl⟩ jP
       · rw [if_neg ht]
         rw [htop] at ht
         refine goU ?_
         exact Qa 2 3 rfl rfl rfl ⟨rfl, rfl⟩ jP
     · have h1 : T = max d1 (a.now + 1) := by rw [hT, Int.min_eq_right jd]
       subst h1
       by_cases ht : Hg.top < max d1 (a.now + 1)
       · rw [if_pos ht]
         rw [htop] at ht
         refine goU ?_
         exact Qa 2 3 rfl rfl rfl ⟨rfl, rfl⟩ jP
       · rw [if_neg ht]
         rw [htop] at ht
         refine goU ?_
         exact Qa 2 3 rfl rfl rfl ⟨rfl, rfl⟩ jP
   | false =>
     rw [if_neg (by decide)] at hT
     subst hT
     by_cases ht : Hg.top < max a.ded (a.now + 1)
     · rw [if_pos ht]
       rw [htop] at ht
       refine goU ?_
       exact Qa 2 3 rfl rfl rfl ⟨rfl, rfl⟩ jP
     · rw [if_neg ht]
       rw [htop] at ht
       refine goU ?_
       exact Qa 2 3 rfl rfl rfl ⟨rfl, rfl⟩ jP
theorem aeq {K : ja} {ap : Nat} {a : As} {X : ja} (h : zN K ap a X) : Spec Tryz.prog G 26 #[.pointer (some ⟨ap, 0, none⟩)] (X ++ L) fun u M => ∃ b2 X2, u = .pointer (some ⟨b2, 0, none⟩) ∧ zN K b2 a X2 ∧ M = X2 ++ (X ++ L) := by
 obtain ⟨bp, bb, Mp, Mb, hp, hb, rfl⟩ := h
 rw [List.cons_append]
 have e3 : (jE a bp bb)[0 + 5]? = some (.pointer (some ⟨bp, 0, none⟩)) := rfl
 have e6 : (jE a bp bb)[0 + 6]? = some (.pointer (some ⟨bb, 0, none⟩)) := rfl
 refine jm (n := 19) Tryz.func26 rfl rfl rfl ?_
 repeat (first | refine goU ?_ | (refine jO ?_; intro bN))
 refine jq jb [(ap, .cells (jE a bp bb) 82 (0, 0))] [] ?_
 refine tkQ 0 (hK := jf) ?_
 refine tkQ 1 (hK := jf) ?_
 refine tkQ 2 (hK := jf) ?_
 refine tkQ 3 (hK := jf) ?_
 refine tkQ 5 (hK := jf) ?_
 refine tkQ 6 (hK := jf) ?_
 refine tkQ 7 (hK := jf) ?_
 refine tkQ 8 (hK := jf) ?_
 refine qu 4 (aeg hp ?_) ?_
 · exact jf
 rintro _ _ ⟨b2, M2, rfl, hp2, rfl⟩
 refine ⟨jf, ?_⟩
 refine qu 9 (aif hb ?_) ?_
 · exact jf
 rintro _ _ ⟨b3, M3, rfl, hb3, rfl⟩
 refine ⟨jf, ?_⟩
 refine tkQ 10 (hK := jf) ?_
 refine stD 11 ?_
 refine ⟨jf, ?_⟩
 refine tkQ 12 (hK := jf) ?_
 refine stD 13 ?_
 refine ⟨jf, ?_⟩
 refine tdQ ?_
 refine goU ?_
 exact uM 2 rfl rfl ⟨bN, _, rfl, ⟨b2, b3, M2, M3, hp2, hb3, rfl⟩, rfl⟩ jP
end
section
open Go.RowKit
open Hg (En Pl)
open Vd (RSet Vdt Vote Rec Quest Piece Ballot)
variable {G : World} {L : ja}
theorem Ys (ca cb : List Value) (a b : Vdt) (ha : vdR L ca a) (hb : vdR L cb b) : Spec Tryz.prog G 55 #[.agg ca.toArray, .agg cb.toArray] L fun u M => u = .bool (decide (a = b)) ∧ M = L := by
 obtain ⟨a1, a2, rfl, ha1, ha2, _⟩ := ha
 obtain ⟨b1, b2, rfl, hb1, hb2, _⟩ := hb
 refine jm (n := 24) Tryz.func55 rfl rfl rfl ?_
 by_cases n1 : a.code = b.code
 rotate_left
 · rw [decide_eq_false (fun e => n1 (by rw [e]))]
   repeat (first | refine goA ?_ | (refine kl ?_; intro bBox))
   refine jJ (L' := L) ?_ jn
   refine ji 4 _ rfl rfl ?_
   exact ⟨rfl, rfl⟩
 repeat (first | refine goA ?_ | (refine kl ?_; intro bBox))
 refine kf (jc je rfl (zA _ _ a.sets b.sets (jx jC _ _ _ _ jf ha1) (jx jC _ _ _ _ jf hb1))) rfl ?_
 by_cases n2 : a.sets = b.sets
 rotate_left
 · rw [decide_eq_false n2, decide_eq_false (fun e => n2 (by rw [e]))]
   refine goA ?_
   refine jJ (L' := L) ?_ jn
   refine ji 4 _ rfl rfl ?_
   exact ⟨rfl, rfl⟩
 rw [decide_eq_true n2]
 refine goA ?_
 refine kf (jc je rfl (zA _ _ a.soa b.soa (jx jC _ _ _ _ jf ha2) (jx jC _ _ _ _ jf hb2))) rfl ?_
 have e : decide (a = b) = decide (a.soa = b.soa) := by congr 1; rw [abH]; simp [n1, n2]
 rw [e]
 refine goA ?_
 refine jJ (L' := L) ?_ jn
 refine ji 4 _ rfl rfl ?_
 exact ⟨rfl, rfl⟩
structure DFew (d : Dd) : Prop where
 sends : d.sends.length ≤ 1000000
 gone : d.gone.length ≤ 1000000
 agree : d.agree.length ≤ 1000000
 dissent : d.dissent.length ≤ 1000000
theorem yo (ca cb : List Value) (a b : Dd) (ha : Ja L ca a) (hb : Ja L cb b) (hf : DFew a) : Spec Tryz.prog G 44 #[.agg ca.toArray, .agg cb.toArray] L fun u M => u = .bool (decide (a = b)) ∧ M = L := by
 obtain ⟨y1, k1, y2, k2, y3, k3, y4, k4, y5, k5, y6, k6, rfl, ha1, ha2, ha3, ha4, ha5⟩ := ha
 obtain ⟨z1, w1, z2, w2, z3, w3, z4, w4, z5, w5, z6, w6, rfl, hb1, hb2, hb3, hb4, hb5⟩ := hb
 have q4 : ∀ j v, ([.int .u8 a.vd.code, .slice y3 a.vd.sets.length k3, .slice y4 a.vd.soa.length k4] : List Value)[j]? = some v → ([.slice y1 a.sends.length k1, .slice y2 a.gone.length k2, .bool a.over, .bool a.done, .int .u8 a.vd.code, .slice y3 a.vd.sets.length k3, .slice y4 a.vd.soa.length k4, .int .u32 a.time, .slice y5 a.agree.length k5, .slice y6 a.dissent.length k6] : List Value).toArray[0 + 4 + j]? = some v := fun j v hj => by
  match j, hj with
  | 0, hj => exact hj
  | 1, hj => exact hj
  | 2, hj => exact hj
 have r4 : ∀ j v, ([.int .u8 b.vd.code, .slice z3 b.vd.sets.length w3, .slice z4 b.vd.soa.length w4] : List Value)[j]? = some v → ([.slice z1 b.sends.length w1, .slice z2 b.gone.length w2, .bool b.over, .bool b.done, .int .u8 b.vd.code, .slice z3 b.vd.sets.length w3, .slice z4 b.vd.soa.length w4, .int .u32 b.time, .slice z5 b.agree.length w5, .slice z6 b.dissent.length w6] : List Value).toArray[0 + 4 + j]? = some v := fun j v hj => by
  match j, hj with
  | 0, hj => exact hj
  | 1, hj => exact hj
  | 2, hj => exact hj
 refine jm (n := 59) Tryz.func44 rfl rfl rfl ?_
 by_cases n1 : a.over = b.over
 rotate_left
 · have en1 : (a.over == b.over) = false := beq_false_of_ne n1
   rw [decide_eq_false (fun e => n1 (by rw [e]))]
   repeat (first | refine goA ?_ | (refine kl ?_; intro bBox))
   refine jJ (L' := L) ?_ jn
   refine ji 4 _ rfl rfl ?_
   exact ⟨rfl, rfl⟩
 have en1 : (a.over == b.over) = true := beq_iff_eq.2 n1
 by_cases n2 : a.done = b.done
 rotate_left
 · have en2 : (a.done == b.done) = false := beq_false_of_ne n2
   rw [decide_eq_false (fun e => n2 (by rw [e]))]
   repeat (first | refine goA ?_ | (refine kl ?_; intro bBox))
   refine jJ (L' := L) ?_ jn
   refine ji 4 _ rfl rfl ?_
   exact ⟨rfl, rfl⟩
 have en2 : (a.done == b.done) = true := beq_iff_eq.2 n2
 by_cases n3 : a.time = b.time
 rotate_left
 · rw [decide_eq_false (fun e => n3 (by rw [e]))]
   repeat (first | refine goA ?_ | (refine kl ?_; intro bBox))
   refine jJ (L' := L) ?_ jn
   refine ji 4 _ rfl rfl ?_
   exact ⟨rfl, rfl⟩
 repeat (first | refine goA ?_ | (refine kl ?_; intro bBox))
 refine kf (jc je rfl (VY _ _ a.sends b.sends (ha1.mono jf) (hb1.mono jf) hf.sends)) rfl ?_
 by_cases n4 : a.sends = b.sends
 rotate_left
 · rw [beq_false_of_ne n4, decide_eq_false (fun e => n4 (by rw [e]))]
   refine goA ?_
   refine jJ (L' := L) ?_ jn
   refine ji 4 _ rfl rfl ?_
   exact ⟨rfl, rfl⟩
 rw [beq_iff_eq.2 n4]
 refine goA ?_
 refine kf (jc je rfl (VY _ _ a.gone b.gone (ha2.mono jf) (hb2.mono jf) hf.gone)) rfl ?_
 by_cases n5 : a.gone = b.gone
 rotate_left
 · rw [beq_false_of_ne n5, decide_eq_false (fun e => n5 (by rw [e]))]
   refine goA ?_
   refine jJ (L' := L) ?_ jn
   refine ji 4 _ rfl rfl ?_
   exact ⟨rfl, rfl⟩
 rw [beq_iff_eq.2 n5]
 refine goA ?_
 refine kf (jc je rfl (VY _ _ a.agree b.agree (ha4.mono jf) (hb4.mono jf) hf.agree)) rfl ?_
 by_cases n6 : a.agree = b.agree
 rotate_left
 · rw [beq_false_of_ne n6, decide_eq_false (fun e => n6 (by rw [e]))]
   refine goA ?_
   refine jJ (L' := L) ?_ jn
   refine ji 4 _ rfl rfl ?_
   exact ⟨rfl, rfl⟩
 rw [beq_iff_eq.2 n6]
 refine goA ?_
 refine kf (jc je rfl (VY _ _ a.dissent b.dissent (ha5.mono jf) (hb5.mono jf) hf.dissent)) rfl ?_
 by_cases n7 : a.dissent = b.dissent
 rotate_left
 · rw [beq_false_of_ne n7, decide_eq_false (fun e => n7 (by rw [e]))]
   refine goA ?_
   refine jJ (L' := L) ?_ jn
   refine ji 4 _ rfl rfl ?_
   exact ⟨rfl, rfl⟩
 rw [beq_iff_eq.2 n7]
 refine goA ?_
 refine jN (jA [.int .u8 a.vd.code, .slice y3 a.vd.sets.length k3, .slice y4 a.vd.soa.length k4] rfl stL (List.mem_cons_of_mem _ (List.mem_cons_self ..)) q4) rfl ?_
 refine goA ?_
 refine jN (jA [.int .u8 b.vd.code, .slice z3 b.vd.sets.length w3, .slice z4 b.vd.soa.length w4] rfl stL (List.mem_cons_self ..) r4) rfl ?_
 repeat (refine ql rfl rfl ?_ ?_; (· with_reducible rfl))
 refine kf (jc je rfl (Ys _ _ a.vd b.vd (jQ _ _ _ _ jf ha3) (jQ _ _ _ _ jf hb3))) rfl ?_
 have e : decide (a = b) = decide (a.vd = b.vd) := by
  congr 1
  obtain ⟨s1, s2, s3, s4, s5, s6, s7, s8⟩ := a
  obtain ⟨t1, t2, t3, t4, t5, t6, t7, t8⟩ := b
  dsimp only at n1 n2 n3 n4 n5 n6 n7
  subst n1 n2 n3 n4 n5 n6 n7
  simp
 rw [e]
 refine goA ?_
 refine jJ (L' := L) ?_ jn
 refine ji 4 _ rfl rfl ?_
 exact ⟨rfl, rfl⟩
theorem JO (ca cb : List Value) (a b : Dd) (ha : Ja L ca a) (hb : Ja L cb b) (hf : DFew a) : Spec Tryz.prog G 12 #[.agg ca.toArray, .agg cb.toArray] L fun u M => u = .bool (decide (a = b)) ∧ M = L := by
 have h1 := (uz ha)
 have h2 := (uz hb)
 refine jm (n := 8) Tryz.func12 rfl rfl rfl ?_
 repeat (first | refine goA ?_ | (refine kl ?_; intro bBox))
 refine jB (Jk rfl stO (List.mem_cons_of_mem _ (List.mem_cons_self ..)) h1.2) rfl ?_
 refine jB (Jk rfl stO (List.mem_cons_self ..) h2.2) rfl ?_
 skip
 refine jU (jc je rfl (yo ca cb a b (kH _ _ _ _ jf ha) (kH _ _ _ _ jf hb) hf)) rfl ?_
 refine goA ?_
 refine jJ (L' := L) ?_ jn
 refine ji 4 _ rfl rfl ?_
 exact ⟨rfl, rfl⟩
end
section
open Hg (En Pl)
open Vd (RSet Vdt Vote Rec Quest Piece Ballot)
theorem Qb (l : List Int) : (kI l).length ≤ 9 * l.length := by
 have h : ∀ (ns : List Nat), (ns.flatMap fun (n : Nat) => l.filter fun x => x == (n : Int)).length ≤ ns.length * l.length := fun ns => by
  induction ns with
  | nil => simp
  | cons n ns ih =>
    rw [List.flatMap_cons, List.length_append, List.length_cons, Nat.succ_mul]
    have := List.length_filter_le (fun x => x == (n : Int)) l
    omega
 have := h (List.range 9)
 rw [List.length_range] at this
 exact this
theorem acN (want : Int) (vs : List Vote) : (qr want vs).2.2.1.length ≤ 9 * vs.length := by
 unfold qr
 split
 · simp
 · split
   · refine Nat.le_trans (Qb _) (Nat.mul_le_mul_left _ ?_)
     rw [List.length_map]
     unfold jR
     exact Nat.le_trans (List.length_filter_le _ _) (by rw [List.length_take]; omega)
   · simp
theorem Yt (want : Int) (vs : List Vote) : (kw want vs).length ≤ 9 * vs.length := by
 unfold kw
 split
 · refine Nat.le_trans (Qb _) (Nat.mul_le_mul_left _ ?_)
   rw [List.length_map]
   exact List.length_filter_le _ _
 · simp
theorem aa5 {a : As} (h : AOk a) : (Aq.votes a).length ≤ 9 := Nat.le_trans (j7 a.l) h.box.len
structure DSh (d : Dd) : Prop where
 sends : d.sends.length ≤ 1000
 gone : d.gone.length ≤ 1000
 agree : d.agree.length ≤ 1000
 dissent : d.dissent.length ≤ 1000
theorem DSh.few {d : Dd} (h : DSh d) : DFew d := ⟨Nat.le_trans h.sends (by decide), Nat.le_trans h.gone (by decide), Nat.le_trans h.agree (by decide), Nat.le_trans h.dissent (by decide)⟩
theorem Vi : ∀ (n : Nat) (a : As) (d : Dd), (Aq.lookL n a d).2.sends.length ≤ d.sends.length + n ∧ (Aq.lookL n a d).2.gone = d.gone ∧ (Aq.lookL n a d).2.agree = d.agree ∧ (Aq.lookL n a d).2.dissent = d.dissent
 | 0, a, d => ⟨Nat.le_refl _, rfl, rfl, rfl⟩
 | n + 1, a, d => by
   unfold Aq.lookL
   split
   · exact ⟨by dsimp only; omega, rfl, rfl, rfl⟩
   · split
     · obtain ⟨h1, h2, h3, h4⟩ := Vi n { a with p := (Hg.more a.p a.now).1 } { d with sends := d.sends ++ [(Hg.more a.p a.now).2.1] }
       refine ⟨?_, h2, h3, h4⟩
       rw [List.length_append, List.length_singleton] at h1
       omega
     · exact ⟨by dsimp only; omega, rfl, rfl, rfl⟩
theorem JP {a : As} {d : Dd} (h : AOk a) (h1 : d.sends.length ≤ 500) (h2 : d.gone.length ≤ 500) (h3 : d.agree = []) (h4 : d.dissent = []) : DSh (Aq.look a d).2 := by
 have hv := aa5 h
 have hl := h.good.len
 unfold Aq.look
 split
 · rename_i v t ag di hd
   have hb : ag.length ≤ 81 ∧ di.length ≤ 81 := by
    unfold Aq.decided at hd
    split at hd
    · split at hd
      · have w1 := acN a.want (Aq.votes a)
        have w2 := Yt a.want (Aq.votes a)
        simp only [Option.some.injEq, Prod.mk.injEq] at hd
        obtain ⟨_, _, rfl, rfl⟩ := hd
        omega
      · cases hd
    · split at hd
      · cases hd
      · split at hd
        · simp only [Option.some.injEq, Prod.mk.injEq] at hd
          obtain ⟨_, _, rfl, rfl⟩ := hd
          simp
        · split at hd
          · simp only [Option.some.injEq, Prod.mk.injEq] at hd
            obtain ⟨_, _, rfl, rfl⟩ := hd
            simp
          · cases hd
   exact ⟨by dsimp only; omega, by dsimp only; omega, by dsimp only; omega, by dsimp only; omega⟩
 · obtain ⟨k1, k2, k3, k4⟩ := Vi (a.p.list.length + 1) a d
   exact ⟨by omega, by rw [k2]; omega, by rw [k3, h3]; simp, by rw [k4, h4]; simp⟩
theorem none_sh : DSh Dd.none := ⟨Nat.zero_le _, Nat.zero_le _, Nat.zero_le _, Nat.zero_le _⟩
theorem aer {a : As} (h : AOk a) (u : Int) (v : Vdt) (t now : Int) : DSh (Aq.vote a u v t now).2 := by
 unfold Aq.vote
 split
 · exact none_sh
 · split
   · exact JP (AOk.put (a := Aq.upto { a with p := (Hg.close a.p u).1 } now) ((h.close u).upto now) ⟨⟨u, v, t⟩, false⟩) (Nat.zero_le _) (Nat.zero_le _) rfl rfl
   · exact none_sh
theorem aes {a : As} (h : AOk a) (u now : Int) : DSh (Aq.pass a u now).2 := by
 unfold Aq.pass
 split
 · exact none_sh
 · split
   · exact JP (AOk.put (a := Aq.upto { a with p := (Hg.close a.p u).1 } now) ((h.close u).upto now) ⟨⟨u, Vdt.none, 0⟩, true⟩) (Nat.zero_le _) (Nat.zero_le _) rfl rfl
   · exact none_sh
theorem acO {p : Pl} (h : Good p) (t : Int) : (Hg.tick p t).2.1.length ≤ 100 := by
 have h9 := h.len
 unfold Hg.tick
 split
 · simp
 · have f2 := yK (Hg.goneE (Hg.advance p t).now (Hg.advance p t).wait (Hg.advance p t).tries) (Hg.advance p t).list (fun x => by unfold Hg.goneE; split <;> simp) p.list.length
   rw [List.take_of_length_le (by simp [Hg.advance])] at f2
   dsimp only
   omega
theorem aet {a : As} (h : AOk a) (now : Int) : DSh (Aq.tick a now).2 := by
 unfold Aq.tick
 split
 · exact none_sh
 · split
   · exact ⟨Nat.zero_le _, Nat.zero_le _, Nat.zero_le _, Nat.zero_le _⟩
   · exact JP (a := { (Aq.upto a now) with p := (Hg.tick a.p (Aq.upto a now).now).1 }) ((h.upto now).tick _) (Nat.le_trans (Un h.good _) (by decide)) (Nat.le_trans (acO h.good _) (by decide)) rfl rfl
theorem Vj (p : Pl) : (Hg.begin' p).2.length ≤ p.list.length := by
 unfold Hg.begin'
 split
 · simp
 · rw [(qR _ _).2.2.2]
   exact Nat.le_trans (Nat.min_le_right _ _) (Nat.sub_le _ _)
theorem afn {q : Quest} {z : Cn.Zo} {l : List Int} {c : Cn.Cf} {now : Int} (h : NewIn q z l c now) (hq : QOk q) : DSh (Aq.new1 q z l c now).2 := by
 obtain ⟨n1, _⟩ := yl h.may
 obtain ⟨_, _, o3⟩ := V9 (pol := z.pol) (tru := z.tru) h.dist n1.2
 refine JP (ym h hq).ok (Nat.le_trans (Vj _) ?_) (Nat.zero_le _) rfl rfl
 simp only [Hg.mk, List.length_map]
 omega
end
section
open Go.RowKit
open Cn (Zo Cf)
variable {G : World} {L : ja}
def Wd (p : Nat) : Nm.Bytes := if p = 1 then Cn.strictW else if p = 2 then Cn.unionW else if p = 3 then Cn.trustedW else if p = 4 then Cn.refuseW else []
def pols : List Nm.Bytes := [[], [115, 116, 114, 105, 99, 116], [117, 110, 105, 111, 110], [116, 114, 117, 115, 116, 101, 100], [114, 101, 102, 117, 115, 101]]
theorem Vk (p : Nat) (hp : p ≤ 255) : Spec Tryz.prog G 117 #[.int .u8 (p : Nat)] L fun u M => u = .string (bs (Wd p)) ∧ M = L := by
 refine jm (n := 14) Tryz.func117 rfl rfl rfl ?_
 repeat (first | refine goA ?_ | (refine jS ?_; intro bLit))
 refine j0 (kr (C := (pols.map YT).toArray) (vs := [(0, .string (bs [])), (1, .string (bs [115, 116, 114, 105, 99, 116])), (2, .string (bs [117, 110, 105, 111, 110])), (3, .string (bs [116, 114, 117, 115, 116, 101, 100])), (4, .string (bs [114, 101, 102, 117, 115, 101]))]) rfl (uS etO [.string (bs []), .string (bs [115, 116, 114, 105, 99, 116]), .string (bs [117, 110, 105, 111, 110]), .string (bs [116, 114, 117, 115, 116, 101, 100]), .string (bs [114, 101, 102, 117, 115, 101])] rfl (by intro v hv; simp only [List.mem_cons, List.not_mem_nil, or_false] at hv; rcases hv with rfl | rfl | rfl | rfl | rfl <;> rfl) (by decide) rfl)) rfl ?_
 intro b
 by_cases h5 : 5 ≤ p
 · have e : Wd p = [] := by unfold Wd; rw [if_neg jd, if_neg jd, if_neg jd, if_neg jd]
   rw [e]
   repeat (first | refine goA ?_ | (refine jS ?_; intro bLit))
   refine ju (fun w h => h.tail) ?_
   refine ji 2 _ rfl rfl ?_
   exact ⟨rfl, rfl⟩
 · have g : (pols.map YT).toArray[0 + p * 1]? = some (.string (bs (Wd p))) := by
    rcases (by omega : p = 0 ∨ p = 1 ∨ p = 2 ∨ p = 3 ∨ p = 4) with rfl | rfl | rfl | rfl | rfl <;> rfl
   have g' : (pols.map YT).toArray[0 + (p : Int).toNat * 1]? = some (.string (bs (Wd p))) := g
   repeat (first | refine goA ?_ | (refine jS ?_; intro bLit))
   obtain ⟨ti, i2, i3, i4, i5⟩ := (etO (P := Tryz.prog) (t := 120)).info
   refine jB (yr rfl rfl (etO (P := Tryz.prog) (t := 120)).und i2 i4 jd jd) rfl ?_
   repeat (first | refine goA ?_ | (refine jS ?_; intro bLit))
   refine ju (fun w h => h.tail) ?_
   refine ji 2 _ rfl rfl ?_
   exact ⟨rfl, rfl⟩
end
section
open Go.RowKit
open Cn (Zo Cf)
variable {G : World} {L : ja}
section
variable {P : Program} {n : Nat} {ρ : jG} {Q : Exit → Act → World → Prop} {ops : Array Oper} {rest : List Oper}
theorem Uv {ρ' : jG} (h : TL P G ops n ρ' L rest Q) (hs : Sub ρ' ρ) : TL P G ops n ρ L rest Q := ⟨fun a w he hw => h.out a w (he.weak hs.get) hw⟩
theorem orM {o1 o2 o3 o4 o5 : Oper} (j d : Nat) (t : Bool) {b : Bool} {v : Value} (k : TL P G ops n [(d, .bool (b || t)), (1, v)] L rest Q) (hl : ρ.lookup j = some (.bool b) := by exact rfl) (hv : ρ.lookup 1 = some v := by exact rfl)
 (f0 : ∀ r, b = false → TL P G ops n [(d, .bool t), (1, v)] L r Q → TL P G ops n ρ L (o1 :: o2 :: o3 :: o4 :: o5 :: r) Q := by (intro r hb key; refine goU ?_; exact Uv key jr))
 (f1 : ∀ r, b = true → TL P G ops n [(d, .bool true), (1, v)] L r Q → TL P G ops n ρ L (o1 :: o2 :: o3 :: o4 :: o5 :: r) Q := by (intro r hb key; refine goU ?_; exact Uv key jr)) : TL P G ops n ρ L (o1 :: o2 :: o3 :: o4 :: o5 :: rest) Q := by
 cases b with
 | false => exact f0 _ rfl k
 | true => exact f1 _ rfl k
theorem orN {o1 o2 o3 o4 o5 o6 : Oper} (j d : Nat) (t : Bool) {b : Bool} {v : Value} (k : TL P G ops n [(d, .bool (b || t)), (1, v)] L rest Q) (hl : ρ.lookup j = some (.bool b) := by exact rfl) (hv : ρ.lookup 1 = some v := by exact rfl)
 (f0 : ∀ r, b = false → TL P G ops n [(d, .bool t), (1, v)] L r Q → TL P G ops n ρ L (o1 :: o2 :: o3 :: o4 :: o5 :: o6 :: r) Q := by (intro r hb key; refine goU ?_; exact Uv key jr))
 (f1 : ∀ r, b = true → TL P G ops n [(d, .bool true), (1, v)] L r Q → TL P G ops n ρ L (o1 :: o2 :: o3 :: o4 :: o5 :: o6 :: r) Q := by (intro r hb key; refine goU ?_; exact Uv key jr)) : TL P G ops n ρ L (o1 :: o2 :: o3 :: o4 :: o5 :: o6 :: rest) Q := by
 cases b with
 | false => exact f0 _ rfl k
 | true => exact f1 _ rfl k
theorem aeF {d : Nat} {b : Bool} {l : List Oper} (h1 : b = true → TL P G ops n ((d, .bool true) :: ρ) L l Q) (h0 : b = false → TL P G ops n ((d, .bool false) :: ρ) L l Q) : TL P G ops n ((d, .bool b) :: ρ) L l Q := by
 cases b with
 | false => exact h0 rfl
 | true => exact h1 rfl
end
theorem QD (l : Nm.Bytes) (h : l.length ≤ 1000000) : Spec Tryz.prog G 76 #[.string (bs l)] L fun u M => u = .bool (Nm.may l) ∧ M = L := Spec.ofBelow fun w => kJ (bs l) w (yG h)
def Yu (c : Cf) : Prop := (((((((((((1 ≤ c.ups) ∧ c.ups ≤ 9) ∧ c.ups % 2 = 1) ∧ 1 ≤ c.hdg) ∧ c.hdg ≤ 1000) ∧ 1 ≤ c.wai) ∧ c.wai ≤ 1000) ∧ 1 ≤ c.tri) ∧ c.tri ≤ 4) ∧ c.ded ≤ 100000) ∧ (c.ups - 1) / 2 * c.hdg + c.tri * c.wai ≤ c.ded)
def Yv (c : Cf) : Prop := (((((((((((((1 ≤ c.res) ∧ c.res ≤ 100000) ∧ 1 ≤ c.lim) ∧ c.lim ≤ 100) ∧ 0 ≤ c.cac) ∧ c.cac ≤ 256) ∧ 1 ≤ c.fli) ∧ c.fli ≤ 32) ∧ 1 ≤ c.wtr) ∧ c.wtr ≤ 16) ∧ 0 ≤ c.ttl) ∧ c.ttl ≤ 2147483647) ∧ 512 ≤ c.siz) ∧ c.siz ≤ 4096
theorem held_may {c : Cf} : u5 c ↔ Yu c ∧ Yv c := by
 unfold u5 Yu Yv
 constructor
 · intro h
   have e : (c.ups - 1) / 2 = c.ups / 2 := by omega
   rw [e]
   omega
 · intro h
   have e : (c.ups - 1) / 2 = c.ups / 2 := by omega
   rw [e] at h
   omega
theorem KC {c : Cf} (h : ¬ u5 c) : uW c = 1 := zu (by unfold Cn.mayP; rw [show Cn.mayNum c = false from decide_eq_false h]; rfl)
theorem uN {c : Cf} (h : Cn.mayZs c.ups c.zs = false) : uW c = 1 := zu (by unfold Cn.mayP; rw [h, Bool.and_false])
theorem aeu {t n : Nat} (ht : t < 65536) (h : ∀ u, n ≤ u → u < 16 → t / 2 ^ u % 2 ≠ 1) : t / 2 ^ n = 0 := by
 refine Nat.div_eq_of_lt (Nat.lt_pow_two_of_testBit t fun u hu => ?_)
 rcases Nat.lt_or_ge u 16 with q | q
 · rw [V7]
   exact decide_eq_false (h u hu q)
 · exact Nat.testBit_lt_two_pow (Nat.lt_of_lt_of_le ht (by rw [show 65536 = 2 ^ 16 by decide]; exact Nat.pow_le_pow_right (by decide) q))
theorem Zx {t n u : Nat} (h : n ≤ u) (hb : t / 2 ^ u % 2 = 1) : t / 2 ^ n ≠ 0 := fun k => by
 have h1 : t / 2 ^ u ≤ t / 2 ^ n := Nat.div_le_div_left (Nat.pow_le_pow_right (by decide) h) (Nat.pos_of_ne_zero (by simp))
 rw [k] at h1
 rw [Nat.le_zero.1 h1] at hb
 simp at hb
theorem acP {p : Nat} (h : Wd p = []) : p ≠ 1 ∧ p ≠ 2 ∧ p ≠ 3 ∧ p ≠ 4 := by
 refine ⟨?_, ?_, ?_, ?_⟩ <;> (rintro rfl; exact absurd h (by decide))
theorem aa6 {p : Nat} (h : Wd p ≠ []) : p = 1 ∨ p = 2 ∨ p = 3 ∨ p = 4 := by
 refine Decidable.byContradiction fun k => h ?_
 unfold Wd
 rw [if_neg jd, if_neg jd, if_neg jd, if_neg jd]
theorem afo (c : Cf) (v : Value) (h : CfL L c v) : Spec Tryz.prog G 85 #[.agg (jo c v).toArray] L fun u M => u = .int .i64 (uW c) ∧ M = L := by
 have hz := h.row
 obtain ⟨a, cap, e, hz⟩ := hz.val
 obtain rfl := (List.cons.inj e).1
 clear e
 have hmax := (sliceR.cut hz).2.2.1
 have hcap := (sliceR.cut hz).2.1
 unfold maxLen at hmax
 refine jm (n := 214) Tryz.func85 rfl rfl rfl ?_
 refine kh (jY (j0 (kF rfl) rfl ?_))
 intro b1
 have g0 : (jo (c) (.slice a c.zs.length cap)).toArray[0 + 0]? = some (.int .i64 (c).ups) := rfl
 have g1 : (jo (c) (.slice a c.zs.length cap)).toArray[0 + 1]? = some (.int .i64 (c).ded) := rfl
 have g2 : (jo (c) (.slice a c.zs.length cap)).toArray[0 + 2]? = some (.int .i64 (c).hdg) := rfl
 have g3 : (jo (c) (.slice a c.zs.length cap)).toArray[0 + 3]? = some (.int .i64 (c).wai) := rfl
 have g4 : (jo (c) (.slice a c.zs.length cap)).toArray[0 + 4]? = some (.int .i64 (c).tri) := rfl
 have g5 : (jo (c) (.slice a c.zs.length cap)).toArray[0 + 5]? = some (.int .i64 (c).res) := rfl
 have g6 : (jo (c) (.slice a c.zs.length cap)).toArray[0 + 6]? = some (.int .i64 (c).lim) := rfl
 have g7 : (jo (c) (.slice a c.zs.length cap)).toArray[0 + 7]? = some (.int .i64 (c).cac) := rfl
 have g8 : (jo (c) (.slice a c.zs.length cap)).toArray[0 + 8]? = some (.int .i64 (c).fli) := rfl
 have g9 : (jo (c) (.slice a c.zs.length cap)).toArray[0 + 9]? = some (.int .i64 (c).wtr) := rfl
 have g10 : (jo (c) (.slice a c.zs.length cap)).toArray[0 + 10]? = some (.int .i64 (c).ttl) := rfl
 have g11 : (jo (c) (.slice a c.zs.length cap)).toArray[0 + 11]? = some (.int .i64 (c).siz) := rfl
 have g12 : (jo (c) (.slice a c.zs.length cap)).toArray[0 + 12]? = some (.slice a c.zs.length cap) := rfl
 refine goF ?_
 refine KJ (σ := Unit) (fun _ => Yu c) (fun _ => [(1, .pointer (some ⟨b1, 0, none⟩))]) (fun _ => (b1, Obj.cells (jo c (.slice a c.zs.length cap)).toArray 30 (0, 0)) :: L) ?_ ?_
 · refine goU ?_
   refine orM 11 16 (decide (9 < c.ups)) ?_
   refine orN 16 22 (c.ups % 2 != 1) ?_ (f0 := fun r hb key => by
    have hu : 0 ≤ c.ups := by
     simp only [Bool.or_eq_false_iff, decide_eq_false_iff_not] at hb
     omega
    refine goU ?_
    exact Uv key jr)
   refine orM 22 27 (decide (c.hdg < 1)) ?_
   refine orM 27 32 (decide (1000 < c.hdg)) ?_
   refine orM 32 37 (decide (c.wai < 1)) ?_
   refine orM 37 42 (decide (1000 < c.wai)) ?_
   refine orM 42 47 (decide (c.tri < 1)) ?_
   refine orM 47 52 (decide (4 < c.tri)) ?_
   refine orM 52 57 (decide (100000 < c.ded)) ?_
   refine aeF (fun hb => ?_) (fun hb => ?_)
   · simp only [Bool.or_eq_true, Bool.or_eq_false_iff, decide_eq_true_eq, decide_eq_false_iff_not, bne_iff_ne, bne_eq_false_iff_eq, ne_eq] at hb
     rw [KC (fun k => by have := (held_may.1 k).1; unfold Yu at this; omega)]
     refine goU ?_
     exact uM 2 rfl rfl ⟨rfl, rfl⟩ jP
   · simp only [Bool.or_eq_true, Bool.or_eq_false_iff, decide_eq_true_eq, decide_eq_false_iff_not, bne_iff_ne, bne_eq_false_iff_eq, ne_eq] at hb
     have m1 : 0 ≤ (c.ups - 1) / 2 * c.hdg ∧ (c.ups - 1) / 2 * c.hdg ≤ 4000 := ⟨Int.mul_nonneg jd jd, Int.le_trans (Int.mul_le_mul (show (c.ups - 1) / 2 ≤ 4 by omega) (show c.hdg ≤ 1000 by omega) jd jd) (by decide)⟩
     have m2 : 0 ≤ c.tri * c.wai ∧ c.tri * c.wai ≤ 4000 := ⟨Int.mul_nonneg jd jd, Int.le_trans (Int.mul_le_mul (show c.tri ≤ 4 by omega) (show c.wai ≤ 1000 by omega) jd jd) (by decide)⟩
     by_cases h5 : (c.ups - 1) / 2 * c.hdg + c.tri * c.wai ≤ c.ded
     · refine goU ?_
       exact j9 () (by unfold Yu; omega) jr (fun w h => h)
     · rw [KC (fun k => h5 (held_may.1 k).1.2)]
       refine goU ?_
       exact uM 2 rfl rfl ⟨rfl, rfl⟩ jP
 rintro _ hA
 refine KJ (σ := Unit) (fun _ => Yv c ∧ c.zs.length ≤ 16) (fun _ => [(1, .pointer (some ⟨b1, 0, none⟩))]) (fun _ => (b1, Obj.cells (jo c (.slice a c.zs.length cap)).toArray 30 (0, 0)) :: L) ?_ ?_
 · refine goU ?_
   refine orM 78 83 (decide (100000 < c.res)) ?_
   refine orM 83 88 (decide (c.lim < 1)) ?_
   refine orM 88 93 (decide (100 < c.lim)) ?_
   refine orM 93 98 (decide (c.cac < 0)) ?_
   refine orM 98 103 (decide (256 < c.cac)) ?_
   refine orM 103 108 (decide (c.fli < 1)) ?_
   refine orM 108 113 (decide (32 < c.fli)) ?_
   refine orM 113 118 (decide (c.wtr < 1)) ?_
   refine orM 118 123 (decide (16 < c.wtr)) ?_
   refine orM 123 128 (decide (c.ttl < 0)) ?_
   refine orM 128 133 (decide (2147483647 < c.ttl)) ?_
   refine orM 133 138 (decide (c.siz < 512)) ?_
   refine orM 138 143 (decide (4096 < c.siz)) ?_
   refine aeF (fun hb => ?_) (fun hb => ?_)
   · simp only [Bool.or_eq_true, Bool.or_eq_false_iff, decide_eq_true_eq, decide_eq_false_iff_not, bne_iff_ne, bne_eq_false_iff_eq, ne_eq] at hb
     rw [KC (fun k => by have := (held_may.1 k).2; unfold Yv at this; omega)]
     refine goU ?_
     exact uM 2 rfl rfl ⟨rfl, rfl⟩ jP
   · simp only [Bool.or_eq_true, Bool.or_eq_false_iff, decide_eq_true_eq, decide_eq_false_iff_not, bne_iff_ne, bne_eq_false_iff_eq, ne_eq] at hb
     by_cases h5 : c.zs.length ≤ 16
     · refine goU ?_
       exact j9 () ⟨by unfold Yv; omega, h5⟩ jr (fun w h => h)
     · rw [uN (Uo jd)]
       refine goU ?_
       exact uM 2 rfl rfl ⟨rfl, rfl⟩ jP
 rintro _ ⟨hB, h16⟩
 have hnum : Cn.mayNum c = true := decide_eq_true (show u5 c from held_may.2 ⟨hA, hB⟩)
 have hups := Jb hnum
 obtain ⟨n, hn⟩ : ∃ n : Nat, c.ups = (n : Nat) := ⟨c.ups.toNat, by omega⟩
 have hn2 : c.ups.toNat = n := by omega
 rw [hn] at g0
 refine goA ?_
 refine jy (σ := Nat) (fun i => i ≤ c.zs.length ∧ ∀ j < i, Cn.goodAt c.ups c.zs j = true) (fun i => [(1, .pointer (some ⟨b1, 0, none⟩)), (3, .int .i64 (i : Nat))]) (fun _ => (b1, Obj.cells (jo c (.slice a c.zs.length cap)).toArray 30 (0, 0)) :: L) (fun i => c.zs.length - i) 0 ⟨by omega, fun j hj => by omega⟩ ?_ (fun _ h => h) ?_
 exact jr
 rintro i ⟨hi, hall⟩
 by_cases hlt : i < c.zs.length
 · obtain ⟨z, hzi⟩ : ∃ z, c.zs[i]? = some z := ⟨_, List.getElem?_eq_getElem hlt⟩
   obtain ⟨b2, o2, C2, t2, f2, rfl, m2, cs, _, ⟨rfl, hzn, hzp, hzt⟩, hcs⟩ := sliceR.at hz hzi
   have hzs := h.small z (List.mem_of_getElem? hzi)
   have hgood := Z6 (ups := c.ups) hzi
   refine goA ?_
   refine jB (jA [.string (bs z.name), .int .u8 (z.pol : Nat), .int .u16 (z.tru : Nat)] rfl stL (List.mem_cons_of_mem _ m2) hcs) rfl ?_
   repeat (first | refine goA ?_ | (refine jO ?_; intro bNew))
   obtain ⟨b4, hb4⟩ : ∃ b, bNew = b := ⟨_, rfl⟩
   rw [hb4]
   clear hb4 bNew
   have k0 : ([.string (bs z.name), .int .u8 (z.pol : Nat), .int .u16 (z.tru : Nat)] : List Value).toArray[0 + 0]? = some (.string (bs z.name)) := rfl
   have k1 : ([.string (bs z.name), .int .u8 (z.pol : Nat), .int .u16 (z.tru : Nat)] : List Value).toArray[0 + 1]? = some (.int .u8 (z.pol : Nat)) := rfl
   have k2 : ([.string (bs z.name), .int .u8 (z.pol : Nat), .int .u16 (z.tru : Nat)] : List Value).toArray[0 + 2]? = some (.int .u16 (z.tru : Nat)) := rfl
   have hKm : ∀ p ∈ [(b4, Obj.cells ([.string (bs z.name), .int .u8 (z.pol : Nat), .int .u16 (z.tru : Nat)] : List Value).toArray 26 (0, 0))], p ∈ (b4, Obj.cells ([.string (bs z.name), .int .u8 (z.pol : Nat), .int .u16 (z.tru : Nat)] : List Value).toArray 26 (0, 0)) :: (b1, Obj.cells (jo c (.slice (some ⟨b2, o2, none⟩) c.zs.length cap)).toArray 30 (0, 0)) :: L := by
    intro p hp
    simp only [List.mem_cons, List.not_mem_nil, or_false] at hp
    subst hp
    exact List.mem_cons_self ..
   cases hmay : Nm.may z.name with
   | false =>
     have hno : Cn.okZo c.ups z = false := by unfold Cn.okZo Cn.okName; rw [hmay]; rfl
     rw [uN (kR hlt (by rw [hgood, hno]; rfl))]
     refine jq jb ([(b4, Obj.cells ([.string (bs z.name), .int .u8 (z.pol : Nat), .int .u16 (z.tru : Nat)] : List Value).toArray 26 (0, 0))]) [] ?_
     refine tkQ 0 ?_
     refine tkQ 1 ?_
     refine' jp 2 rfl rfl je (jV je rfl (fun _ _ => QD _ ?_)) ?_ ?_; (· omega); (· assumption)
     refine tkQ 3 ?_
     refine tkQ 4 ?_
     refine tkQ 5 ?_
     refine tkQ 6 ?_
     refine tkQ 7 ?_
     refine tkQ 8 ?_
     refine tkQ 9 ?_
     refine tkQ 10 ?_
     refine tkQ 11 ?_
     refine tkQ 12 ?_
     refine tkQ 13 ?_
     refine tkQ 14 ?_
     refine tkQ 15 ?_
     refine tkQ 16 ?_
     refine tkQ 17 ?_
     refine tdQ ?_
     refine goA ?_
     refine ju (fun w h => h.tail.tail) ?_
     refine ji 2 _ rfl rfl ?_
     exact ⟨rfl, rfl⟩
   | true =>
     by_cases hf : Nm.fold z.name = z.name
     rotate_left
     · have hno : Cn.okZo c.ups z = false := by unfold Cn.okZo Cn.okName; rw [beq_false_of_ne hf, Bool.and_false, Bool.false_and]
       rw [uN (kR hlt (by rw [hgood, hno]; rfl))]
       refine jq jb ([(b4, Obj.cells ([.string (bs z.name), .int .u8 (z.pol : Nat), .int .u16 (z.tru : Nat)] : List Value).toArray 26 (0, 0))]) [] ?_
       refine tkQ 0 ?_
       refine tkQ 1 ?_
       refine' jp 2 rfl rfl je (jV je rfl (fun _ _ => QD _ ?_)) ?_ ?_; (· omega); (· assumption)
       refine tkQ 3 ?_
       refine tkQ 4 ?_
       refine tkQ 5 ?_
       refine tkQ 6 ?_
       (refine' jp 7 rfl rfl je (kt rfl rfl (by exact xF (by assumption)) je rfl (fun _ _ => qQ _ ?_)) ?_ ?_; (· omega); (· assumption))
       refine tkQ 8 ?_
       refine tkQ 9 ?_
       refine tkQ 10 ?_
       refine tkQ 11 ?_
       refine tkQ 12 ?_
       refine tkQ 13 ?_
       refine tkQ 14 ?_
       refine tkQ 15 ?_
       refine tkQ 16 ?_
       refine tkQ 17 ?_
       refine tdQ ?_
       refine goA ?_
       refine ju (fun w h => h.tail.tail) ?_
       refine ji 2 _ rfl rfl ?_
       exact ⟨rfl, rfl⟩
     have hokn : Cn.okName z = true := by unfold Cn.okName; rw [hmay, beq_iff_eq.2 hf]; rfl
     have hpol : Cn.okPol c.ups z = decide (((z.pol = 1 ∨ z.pol = 2 ∨ z.pol = 4) ∧ z.tru = 0) ∨ (z.pol = 3 ∧ z.tru ≠ 0 ∧ z.tru / 2 ^ n = 0)) := by unfold Cn.okPol; rw [hn2]
     obtain ⟨q, hq⟩ : ∃ q, z.tru / 2 ^ n = q := ⟨_, rfl⟩
     rw [hq] at hpol
     by_cases hpw : Wd z.pol = []
     · have hp := acP hpw
       have hno : Cn.okZo c.ups z = false := by unfold Cn.okZo; rw [hpol, decide_eq_false jd, Bool.and_false]
       rw [uN (kR hlt (by rw [hgood, hno]; rfl))]
       refine jq jb ([(b4, Obj.cells ([.string (bs z.name), .int .u8 (z.pol : Nat), .int .u16 (z.tru : Nat)] : List Value).toArray 26 (0, 0))]) [] ?_
       refine tkQ 0 ?_
       refine tkQ 1 ?_
       refine' jp 2 rfl rfl je (jV je rfl (fun _ _ => QD _ ?_)) ?_ ?_; (· omega); (· assumption)
       refine tkQ 3 ?_
       refine tkQ 4 ?_
       refine tkQ 5 ?_
       refine tkQ 6 ?_
       (refine' jp 7 rfl rfl je (kt rfl rfl (by exact xF (by assumption)) je rfl (fun _ _ => qQ _ ?_)) ?_ ?_; (· omega); (· assumption))
       refine tkQ 8 ?_
       refine tkQ 9 ?_
       refine tkQ 10 ?_
       refine tkQ 11 ?_
       refine tkQ 12 ?_
       refine tkQ 13 ?_
       refine tkQ 14 ?_
       (refine' jp 15 rfl rfl je (kt rfl rfl (by exact nF (by assumption)) je rfl (fun _ _ => Vk _ ?_)) ?_ ?_; (· omega); (· assumption))
       refine tkQ 16 ?_
       refine tkQ 17 ?_
       refine tdQ ?_
       refine goA ?_
       refine ju (fun w h => h.tail.tail) ?_
       refine ji 2 _ rfl rfl ?_
       exact ⟨rfl, rfl⟩
     have hp14 := aa6 hpw
     refine jq jb ([(b4, Obj.cells ([.string (bs z.name), .int .u8 (z.pol : Nat), .int .u16 (z.tru : Nat)] : List Value).toArray 26 (0, 0))]) [] ?_
     refine tkQ 0 ?_
     refine tkQ 1 ?_
     refine' jp 2 rfl rfl je (jV je rfl (fun _ _ => QD _ ?_)) ?_ ?_; (· omega); (· assumption)
     refine tkQ 3 ?_
     refine tkQ 4 ?_
     refine tkQ 5 ?_
     refine tkQ 6 ?_
     (refine' jp 7 rfl rfl je (kt rfl rfl (by exact xF (by assumption)) je rfl (fun _ _ => qQ _ ?_)) ?_ ?_; (· omega); (· assumption))
     refine tkQ 8 ?_
     refine tkQ 9 ?_
     refine tkQ 10 ?_
     refine tkQ 11 ?_
     refine tkQ 12 ?_
     refine tkQ 13 ?_
     refine tkQ 14 ?_
     (refine' jp 15 rfl rfl je (kt rfl rfl (by exact nF (by assumption)) je rfl (fun _ _ => Vk _ ?_)) ?_ ?_; (· omega); (· assumption))
     refine tkQ 16 ?_
     refine tkQ 17 ?_
     refine tdQ ?_
     clear hKm
     refine goA ?_
     refine jy (σ := Nat) (fun k => k ≤ i ∧ (c.zs.take k).any (fun y => y.name == z.name) = false) (fun k => [(1, .pointer (some ⟨b1, 0, none⟩)), (3, .int .i64 (i : Nat)), (4, .pointer (some ⟨b4, 0, none⟩)), (5, .int .i64 (k : Nat))]) (fun _ => (b4, Obj.cells ([.string (bs z.name), .int .u8 (z.pol : Nat), .int .u16 (z.tru : Nat)] : List Value).toArray 26 (0, 0)) :: (b1, Obj.cells (jo c (.slice (some ⟨b2, o2, none⟩) c.zs.length cap)).toArray 30 (0, 0)) :: L) (fun k => i - k) 0 ⟨by omega, by simp⟩ ?_ (fun _ h => h) ?_
     exact jr
     rintro k ⟨hk, hany⟩
     by_cases hki : k < i
     · obtain ⟨y, hyk⟩ : ∃ y, c.zs[k]? = some y := ⟨_, List.getElem?_eq_getElem jd⟩
       obtain ⟨b5, o5, C5, t5, f5, e5, m5, cs5, _, ⟨rfl, hyn, hyp, hyt⟩, hcs5⟩ := sliceR.at hz hyk
       cases e5
       have l0 : C5[o2 + k * 3 + 0]? = some (.string (bs y.name)) := hcs5 0 _ rfl
       have hKm : ∀ p ∈ [(b4, Obj.cells ([.string (bs z.name), .int .u8 (z.pol : Nat), .int .u16 (z.tru : Nat)] : List Value).toArray 26 (0, 0)), (b1, Obj.cells (jo c (.slice (some ⟨b2, o2, none⟩) c.zs.length cap)).toArray 30 (0, 0)), (b2, Obj.cells C5 t5 f5)], p ∈ (b4, Obj.cells ([.string (bs z.name), .int .u8 (z.pol : Nat), .int .u16 (z.tru : Nat)] : List Value).toArray 26 (0, 0)) :: (b1, Obj.cells (jo c (.slice (some ⟨b2, o2, none⟩) c.zs.length cap)).toArray 30 (0, 0)) :: L := by
        intro p hp
        simp only [List.mem_cons, List.not_mem_nil, or_false] at hp
        rcases hp with rfl | rfl | rfl
        · exact List.mem_cons_self ..
        · exact List.mem_cons_of_mem _ (List.mem_cons_self ..)
        · exact List.mem_cons_of_mem _ (List.mem_cons_of_mem _ m5)
       by_cases hyz : y.name = z.name
       · have hbad : Cn.goodAt c.ups c.zs i = false := by
          rw [hgood, Bool.and_eq_false_iff]
          right
          rw [Bool.not_eq_false', List.any_eq_true]
          exact ⟨y, List.mem_take_iff_getElem.2 ⟨k, by omega, (List.getElem?_eq_some_iff.1 hyk).2⟩, beq_iff_eq.2 hyz⟩
         rw [uN (kR hlt hbad)]
         refine goA ?_
         refine jq jb ([(b4, Obj.cells ([.string (bs z.name), .int .u8 (z.pol : Nat), .int .u16 (z.tru : Nat)] : List Value).toArray 26 (0, 0)), (b1, Obj.cells (jo c (.slice (some ⟨b2, o2, none⟩) c.zs.length cap)).toArray 30 (0, 0)), (b2, Obj.cells C5 t5 f5)]) [] ?_
         refine tkQ 0 ?_
         refine tkQ 1 ?_
         refine tkQ 2 ?_
         refine tkQ 3 ?_
         refine tkQ 4 ?_
         refine tkQ 5 ?_
         refine tkQ 6 ?_
         refine tkQ 7 ?_
         refine tkQ 8 ?_
         refine tdQ ?_
         refine goA ?_
         refine ju (fun w h => h.tail.tail) ?_
         refine ji 2 _ rfl rfl ?_
         exact ⟨rfl, rfl⟩
       · refine goA ?_
         refine jq jb ([(b4, Obj.cells ([.string (bs z.name), .int .u8 (z.pol : Nat), .int .u16 (z.tru : Nat)] : List Value).toArray 26 (0, 0)), (b1, Obj.cells (jo c (.slice (some ⟨b2, o2, none⟩) c.zs.length cap)).toArray 30 (0, 0)), (b2, Obj.cells C5 t5 f5)]) [] ?_
         refine tkQ 0 ?_
         refine tkQ 1 ?_
         refine tkQ 2 ?_
         refine tkQ 3 ?_
         refine tkQ 4 ?_
         refine tkQ 5 ?_
         refine tkQ 6 ?_
         refine tkQ 7 ?_
         refine tkQ 8 ?_
         refine tdQ ?_
         refine goA ?_
         refine jh (k + 1) ⟨by omega, ?_⟩ ?_ (fun _ h => h) jd
         · rw [List.take_add_one, hyk, List.any_append, hany]
           simp [hyz]
         exact jr
     · have hkie : k = i := by omega
       subst hkie
       rw [hany, Bool.not_false, Bool.and_true] at hgood
       unfold Cn.okZo at hgood
       rw [hokn, Bool.true_and, hpol] at hgood
       by_cases hpt : (z.pol = 3) ↔ (z.tru ≠ 0)
       rotate_left
       · rw [uN (kR hlt (by rw [hgood]; exact decide_eq_false jd))]
         by_cases p3 : z.pol = 3
         · have t0 : z.tru = 0 := by omega
           have hb6 : (!((((z.pol : Nat) : Int) == 3) == decide ((0 : Int) < ((z.tru : Nat) : Int)))) = true := by rw [beq_iff_eq.2 (by omega : ((z.pol : Nat) : Int) = 3), decide_eq_false jd]; rfl
           refine goA ?_
           refine ju (fun w h => h.tail.tail) ?_
           refine ji 2 _ rfl rfl ?_
           exact ⟨rfl, rfl⟩
         · have t0 : 0 < z.tru := by omega
           have hb6 : (!((((z.pol : Nat) : Int) == 3) == decide ((0 : Int) < ((z.tru : Nat) : Int)))) = true := by rw [beq_false_of_ne (by omega : ((z.pol : Nat) : Int) ≠ 3), decide_eq_true jd]; rfl
           refine goA ?_
           refine ju (fun w h => h.tail.tail) ?_
           refine ji 2 _ rfl rfl ?_
           exact ⟨rfl, rfl⟩
       have hb6 : (!((((z.pol : Nat) : Int) == 3) == decide ((0 : Int) < ((z.tru : Nat) : Int)))) = false := by
        by_cases p3 : z.pol = 3
        · rw [beq_iff_eq.2 (by omega : ((z.pol : Nat) : Int) = 3), decide_eq_true jd]; rfl
        · rw [beq_false_of_ne (by omega : ((z.pol : Nat) : Int) ≠ 3), decide_eq_false jd]; rfl
       refine goA ?_
       refine jy (σ := Nat) (fun u => (n ≤ u ∧ u ≤ 16) ∧ ∀ j, n ≤ j → j < u → z.tru / 2 ^ j % 2 ≠ 1) (fun u => [(1, .pointer (some ⟨b1, 0, none⟩)), (3, .int .i64 (k : Nat)), (4, .pointer (some ⟨b4, 0, none⟩)), (7, .int .i64 (u : Nat))]) (fun _ => (b4, Obj.cells ([.string (bs z.name), .int .u8 (z.pol : Nat), .int .u16 (z.tru : Nat)] : List Value).toArray 26 (0, 0)) :: (b1, Obj.cells (jo c (.slice (some ⟨b2, o2, none⟩) c.zs.length cap)).toArray 30 (0, 0)) :: L) (fun u => 16 - u) n ⟨⟨by omega, by omega⟩, fun j h1 h2 => by omega⟩ ?_ (fun _ h => h) ?_
       exact jr
       rintro u ⟨⟨hnu, hu16⟩, hbits⟩
       by_cases hu : u < 16
       · obtain ⟨d, hd⟩ : ∃ d, z.tru / 2 ^ u = d := ⟨_, rfl⟩
         have hdl : d ≤ 65535 := by
          have := Nat.div_le_self z.tru (2 ^ u)
          omega
         by_cases h1 : d % 2 = 1
         · have hq0 : q ≠ 0 := hq ▸ Zx hnu (by rw [hd]; exact h1)
           have hq1 : z.tru = 0 → q = 0 := fun h => by rw [← hq, h]; simp
           rw [uN (kR hlt (by rw [hgood]; exact decide_eq_false jd))]
           refine goA ?_
           refine jB (qJ rfl rfl (yk jd)) rfl ?_
           rw [hd]
           refine goA ?_
           refine ju (fun w h => h.tail.tail) ?_
           refine ji 2 _ rfl rfl ?_
           exact ⟨rfl, rfl⟩
         · refine goA ?_
           refine jB (qJ rfl rfl (yk jd)) rfl ?_
           rw [hd]
           refine goA ?_
           refine jh (u + 1) ⟨⟨by omega, by omega⟩, ?_⟩ ?_ (fun _ h => h) jd
           · intro j h2 h3
             rcases Nat.lt_or_ge j u with h4 | h4
             · exact hbits j h2 h4
             · rw [show j = u by omega, hd]
               exact h1
           exact jr
       · obtain rfl : u = 16 := by omega
         have hq3 : z.pol = 3 → q = 0 := fun _ => by
          rw [← hq]
          exact aeu jd fun u h2 h3 => hbits u h2 h3
         have hok : Cn.goodAt c.ups c.zs k = true := by rw [hgood]; exact decide_eq_true jd
         refine goA ?_
         refine jh (k + 1) ⟨by omega, ?_⟩ ?_ (fun _ h => h.tail) jd
         · intro j hj
           rcases Nat.lt_or_ge j k with h4 | h4
           · exact hall j h4
           · rw [show j = k by omega]
             exact hok
         exact jr
 · have hil : i = c.zs.length := by omega
   subst hil
   rw [zJ (by unfold Cn.mayP; rw [hnum, U8 jd hall]; rfl)]
   refine goA ?_
   refine ju (fun w h => h.tail) ?_
   refine ji 2 _ rfl rfl ?_
   exact ⟨rfl, rfl⟩
end
section
open Go.RowKit
open Hg (En Pl)
open Vd (RSet Vdt Vote Rec Quest Piece Ballot)
open Cn (Zo Cf)
section
variable {P : Program} {G : World} {n : Nat} {ρ : jG} {L : ja} {ty : TypeId} {Q : Exit → Act → World → Prop} {ops : Array Oper}
theorem aeG {K : ja} {W : List Nat} {fuel : Nat} {listed : Array Bool} {M : ja} (i : Nat) {d : Nat} {op : Op} {pos : String} {after : Array Edge} {Φ : Value → ja → Prop}
 (hO : OpT P G ρ M op ty Φ) (h : ∀ v L', Φ v L' → (∀ p ∈ K, p ∈ L') ∧ TA P G ops n K W Q fuel (listed.setIfInBounds i true) ((d, v) :: ρ) L') (hi : ops[i]? = some ⟨some d, op, ty, pos, after, none⟩ := by exact rfl) (hf : Fits M L := by exact jP)
 (hdn : Nat.blt d n = true := by exact rfl) (hr : Region.ready .any ops listed = [i] := by decide +kernel) : TA P G ops n K W Q (fuel + 1) listed ρ L :=
 jF i hr hi rfl hdn rfl (hO.fits hf) fun v L' hv => ⟨Or.inr (h v L' hv).1, (h v L' hv).2⟩
theorem aii {K : ja} {W : List Nat} {fuel : Nat} {listed : Array Bool} (i : Nat) {d : Nat} {op : Op} {pos : String} {after : Array Edge} {v : Value} (h : TA P G ops n K W Q fuel (listed.setIfInBounds i true) ((d, v) :: ρ) L)
 (hi : ops[i]? = some ⟨some d, op, ty, pos, after, none⟩ := by exact rfl) (hO : OpQ P ρ L op ty v := by exact yA) (hK : ∀ p ∈ K, p ∈ L := by exact jf) (hdn : Nat.blt d n = true := by exact rfl) (hr : Region.ready .any ops listed = [i] := by decide +kernel) : TA P G ops n K W Q (fuel + 1) listed ρ L :=
 jF i hr hi rfl hdn rfl hO.v fun u M ⟨e1, e2⟩ => by subst e1 e2; exact ⟨Or.inr hK, h⟩
theorem ajR {K : ja} {W : List Nat} {fuel : Nat} {listed : Array Bool} {L' : ja} (i : Nat) {x y : Operand} {pos : String} {after : Array Edge} {b off : Nat} {t : TypeId} {C C' : Array Value} {te : TypeId} {v u : Value}
 (h : TA P G ops n K W Q fuel (listed.setIfInBounds i true) ρ L') (hW : i ∈ W := by decide) (hi : ops[i]? = some ⟨none, .store t x y, ty, pos, after, none⟩ := by exact rfl) (hx : ev ρ x = some (.pointer (some ⟨b, off, none⟩)) := by exact rfl) (hy : ev ρ y = some v := by exact rfl)
 (h1 : Ji P t = true := by exact onO) (hu : Upd b (.cells C te (0, 0)) (.cells C' te (0, 0)) L L' := by exact Qn) (hone : v.oneCell' = true := by exact rfl) (hv : C[off]? = some u := by exact JW) (hC : C.setIfInBounds off v = C' := by exact rfl) (hr : Region.ready .any ops listed = [i] := by decide +kernel) :
 TA P G ops n K W Q (fuel + 1) listed ρ L := by
 obtain ⟨R, p1, p2⟩ := hu.perm
 refine jZ i hr hi rfl rfl (OpT.heap (fun w hw => hw.perm p1) (ul hx hy h1 hone hv hC)) ?_
 rintro _ _ ⟨_, rfl⟩
 exact ⟨Or.inl hW, VA p2 h⟩
theorem zv {fn : Func} {Φ : Value → ja → Prop} (u a t s : Nat) {b k : Nat} {C : Array Value} {te : TypeId} {fr : Nat × Nat} {x y : Value} {M : ja} (hr : fn.results = #[.tmp u, .cell a t, .tmp s]) (hv : ρ.lookup a = some (.pointer (some ⟨b, 0, none⟩))) (hx : ρ.lookup u = some x) (hy : ρ.lookup s = some y) (h : Φ (.tuple #[x, .agg C, y]) M) (hf : Fits M L)
 (ht : j5 P t k = true := by exact stO) (hm : (b, Obj.cells C te fr) ∈ L := by exact u3) (hk : C.size = k := by exact rfl) : TQ G n ρ L .ret (bodyPost P fn (kE G Φ)) := qF u a t s hr hv hx hy ht hm hk (fun w hw => hw.cnt hf.out) h
end
variable {G : World} {L : ja}
theorem afp (vl : Value) (l : List Int) (want every wait tries now : Int) (hl : IRow L vl l) (h9 : l.length ≤ 9) (hr : ∀ u ∈ l, 0 ≤ u ∧ u ≤ 8) (hn : l.Nodup) (hw : 1 ≤ want ∧ want ≤ 9) (he : 1 ≤ every ∧ every ≤ 1000) (ha : 1 ≤ wait ∧ wait ≤ 1000) (ht : 1 ≤ tries ∧ tries ≤ 4) (ho : 0 ≤ now ∧ now ≤ 1099511627776) :
 Spec Tryz.prog G 86 #[vl, .int .i64 want, .int .i64 every, .int .i64 wait, .int .i64 tries, .int .i64 now] L fun u M => ∃ rp N, u = .tuple #[.pointer (some ⟨rp, 0, none⟩), .int .i64 0] ∧ RPlan rp (Hg.mk l want every wait tries now) N ∧ M = N ++ L := by
 obtain ⟨al, cl, rfl, hl⟩ := hl
 refine jm (n := 115) Tryz.func86 rfl rfl rfl ?_
 repeat (first | refine goU ?_ | (refine kl ?_; intro bP))
 refine jy (σ := Nat × Option Addr × Nat × ja) (fun x => x.1 ≤ l.length ∧ ORow enR 148 4 [] x.2.1 x.2.2.1 ((l.take x.1).map Hg.fresh) x.2.2.2) (fun x => [(0, .slice al l.length cl), (14, .pointer (some ⟨bP, 0, none⟩)), (15, .int .i64 (x.1 : Nat))])
  (fun x => (bP, Obj.cells (jv (Hg.mk l want every wait tries now) (.slice x.2.1 ((l.take x.1).map Hg.fresh).length x.2.2.1)) 146 (0, 0)) :: (x.2.2.2 ++ L)) (fun x => l.length - x.1) (0, none, 0, []) ⟨Nat.zero_le _, ORow.nil _⟩ ?_ (fun w h => h) ?_
 · exact jr
 rintro ⟨i, a, c, B⟩ ⟨hi, hB⟩
 dsimp only at hi hB ⊢
 by_cases hlt : i < l.length
 · obtain ⟨x, hx⟩ : ∃ x, l[i]? = some x := ⟨_, List.getElem?_eq_getElem hlt⟩
   have hx1 := hr x (List.mem_of_getElem? hx)
   rcases hl with rfl | ⟨b1, o1, C1, t1, f1, rfl, m1, q1⟩
   · simp at hlt
   have c1 := q1 i x hx
   have hlen : ((l.take i).map Hg.fresh).length = i := by simp; omega
   have htk : (l.take (i + 1)).map Hg.fresh = (l.take i).map Hg.fresh ++ [Hg.fresh x] := by rw [List.take_add_one, hx]; simp
   have e0 : (jv (Hg.mk l want every wait tries now) (.slice a ((l.take i).map Hg.fresh).length c))[0 + 0]? = some (.slice a ((l.take i).map Hg.fresh).length c) := rfl
   refine goU ?_
   refine jy (σ := Nat) (fun k => k ≤ i) (fun k => [(0, .slice (some ⟨b1, o1, none⟩) l.length cl), (14, .pointer (some ⟨bP, 0, none⟩)), (15, .int .i64 (i : Nat)), (16, .int .i64 (k : Nat))])
    (fun _ => (bP, Obj.cells (jv (Hg.mk l want every wait tries now) (.slice a ((l.take i).map Hg.fresh).length c)) 146 (0, 0)) :: (B ++ L)) (fun k => i - k) 0 (Nat.zero_le _) ?_ (fun w h => h) ?_
   · exact jr
   intro k hk
   by_cases hki : k < i
   · obtain ⟨y, hy⟩ : ∃ y, l[k]? = some y := ⟨_, List.getElem?_eq_getElem jd⟩
     have c2 := q1 k y hy
     have hne : ¬ y = x := fun e => by
      have h1 := (List.getElem?_eq_some_iff.1 hx).2
      have h2 := (List.getElem?_eq_some_iff.1 hy).2
      have := (List.getElem_inj hn).1 (h2.trans (e.trans h1.symm))
      omega
     refine goU ?_
     exact jh (k + 1) hki jr (fun w h => h) jd
   · refine goU ?_
     refine jq jb ((bP, Obj.cells (jv (Hg.mk l want every wait tries now) (.slice a ((l.take i).map Hg.fresh).length c)) 146 (0, 0)) :: L) [14] ?_
     refine tkQ 0 (hK := jf) ?_
     refine tkQ 1 (hK := jf) ?_
     refine tkQ 2 (hK := jf) ?_
     refine tkQ 3 (hK := jf) ?_
     refine tkQ 4 (hK := jf) ?_
     refine tkQ 5 (hK := jf) ?_
     refine tkQ 6 (hK := jf) ?_
     refine tkQ 7 (hK := jf) ?_
     refine tkQ 8 (hK := jf) ?_
     refine jp 9 rfl rfl je (jL aak) jf ?_
     refine aeG 10 (qC (cs := kj (Hg.fresh x)) (sz := 4) etO rfl rfl (by decide)) ?_
     rintro _ _ ⟨bL, rfl, rfl⟩
     refine ⟨jf, ?_⟩
     refine aeG 11 (uv (bytes := 32) (r := enR) (y := Hg.fresh x) (cs := kj (Hg.fresh x)) etO rfl rfl hB rfl (uL _) rfl (by rw [hlen]; unfold maxLen; omega) (by rw [hlen]; omega)) ?_
     rintro _ _ ⟨a2, c2, B2, rfl, hB2, rfl⟩
     refine ⟨jf, ?_⟩
     rw [← htk] at hB2 ⊢
     refine tkQ 12 (hK := jf) ?_
     refine tkQ 13 (hK := jf) ?_
     refine ajR 14 ?_
     refine tdQ ?_
     refine goU ?_
     exact jh (i + 1, a2, c2, B2) ⟨hlt, hB2⟩ jr (Fits.heap jP) (by dsimp only; omega)
 · have hie : i = l.length := by omega
   subst hie
   rw [List.take_length] at hB ⊢
   refine goU ?_
   exact Qa 12 13 rfl rfl rfl ⟨bP, _, rfl, RPlan.of hB (VZ l want every wait tries now h9 hw he ha ht ho) (Fr.mk _ _ _ _ _ _) rfl, rfl⟩ jP
def aaf (K L : ja) (e : Int) (r : As × Dd) (u : Value) (M : ja) : Prop :=
 (e = 0 ∧ ∃ ap cs X N, u = .tuple #[.pointer (some ⟨ap, 0, none⟩), .agg cs.toArray, .int .i64 0] ∧ Ja (N ++ L) cs r.2 ∧ zN K ap r.1 X ∧ M = X ++ (N ++ L)) ∨ (e ≠ 0 ∧ u = .tuple #[.pointer none, .agg (ke (.slice none 0 0) (.slice none 0 0)), .int .i64 e] ∧ M = L)
theorem acQ {c : Cf} (h : Cn.mayP c = true) : (c.ups - 1) / 2 + 1 = Cn.liesP c + 1 := by
 have h1 := of_decide_eq_true (Bool.and_eq_true_iff.1 h).1
 obtain ⟨⟨a1, a2, a3⟩, _⟩ := h1
 have := (yl h).2.2.2.2.2
 omega
theorem afq {K : ja} (q : Quest) (z : Zo) (vl vz : Value) (l : List Int) (c : Cf) (now : Int) (hKL : ∀ p ∈ K, p ∈ L) (hq1 : q.name.length ≤ 1000000) (hq2 : 0 ≤ q.kind ∧ q.kind ≤ 65535) (hq3 : 0 ≤ q.cls ∧ q.cls ≤ 65535) (hz : z.pol ≤ 255 ∧ z.tru ≤ 65535) (hl : IRow L vl l) (hl2 : l.length ≤ 1000) (hc : CfL L c vz) (hnow : -9223372036854775808 ≤ now ∧ now ≤ 9223372036854775807) :
 Spec Tryz.prog G 59 #[.agg (kq q), .agg #[.string (bs z.name), .int .u8 (z.pol : Nat), .int .u16 (z.tru : Nat)], vl, .agg (jo c vz).toArray, .int .i64 now] L (aaf K L (Aq.newE q z l c now) (Aq.new1 q z l c now)) := by
 obtain ⟨al, cl, rfl, hlr⟩ := id hl
 have htop : Hg.top = 1099511627776 := rfl
 have g0 : (jo (c) (vz)).toArray[0 + 0]? = some (.int .i64 (c).ups) := rfl
 have g1 : (jo (c) (vz)).toArray[0 + 1]? = some (.int .i64 (c).ded) := rfl
 have g2 : (jo (c) (vz)).toArray[0 + 2]? = some (.int .i64 (c).hdg) := rfl
 have g3 : (jo (c) (vz)).toArray[0 + 3]? = some (.int .i64 (c).wai) := rfl
 have g4 : (jo (c) (vz)).toArray[0 + 4]? = some (.int .i64 (c).tri) := rfl
 have g5 : (jo (c) (vz)).toArray[0 + 5]? = some (.int .i64 (c).res) := rfl
 have g6 : (jo (c) (vz)).toArray[0 + 6]? = some (.int .i64 (c).lim) := rfl
 have g7 : (jo (c) (vz)).toArray[0 + 7]? = some (.int .i64 (c).cac) := rfl
 have g8 : (jo (c) (vz)).toArray[0 + 8]? = some (.int .i64 (c).fli) := rfl
 have g9 : (jo (c) (vz)).toArray[0 + 9]? = some (.int .i64 (c).wtr) := rfl
 have g10 : (jo (c) (vz)).toArray[0 + 10]? = some (.int .i64 (c).ttl) := rfl
 have g11 : (jo (c) (vz)).toArray[0 + 11]? = some (.int .i64 (c).siz) := rfl
 have g12 : (jo (c) (vz)).toArray[0 + 12]? = some (vz) := rfl
 have k0 : (kq q)[0 + 0]? = some (.string (bs q.name)) := rfl
 refine jm (n := 159) Tryz.func59 rfl rfl rfl ?_
 repeat (first | refine goU ?_ | (refine jO ?_; intro b11) | (refine kl ?_; intro bc))
 rename_i bq bz
 refine Ut (afo c vz (hc.mono jf)) ?_
 cases hmay : Cn.mayP c with
 | false =>
   have he : Aq.newE q z l c now = 1 := kX fun k => by have := k.may; rw [hmay] at this; cases this
   rw [he, zu hmay]
   refine goU ?_
   exact zv 10 11 107 12 rfl rfl rfl rfl (Or.inr ⟨by decide, rfl, rfl⟩) jP
 | true =>
 rw [zJ hmay]
 obtain ⟨n1, n2, n3, n4, n5, n6⟩ := yl hmay
 have hodd := acQ hmay
 refine goU ?_
 refine aia (kG q.name hq1) ?_
 cases hname : Nm.may q.name with
 | false =>
   have he : Aq.newE q z l c now = 1 := kX fun k => by have := k.name; rw [hname] at this; cases this
   rw [he]
   refine goU ?_
   exact zv 10 11 107 12 rfl rfl rfl rfl (Or.inr ⟨by decide, rfl, rfl⟩) jP
 | true =>
 rcases Nat.lt_or_ge z.pol 1 with hp1 | hp1
 · have he : Aq.newE q z l c now = 1 := kX fun k => by have := k.pol; omega
   rw [he]
   refine goU ?_
   exact zv 10 11 107 12 rfl rfl rfl rfl (Or.inr ⟨by decide, rfl, rfl⟩) jP
 rcases Nat.lt_or_ge 3 z.pol with hp2 | hp2
 · have he : Aq.newE q z l c now = 1 := kX fun k => by have := k.pol; omega
   rw [he]
   refine goU ?_
   exact zv 10 11 107 12 rfl rfl rfl rfl (Or.inr ⟨by decide, rfl, rfl⟩) jP
 rcases Int.lt_or_le now 0 with hp3 | hp3
 · have he : Aq.newE q z l c now = 1 := kX fun k => by have := k.now; omega
   rw [he]
   refine goU ?_
   exact zv 10 11 107 12 rfl rfl rfl rfl (Or.inr ⟨by decide, rfl, rfl⟩) jP
 rcases Int.lt_or_le 1099511627776 now with hp4 | hp4
 · have he : Aq.newE q z l c now = 1 := kX fun k => by have := k.now; omega
   rw [he]
   refine goU ?_
   exact zv 10 11 107 12 rfl rfl rfl rfl (Or.inr ⟨by decide, rfl, rfl⟩) jP
 refine goU ?_
 refine jy (σ := Nat × Option Addr × Nat × ja) (fun x => x.1 ≤ l.length ∧ (∀ y ∈ l.take x.1, 0 ≤ y ∧ y < c.ups) ∧ (l.take x.1).Nodup ∧ Row 3 1 (.slice x.2.1 (Aq.own z.pol z.tru (l.take x.1)).length x.2.2.1) (Aq.own z.pol z.tru (l.take x.1)).length (kC (Aq.own z.pol z.tru (l.take x.1))) x.2.2.2)
  (fun x => [(2, .slice al l.length cl), (4, .int .i64 now), (5, .pointer (some ⟨bq, 0, none⟩)), (6, .pointer (some ⟨bz, 0, none⟩)), (8, .pointer (some ⟨bc, 0, none⟩)), (11, .pointer (some ⟨b11, 0, none⟩)), (13, .slice x.2.1 (Aq.own z.pol z.tru (l.take x.1)).length x.2.2.1), (14, .int .i64 (x.1 : Nat))])
  (fun x => x.2.2.2 ++ ((b11, Obj.cells (ke (.slice none 0 0) (.slice none 0 0)) 107 (0, 0)) :: (bc, Obj.cells (jo c vz).toArray 30 (0, 0)) :: (bz, Obj.cells #[.string (bs z.name), .int .u8 (z.pol : Nat), .int .u16 (z.tru : Nat)] 26 (0, 0)) :: (bq, Obj.cells (kq q) 24 (0, 0)) :: L)) (fun x => l.length - x.1) (0, none, 0, []) ⟨Nat.zero_le _, by simp, by simp, Row.nil _ _⟩ ?_ (Fits.heap jP) ?_
 · exact jr
 rintro ⟨i, y, yc, B⟩ ⟨hi, hall, hnd, hR⟩
 dsimp only at hi hall hnd hR ⊢
 have hlen : (Aq.own z.pol z.tru (l.take i)).length ≤ i := Nat.le_trans (List.length_filter_le _ _) (by simp; omega)
 by_cases hlt : i < l.length
 · obtain ⟨x, hx⟩ : ∃ x, l[i]? = some x := ⟨_, List.getElem?_eq_getElem hlt⟩
   rcases hlr with rfl | ⟨b1, o1, C1, t1', f1, rfl, m1, q1⟩
   · simp at hlt
   have c1 := q1 i _ hx
   have bad : Aq.distinct c.ups l = false → Aq.newE q z l c now = 1 := fun h => kX fun k => by have := k.dist; rw [h] at this; cases this
   rcases Int.lt_or_le x 0 with hx0 | hx0
   · rw [bad (qS hx (Or.inl hx0))]
     refine goU ?_
     exact zv 10 11 107 12 rfl rfl rfl rfl (Or.inr ⟨by decide, rfl, rfl⟩) jP
   rcases Int.lt_or_le x c.ups with hx1 | hx1
   rotate_left
   · rw [bad (qS hx (Or.inr (Or.inl hx1)))]
     refine goU ?_
     exact zv 10 11 107 12 rfl rfl rfl rfl (Or.inr ⟨by decide, rfl, rfl⟩) jP
   obtain ⟨n, rfl⟩ : ∃ n : Nat, x = n := ⟨x.toNat, by omega⟩
   refine goU ?_
   refine jy (σ := Nat) (fun k => k ≤ i ∧ (n : Int) ∉ l.take k)
    (fun k => [(2, .slice (some ⟨b1, o1, none⟩) l.length cl), (4, .int .i64 now), (5, .pointer (some ⟨bq, 0, none⟩)), (6, .pointer (some ⟨bz, 0, none⟩)), (8, .pointer (some ⟨bc, 0, none⟩)), (11, .pointer (some ⟨b11, 0, none⟩)), (13, .slice y (Aq.own z.pol z.tru (l.take i)).length yc), (14, .int .i64 (i : Nat)), (15, .int .i64 (n : Nat)), (16, .int .i64 (k : Nat))])
    (fun _ => B ++ ((b11, Obj.cells (ke (.slice none 0 0) (.slice none 0 0)) 107 (0, 0)) :: (bc, Obj.cells (jo c vz).toArray 30 (0, 0)) :: (bz, Obj.cells #[.string (bs z.name), .int .u8 (z.pol : Nat), .int .u16 (z.tru : Nat)] 26 (0, 0)) :: (bq, Obj.cells (kq q) 24 (0, 0)) :: L)) (fun k => i - k) 0 ⟨Nat.zero_le _, by simp⟩ ?_ (fun w h => h) ?_
   · exact jr
   rintro k ⟨hk, hnk⟩
   by_cases hki : k < i
   · obtain ⟨w, hw⟩ : ∃ w, l[k]? = some w := ⟨_, List.getElem?_eq_getElem jd⟩
     have c2 := q1 k w hw
     by_cases hwn : w = n
     · rw [bad (qS hx (Or.inr (Or.inr (hwn ▸ List.mem_of_getElem? (show (l.take i)[k]? = some w by rw [List.getElem?_take_of_lt hki]; exact hw)))))]
       refine goU ?_
       exact zv 10 11 107 12 rfl rfl rfl rfl (Or.inr ⟨by decide, rfl, rfl⟩) jP
     · refine goU ?_
       refine jh (k + 1) ⟨hki, ?_⟩ jr (fun w h => h) jd
       rw [List.take_add_one, hw]
       intro hm
       rcases List.mem_append.1 hm with hm | hm
       · exact hnk hm
       · simp only [Option.toList_some, List.mem_singleton] at hm
         exact hwn hm.symm
   · obtain rfl : k = i := by omega
     have hto : Aq.own z.pol z.tru (l.take (k + 1)) = Aq.own z.pol z.tru (l.take k) ++ (if JN z.pol z.tru n then [(n : Int)] else []) := by
      unfold Aq.own
      rw [List.take_add_one, hx, List.filter_append]
      congr 1
      simp only [Option.toList_some, List.filter_cons, List.filter_nil]
      rfl
     have hall' : ∀ y ∈ l.take (k + 1), 0 ≤ y ∧ y < c.ups := by
      rw [List.take_add_one, hx]
      intro y hy
      rcases List.mem_append.1 hy with hy | hy
      · exact hall y hy
      · rw [List.mem_singleton.1 hy]; exact ⟨hx0, hx1⟩
     have hnd' : (l.take (k + 1)).Nodup := by
      rw [List.take_add_one, hx]
      refine List.nodup_append.2 ⟨hnd, by simp, fun a ha b hb => ?_⟩
      rw [List.mem_singleton.1 hb]
      rintro rfl
      exact hnk ha
     have hshr := yk (P := Tryz.prog) (t := 22) (k := .u64) (a := z.tru) (u := n) jd
     by_cases hpl : z.pol = 3
     · refine goU ?_
       refine jN (qJ rfl rfl hshr) rfl ?_
       have hbt := V7 z.tru n
       generalize z.tru / 2 ^ n = w at hbt ⊢
       by_cases hbit : w % 2 = 1
       · have hob : JN z.pol z.tru n = true := by unfold JN; rw [Int.toNat_natCast, hbt, decide_eq_true hbit, Bool.or_true]
         rw [hob, if_pos rfl] at hto
         repeat (first | refine goU ?_ | (refine jS ?_; intro bL))
         refine acM hR ?_
         rw [← hto]
         intro a4 c4 B4 hR4
         refine goU ?_
         exact jh (k + 1, a4, c4, B4) ⟨hlt, hall', hnd', hR4⟩ jr (Fits.heap jP) (by dsimp only; omega)
       · have hob : JN z.pol z.tru n = false := by unfold JN; rw [Int.toNat_natCast, hbt, decide_eq_false hbit, decide_eq_false (by simpa using hpl)]; rfl
         rw [hob, if_neg (by decide), List.append_nil] at hto
         refine goU ?_
         exact jh (k + 1, y, yc, B) ⟨hlt, hall', hnd', by dsimp only; rw [hto]; exact hR⟩ (by rw [hto]; exact jr) (fun w h => h) (by dsimp only; omega)
     · have hob : JN z.pol z.tru n = true := by unfold JN; rw [decide_eq_true hpl]; rfl
       rw [hob, if_pos rfl] at hto
       repeat (first | refine goU ?_ | (refine jS ?_; intro bL))
       refine acM hR ?_
       rw [← hto]
       intro a4 c4 B4 hR4
       refine goU ?_
       exact jh (k + 1, a4, c4, B4) ⟨hlt, hall', hnd', hR4⟩ jr (Fits.heap jP) (by dsimp only; omega)
 · obtain rfl : i = l.length := by omega
   rw [List.take_length] at hall hnd hR hlen ⊢
   have hd : Aq.distinct c.ups l = true := by
    unfold Aq.distinct
    rw [Bool.and_eq_true]
    exact ⟨List.all_eq_true.2 fun x hx => decide_eq_true (hall x hx), decide_eq_true hnd⟩
   have hin : NewIn q z l c now := ⟨hmay, hname, ⟨hp1, hp2⟩, ⟨hp3, hp4⟩, hd⟩
   rw [V8 hin]
   obtain ⟨o1, o2, o3⟩ := V9 (pol := z.pol) (tru := z.tru) hd n1.2
   have hw := Kz hmay z.pol
   have hqok : QOk q := ⟨hq1, hq2, hq3, hname⟩
   have hw0 := ym hin hqok
   have hn1 : Aq.new1 q z l c now = Aq.look (Aq.new0 q z l c now) (dd (Hg.begin' (Hg.mk (Aq.own z.pol z.tru l) (Aq.wantOf c z.pol) c.hdg c.wai c.tri now)).2 []) := rfl
   have hp0 : (Aq.new0 q z l c now).p = (Hg.begin' (Hg.mk (Aq.own z.pol z.tru l) (Aq.wantOf c z.pol) c.hdg c.wai c.tri now)).1 := rfl
   have hown : ∀ bp bb, #[.string (bs q.name), .int .u16 q.kind, .int .u16 q.cls, .int .u8 (z.pol : Nat), .int .i64 (Aq.wantOf c z.pol), .pointer (some ⟨bp, 0, none⟩), .pointer (some ⟨bb, 0, none⟩), .int .i64 now, .int .i64 (now + c.ded), .bool false] = jE (Aq.new0 q z l c now) bp bb := fun _ _ => rfl
   obtain ⟨ow, how⟩ : ∃ w, w = Aq.own z.pol z.tru l := ⟨_, rfl⟩
   rw [← how] at hR o1 o2 o3 hlen hn1 hp0 ⊢
   by_cases h0 : ow = []
   · rw [if_pos h0]
     subst h0
     refine goU ?_
     exact zv 10 11 107 12 rfl rfl rfl rfl (Or.inr ⟨by decide, rfl, rfl⟩) jP
   rw [if_neg h0]
   have h0l : 0 < ow.length := List.length_pos_iff.2 h0
   obtain ⟨w, hwe⟩ : ∃ w, w = Aq.wantOf c z.pol := ⟨_, rfl⟩
   rw [← hwe] at hw
   repeat (first | refine goU ?_ | (refine kl ?_; intro b17))
   refine uK (σ := Unit) (fun _ => True) (fun _ => [(4, .int .i64 now), (5, .pointer (some ⟨bq, 0, none⟩)), (6, .pointer (some ⟨bz, 0, none⟩)), (8, .pointer (some ⟨bc, 0, none⟩)), (11, .pointer (some ⟨b11, 0, none⟩)), (13, .slice y ow.length yc), (17, .pointer (some ⟨b17, 0, none⟩))])
    (fun _ => (b17, Obj.cells #[.string (bs q.name), .int .u16 q.kind, .int .u16 q.cls, .int .u8 (z.pol : Nat), .int .i64 w, .pointer none, .pointer none, .int .i64 now, .int .i64 (now + c.ded), .bool false] 82 (0, 0)) :: (B ++ ((b11, Obj.cells (ke (.slice none 0 0) (.slice none 0 0)) 107 (0, 0)) :: (bc, Obj.cells (jo c vz).toArray 30 (0, 0)) :: L))) ?_ ?_
   · by_cases hpl : z.pol = 3
     · obtain rfl : w = 1 := by rw [hwe]; unfold Aq.wantOf; rw [if_pos hpl]
       refine goU ?_
       exact j9 () trivial jr (Fits.heap jP)
     · obtain rfl : w = (c.ups - 1) / 2 + 1 := by rw [hwe, hodd]; unfold Aq.wantOf; rw [if_neg hpl]
       refine goU ?_
       exact j9 () trivial jr (Fits.heap jP)
   intro _ _
   refine goU ?_
   refine jq jb [(bc, Obj.cells (jo c vz).toArray 30 (0, 0))] [] ?_
   refine tkQ 0 (hK := jf) ?_
   refine tkQ 1 (hK := jf) ?_
   refine tkQ 2 (hK := jf) ?_
   refine tkQ 3 (hK := jf) ?_
   refine tkQ 4 (hK := jf) ?_
   refine tkQ 6 (hK := jf) ?_
   refine tkQ 7 (hK := jf) ?_
   refine tkQ 8 (hK := jf) ?_
   refine tkQ 9 (hK := jf) ?_
   refine tkQ 10 (hK := jf) ?_
   refine tkQ 11 (hK := jf) ?_
   refine tkQ 12 (hK := jf) ?_
   refine aii 5 ?_
   refine qu 13 (afp _ ow w c.hdg c.wai c.tri now (hR.irow ?_) o3 o1 o2 hw n2 n3 n4 jd) ?_
   · exact jf
   rintro _ _ ⟨bp, M1, rfl, hp1, rfl⟩
   refine ⟨jf, ?_⟩
   refine tkQ 14 (hK := jf) ?_
   refine tkQ 15 (hK := jf) ?_
   refine tkQ 16 (hK := jf) ?_
   refine tkQ 17 (hK := jf) ?_
   refine tkQ 18 (hK := jf) ?_
   refine stD 19 ?_
   refine ⟨jf, ?_⟩
   refine tdQ ?_
   refine goU ?_
   refine qj (ajP (K := K) w hw) ?_
   rintro _ _ ⟨bb, X0, rfl, hX0, rfl⟩
   refine goU ?_
   refine qj (acz hp1 rfl rfl) ?_
   rintro _ _ ⟨a1, c1, B1, M2, rfl, hR1, hp2, rfl⟩
   repeat (first | refine goU ?_ | (refine jO ?_; intro b18))
   subst hwe
   have hsl : (Hg.begin' (Hg.mk ow (Aq.wantOf c z.pol) c.hdg c.wai c.tri now)).2.length ≤ 100 := Nat.le_trans (Vj _) (by simp [Hg.mk]; omega)
   refine qj (QC (a := Aq.new0 q z l c now) (s := (Hg.begin' (Hg.mk ow (Aq.wantOf c z.pol) c.hdg c.wai c.tri now)).2) (g := []) (ys := a1) (ks := c1) (yg := none) (kg := 0) (D := B1 ++ L) (by rw [hp0]; exact hp2) hX0 hw0 ?_ ?_ hsl (hR1.irow jf) jI) ?_
   · exact fun p hp => (jf) p (hKL p hp)
   · exact jf
   rintro _ _ ⟨cs, M4, N, rfl, hp4, hdd, rfl⟩
   have hone := uz hdd
   have hsz : cs.toArray.size = 10 := hone.2
   have hkk := ko (d := dd (Hg.begin' (Hg.mk ow (Aq.wantOf c z.pol) c.hdg c.wai c.tri now)).2 []) hw0.ok
   rw [hn1]
   refine goV ?_
   refine Jc rfl rfl stO Qn rfl hone.2 hone.1 ?_
   refine goU ?_
   exact zv 10 11 107 12 rfl rfl rfl rfl (Or.inl ⟨rfl, b17, cs, _, N ++ B1, rfl, kH _ _ _ _ jf hdd, ⟨bp, bb, M4, X0, hp4, (by rw [hkk.2.2.1, hkk.2.2.2.2.1]; exact hX0), rfl⟩, rfl⟩) jP (hk := hsz)
end
section
open Go.RowKit
open Vd (RSet Vdt Vote Rec Quest Piece Ballot)
variable {G : World} {L : ja}
def um (d : Vd.Bytes) : Nat := 10 + min 6000 d.length
def uX (s : RSet) : Nat := 30 + min 6000 s.name.length + (s.data.map um).sum
def yp (l : List RSet) : Nat := (l.map uX).sum
theorem zw (l : List Nat) (k : Nat) : (l.take k).sum ≤ l.sum := by
 conv => rhs; rw [← List.take_append_drop k l, List.sum_append]
 omega
theorem u6 {l : List Nat} {k : Nat} {x : Nat} (h : l[k]? = some x) : (l.take (k + 1)).sum = (l.take k).sum + x := by
 rw [List.take_add_one, h]; simp
theorem We {α β : Type} (f : α → β) {l : List α} {i : Nat} {x : α} (h : l[i]? = some x) : (l.map f)[i]? = some (f x) := by rw [List.getElem?_map, h]; rfl
theorem Wf {l : List Nat} {x : Nat} (h : x ∈ l) : x ≤ l.sum := by
 induction l with
 | nil => cases h
 | cons a l ih =>
   rw [List.sum_cons]
   rcases List.mem_cons.1 h with rfl | h
   · omega
   · have := ih h; omega
theorem Zy {l : List Nat} {c : Nat} (h : ∀ x ∈ l, c ≤ x) : c * l.length ≤ l.sum := by
 induction l with
 | nil => simp
 | cons a l ih =>
   rw [List.sum_cons, List.length_cons, Nat.mul_succ]
   have h1 := h a (List.mem_cons_self ..)
   have h2 := ih fun x hx => h x (List.mem_cons_of_mem _ hx)
   omega
structure LSm (l : List RSet) : Prop where
 tot : yp l < 6000
theorem LSm.few {l : List RSet} (h : LSm l) : l.length ≤ 200 := by
 have h1 := h.tot
 have h2 := Zy (l := l.map uX) (c := 30) (fun x hx => by obtain ⟨s, _, rfl⟩ := List.mem_map.1 hx; unfold uX; omega)
 rw [List.length_map] at h2
 unfold yp at h1
 omega
theorem LSm.set {l : List RSet} (h : LSm l) {s : RSet} (hs : s ∈ l) : s.name.length < 6000 ∧ s.data.length ≤ 600 ∧ ∀ d ∈ s.data, d.length < 6000 := by
 have h1 := h.tot
 have h2 : uX s ≤ yp l := Wf (List.mem_map_of_mem hs)
 have h3 := Zy (l := s.data.map um) (c := 10) (fun x hx => by obtain ⟨d, _, rfl⟩ := List.mem_map.1 hx; unfold um; omega)
 rw [List.length_map] at h3
 unfold uX at h2
 refine ⟨by omega, by omega, fun d hd => ?_⟩
 have h4 : um d ≤ (s.data.map um).sum := Wf (List.mem_map_of_mem hd)
 have h5 : um d = 10 + min 6000 d.length := rfl
 omega
theorem Uw (v : Value) (l : List RSet) (hl : sliceR 5 rsR L [v] l) : Spec Tryz.prog G 31 #[v] L fun u M => u = .bool (decide (6000 ≤ yp l)) ∧ M = L := by
 obtain ⟨a, c, e1, hl⟩ := hl.val
 obtain rfl := (List.cons.inj e1).1
 have hcap := (sliceR.cut hl).2
 unfold maxLen at hcap
 obtain ⟨hcap1, hcap2, _⟩ := hcap
 refine jm (n := 55) Tryz.func31 rfl rfl rfl ?_
 refine goA ?_
 refine jy (σ := Nat × Nat) (fun x => x.1 ≤ l.length ∧ x.2 ≤ 20000 ∧ (x.2 < 6000 → x.2 = ((l.map uX).take x.1).sum) ∧ (6000 ≤ x.2 → 6000 ≤ yp l)) (fun x => [(0, .slice a l.length c), (3, .int .i64 (x.2 : Nat)), (4, .int .i64 (x.1 : Nat))]) (fun _ => L) (fun x => l.length - x.1) (0, 0) ⟨Nat.zero_le _, by decide, fun _ => rfl, fun h => absurd h (by decide)⟩ ?_ (fun w h => h) ?_
 exact jr
 rintro ⟨i, n⟩ ⟨hi, hn, hn1, hn2⟩
 dsimp only at hi hn hn1 hn2 ⊢
 by_cases hgo : i < l.length ∧ n < 6000
 · obtain ⟨hlt, hn6⟩ := hgo
   obtain ⟨s, hs⟩ : ∃ s, l[i]? = some s := ⟨_, List.getElem?_eq_getElem hlt⟩
   obtain ⟨b1, o1, C1, t1, f1, rfl, m1, cs, _, hcs0, hcs⟩ := sliceR.at hl hs
   obtain ⟨da, dc, rfl, hd, hsn, _⟩ := hcs0.vals
   have c0 : C1[o1 + i * 5 + 0]? = some (.string (bs s.name)) := hcs 0 _ rfl
   have c4 : C1[o1 + i * 5 + 4]? = some (.slice da s.data.length dc) := hcs 4 _ rfl
   have hdcap := (sliceR.cut hd).2
   unfold maxLen at hdcap hsn
   obtain ⟨hd1, hd2, _⟩ := hdcap
   have hnn := hn1 hn6
   have htot : ((l.map uX).take i).sum + uX s ≤ yp l := by
    have := u6 (We uX hs)
    have h2 := zw (l.map uX) (i + 1)
    unfold yp
    omega
   have hsucc := u6 (We uX hs)
   obtain ⟨n1, hn1e⟩ : ∃ m, m = n + 30 + min 6000 s.name.length := ⟨_, rfl⟩
   have hcost : uX s = 30 + min 6000 s.name.length + (s.data.map um).sum := rfl
   skip
   refine kh ?_
   skip
   refine kh ?_
   refine goF ?_
   refine KJ (σ := Nat) (fun m => m ≤ 20000 ∧ (m < 6000 → m = n1 + (s.data.map um).sum) ∧ (6000 ≤ m → 6000 ≤ yp l)) (fun m => [(0, .slice (some ⟨b1, o1, none⟩) l.length c), (3, .int .i64 (m : Nat)), (4, .int .i64 (i : Nat))]) (fun _ => L) ?_ ?_
   · skip
     refine goA ?_
     refine jy (σ := Nat × Nat) (fun x => x.1 ≤ s.data.length ∧ x.2 ≤ 19000 ∧ (x.2 < 6000 → x.2 = n1 + ((s.data.map um).take x.1).sum) ∧ (6000 ≤ x.2 → 6000 ≤ yp l)) (fun x => [(0, .slice (some ⟨b1, o1, none⟩) l.length c), (3, .int .i64 (x.2 : Nat)), (4, .int .i64 (i : Nat)), (5, .int .i64 (x.1 : Nat))]) (fun _ => L) (fun x => s.data.length - x.1) (0, n1) ⟨Nat.zero_le _, by dsimp only; omega, fun _ => by simp, fun h => by dsimp only at h; omega⟩ ?_ (fun w h => h) ?_
     · have : ((n1 : Nat) : Int) = (n : Int) + 30 + min 6000 (s.name.length : Int) := by omega
       rw [this]
       exact jr
     rintro ⟨k, m⟩ ⟨hk, hm, hm1, hm2⟩
     dsimp only at hk hm hm1 hm2 ⊢
     by_cases hgo : k < s.data.length ∧ m < 6000
     · obtain ⟨hkl, hm6⟩ := hgo
       obtain ⟨d, hdk⟩ : ∃ d, s.data[k]? = some d := ⟨_, List.getElem?_eq_getElem hkl⟩
       obtain ⟨b2, o2, C2, t2, f2, rfl, m2, cs2, _, ⟨rfl, hdl⟩, hcs2⟩ := sliceR.at hd hdk
       unfold maxLen at hdl
       have d0 : C2[o2 + k * 1]? = some (.string (bs d)) := hcs2 0 _ rfl
       have hsk := u6 (We um hdk)
       have hsl := zw (s.data.map um) (k + 1)
       have hcd : um d = 10 + min 6000 d.length := rfl
       have hmm := hm1 hm6
       refine goA ?_
       refine jh (k + 1, m + 10 + min 6000 d.length) ⟨hkl, by dsimp only; omega, fun _ => by dsimp only; omega, fun h => by dsimp only at h; omega⟩ ?_ (fun w h => h) (by dsimp only; omega)
       have : ((m + 10 + min 6000 d.length : Nat) : Int) = (m : Int) + 10 + min 6000 (d.length : Int) := by omega
       rw [this]
       exact jr
     · have hend : m < 6000 → m = n1 + (s.data.map um).sum := fun h => by
        have := hm1 h
        rw [List.take_of_length_le (by rw [List.length_map]; omega)] at this
        exact this
       by_cases hkl : k < s.data.length
       · refine goA ?_
         refine j9 m ⟨by omega, hend, hm2⟩ ?_ (fun w h => h)
         exact jr
       · refine goA ?_
         refine j9 m ⟨by omega, hend, hm2⟩ ?_ (fun w h => h)
         exact jr
   rintro m ⟨hm, hm1, hm2⟩
   refine goA ?_
   refine jh (i + 1, m) ⟨hlt, hm, fun h => ?_, hm2⟩ ?_ (fun w h => h) (by dsimp only; omega)
   · have := hm1 h
     dsimp only
     omega
   exact jr
 · by_cases hlt : i < l.length
   · have h6 : 6000 ≤ n := by omega
     rw [decide_eq_true (hn2 h6)]
     refine goA ?_
     refine ji 2 _ rfl rfl ?_
     exact ⟨by rw [decide_eq_true (show (6000 : Int) ≤ (n : Int) by omega)], rfl⟩
   · have e : decide (6000 ≤ yp l) = decide ((6000 : Int) ≤ (n : Int)) := by
      by_cases h6 : 6000 ≤ n
      · rw [decide_eq_true (hn2 h6), decide_eq_true jd]
      · have := hn1 jd
        rw [List.take_of_length_le (by rw [List.length_map]; omega)] at this
        rw [decide_eq_false (by unfold yp; omega), decide_eq_false jd]
     rw [e]
     refine goA ?_
     refine ji 2 _ rfl rfl ?_
     exact ⟨rfl, rfl⟩
end
end Go.Proofs.YtbjkkoacclfejaaGreat
