/-
  Part 2: Pd Qd Ka Fr Hs Au Ty App WRef1 WRef2 WRef3 WRef4 Om Va.
-/
import Derived.Test.YtdflhdfapnhjjaaTx1
import Derived.Lib.MinMax
import Derived.ScopeJumps
import Derived.Test.YtdflhdfapnhjjaaRows
import Derived.Deep.RegionLaw
import Derived.Laws.OwnMore
import Derived.OwnWalk
namespace Go.Proofs.Ytdflhdfapnhjjaa
namespace Vd
structure Piece where
  s : Bytes
  nam : Bool
deriving DecidableEq
/-- ahead, names, behind; none: another form. -/
def layout (k : Int) : Option (Nat × Nat × Nat) :=
  if k = 1 then some (4, 0, 0) else if k = 28 then some (16, 0, 0) else if k = 2 ∨ k = 5 ∨ k = 12 then some (0, 1, 0) else if k = 15 then some (2, 1, 0) else if k = 6 then some (0, 2, 20) else if k = 33 then some (6, 1, 0) else none
/-- From a place on there are whole texts. -/
def txtOk : Nat → Bytes → Bool
  | 0, _ => true
  | _ + 1, [] => true
  | f + 1, c :: t => if c.toNat ≤ t.length then txtOk f (t.drop c.toNat) else false
/-- A name in a message: its bytes, the place behind, the error. -/
def rdName (msg : Bytes) : Nat → Nat → Nat → Int → Bytes → Option (Bytes × Int × Int)
  | 0, _, _, _, _ => none
  | f + 1, pos, ahead, next, n =>
    match msg[pos]? with
    | none => some ([], 0, 4)
    | some b =>
      if b.toNat = 0 then some (n ++ [0], if next < 0 then (pos : Int) + 1 else next, 0)
      else if 192 ≤ b.toNat then
        match msg[pos + 1]? with
        | none => some ([], 0, 4)
        | some c =>
          if ahead ≤ (b.toNat - 192) * 256 + c.toNat then some ([], 0, 8)
          else rdName msg f ((b.toNat - 192) * 256 + c.toNat) ((b.toNat - 192) * 256 + c.toNat) (if next < 0 then (pos : Int) + 2 else next) n
      else if 64 ≤ b.toNat then some ([], 0, 3)
      else if msg.length < pos + 1 + b.toNat then some ([], 0, 4)
      else if 255 < (n ++ (msg.drop pos).take (1 + b.toNat)).length + 1 then some ([], 0, 5)
      else rdName msg f (pos + 1 + b.toNat) ahead next (n ++ (msg.drop pos).take (1 + b.toNat))
def rdFuel (ahead : Nat) (n : Bytes) : Nat := ahead * 256 + (256 - n.length) + 1
theorem rdFuel_pos (ahead : Nat) (n : Bytes) : 1 ≤ rdFuel ahead n := Nat.succ_le_succ (Nat.zero_le _)
theorem rdFuel_jump {a b : Nat} {n : Bytes} (h : b < a) : rdFuel b n < rdFuel a n := by unfold rdFuel; omega
theorem rdFuel_on {a : Nat} {n m : Bytes} (h : n.length < m.length) (h2 : m.length ≤ 255) : rdFuel a m < rdFuel a n := by unfold rdFuel; omega
theorem rdName_some (msg : Bytes) : ∀ (f pos ahead : Nat) (next : Int) (n : Bytes), rdFuel ahead n ≤ f → ∃ r, rdName msg f pos ahead next n = some r := by
  intro f
  induction f with
  | zero => intro pos ahead next n h; exact absurd (Nat.le_trans (rdFuel_pos ahead n) h) (by decide)
  | succ f ih =>
    intro pos ahead next n h
    simp only [rdName]
    cases h1 : msg[pos]? with
    | none => exact ⟨_, rfl⟩
    | some b =>
      dsimp only
      by_cases c1 : b.toNat = 0
      · rw [if_pos c1]; exact ⟨_, rfl⟩
      rw [if_neg c1]
      by_cases c2 : 192 ≤ b.toNat
      · rw [if_pos c2]
        cases h2 : msg[pos + 1]? with
        | none => exact ⟨_, rfl⟩
        | some c =>
          dsimp only
          by_cases c3 : ahead ≤ (b.toNat - 192) * 256 + c.toNat
          · rw [if_pos c3]; exact ⟨_, rfl⟩
          rw [if_neg c3]
          exact ih _ _ _ _ (by have := rdFuel_jump (n := n) (Nat.lt_of_not_le c3); omega)
      rw [if_neg c2]
      by_cases c4 : 64 ≤ b.toNat
      · rw [if_pos c4]; exact ⟨_, rfl⟩
      rw [if_neg c4]
      by_cases c5 : msg.length < pos + 1 + b.toNat
      · rw [if_pos c5]; exact ⟨_, rfl⟩
      rw [if_neg c5]
      by_cases c6 : 255 < (n ++ (msg.drop pos).take (1 + b.toNat)).length + 1
      · rw [if_pos c6]; exact ⟨_, rfl⟩
      rw [if_neg c6]
      refine ih _ _ _ _ ?_
      have : (n ++ (msg.drop pos).take (1 + b.toNat)).length = n.length + (1 + b.toNat) := by rw [List.length_append, List.length_take, List.length_drop]; omega
      have := rdFuel_on (a := ahead) (n := n) (m := n ++ (msg.drop pos).take (1 + b.toNat)) (by omega) (by omega)
      omega
/-- P4.1 -/
def readName (msg : Bytes) (pos : Int) : Bytes × Int × Int :=
  if pos < 0 ∨ (msg.length : Int) < pos then ([], 0, 1) else (rdName msg (rdFuel pos.toNat []) pos.toNat pos.toNat (-1) []).getD ([], 0, 0)
def names (msg : Bytes) : Nat → Nat → List Piece → Nat × List Piece × Int
  | 0, pos, out => (pos, out, 0)
  | k + 1, pos, out => match readName msg pos with
    | (n, next, e) => if e ≠ 0 then (pos, out, e) else names msg k next.toNat (out ++ [⟨n, true⟩])
def pieces (msg : Bytes) (pos : Nat) (k : Int) : List Piece × Int :=
  if k = 41 then ([], 3)
  else if k = 16 then (if msg.drop pos = [] then ([], 4) else if txtOk (msg.length + 1) (msg.drop pos) then ([⟨msg.drop pos, false⟩], 0) else ([], 4))
  else match layout k with
    | none => ([⟨msg.drop pos, false⟩], 0)
    | some (a, m, b) =>
      if msg.length - pos < a then ([], 4)
      else match names msg m (pos + a) [⟨(msg.drop pos).take a, false⟩] with
        | (p, out, e) => if e ≠ 0 then ([], e) else if msg.length < p + b then ([], 4) else if p + b < msg.length then ([], 3) else (out ++ [⟨msg.drop p, false⟩], 0)
def joined (l : List Piece) : Bytes := l.flatMap (·.s)
def whole (k : Int) (d : Bytes) : List Piece × Bool := if (pieces d 0 k).2 ≠ 0 ∨ joined (pieces d 0 k).1 ≠ d then ([], false) else ((pieces d 0 k).1, true)
def mayD (k : Int) (d : Bytes) : Bool := (whole k d).2
def foldP (p : Piece) : Bytes := if p.nam then Nm.fold p.s else p.s
def foldD (k : Int) (d : Bytes) : Bytes := (whole k d).1.flatMap foldP

/-! ### sets -/
def before (a b : RSet) : Bool := if cmpN a.name b.name ≠ 0 then decide (cmpN a.name b.name < 0) else if a.kind ≠ b.kind then decide (a.kind < b.kind) else decide (a.cls < b.cls)
def gtB (a b : Bytes) : Bool := !(Op.bytesLess a b || a == b)
/-- A datum more, rising, each once. -/
def putGo (s : Bytes) : List Bytes → List Bytes → Bool → List Bytes ⊕ (List Bytes × Bool)
  | [], out, done => .inr (out, done)
  | x :: l, out, done => if x = s then .inl [] else if !done && gtB x s then putGo s l ((out ++ [s]) ++ [x]) true else putGo s l (out ++ [x]) done
def put (l : List Bytes) (s : Bytes) : List Bytes := match putGo s l [] false with
  | .inl _ => l
  | .inr (out, done) => if done then out else out ++ [s]
def timeT (t : Int) : Int := if 2147483647 < t then 0 else t
def hasKey (s : RSet) (n : Bytes) (k c : Int) : Bool := s.name == n && s.kind == k && s.cls == c
/-- The last place of a key. -/
def keyAt (sets : List RSet) (n : Bytes) (k c : Int) : Nat → Option Nat
  | 0 => none
  | j + 1 => match sets[j]? with
    | some s => if hasKey s n k c then some j else keyAt sets n k c j
    | none => keyAt sets n k c j
def addRec (sets : List RSet) (x : Rec) : List RSet :=
  if Nm.may x.name && mayD x.kind x.data then
    match keyAt sets (Nm.fold x.name) x.kind x.cls sets.length with
    | none => sets ++ [⟨Nm.fold x.name, x.kind, x.cls, timeT x.ttl, [foldD x.kind x.data]⟩]
    | some j => match sets[j]? with
      | some s => sets.set j { s with ttl := min s.ttl (timeT x.ttl), data := put s.data (foldD x.kind x.data) }
      | none => sets
  else sets
def gather (l : List Rec) : List RSet := l.foldl addRec []
/-- The place of the first of the least ones. -/
def leastAt (sets : List RSet) : Nat → Nat
  | 0 => 0
  | j + 1 => match sets[j + 1]?, sets[leastAt sets j]? with
    | some s, some t => if before s t then j + 1 else leastAt sets j
    | _, _ => leastAt sets j
def rise : Nat → List RSet → List RSet
  | 0, _ => []
  | _ + 1, [] => []
  | f + 1, s :: l => (match (s :: l)[leastAt (s :: l) l.length]? with | some x => [x] | none => []) ++ rise f ((s :: l).eraseIdx (leastAt (s :: l) l.length))
def group (l : List Rec) : List RSet := rise (gather l).length (gather l)
def findS (l : List RSet) (n : Bytes) (k c : Int) : RSet × Bool := match l.find? fun s => Nm.same s.name n && s.kind == k && s.cls == c with
  | some s => (s, true)
  | none => (RSet.none, false)
structure Trail where
  chain : List RSet
  pos : Bytes
  last : List RSet
  e : Int
deriving DecidableEq
def trailEnd (q : Quest) (l : List RSet) (pos : Bytes) (chain : List RSet) : Trail :=
  if (findS l pos q.kind q.cls).2 then ⟨chain, pos, [(findS l pos q.kind q.cls).1], 0⟩ else ⟨chain, pos, [], 0⟩
def followGo (q : Quest) (l : List RSet) : Nat → Bytes → List Bytes → List RSet → Trail
  | 0, pos, _, chain => trailEnd q l pos chain
  | f + 1, pos, met, chain =>
    if q.kind = 5 then trailEnd q l pos chain
    else if !(findS l pos 5 q.cls).2 then trailEnd q l pos chain
    else if 8 ≤ chain.length then ⟨[], [], [], 5⟩
    else match (findS l pos 5 q.cls).1.data with
      | [d] =>
        if !Nm.may d || (findS l pos q.kind q.cls).2 then ⟨[], [], [], 3⟩
        else if met.contains (Nm.fold d) then ⟨[], [], [], 8⟩
        else followGo q l f (Nm.fold d) (met ++ [Nm.fold d]) (chain ++ [(findS l pos 5 q.cls).1])
      | _ => ⟨[], [], [], 3⟩
def follow (q : Quest) (l : List RSet) : Trail := if Nm.may q.name then followGo q l 9 (Nm.fold q.name) [Nm.fold q.name] [] else ⟨[], [], [], 1⟩
def nLabels (n : Bytes) : Nat := (Nm.labels n).length
def fits (s : RSet) (n : Bytes) (c : Int) : Bool := s.kind == 6 && s.cls == c && Nm.within n s.name
/-- The place of the first of those that fit and have most labels. -/
def bestAt (l : List RSet) (n : Bytes) (c : Int) : Nat → Int
  | 0 => -1
  | j + 1 => match l[j]? with
    | some s => if fits s n c && (decide (bestAt l n c j < 0) || (match l[(bestAt l n c j).toNat]? with | some t => decide (nLabels t.name < nLabels s.name) | none => false)) then (j : Int) else bestAt l n c j
    | none => bestAt l n c j
def findSoa (l : List RSet) (n : Bytes) (c : Int) : RSet × Bool × Int :=
  if bestAt l n c l.length < 0 then (RSet.none, false, 0) else match l[(bestAt l n c l.length).toNat]? with
    | some s => if s.data.length ≠ 1 then (RSet.none, false, 3) else (s, true, 0)
    | none => (RSet.none, false, 0)
def last4 (d : Bytes) : Int := (d.drop (d.length - 4)).foldl (fun n c => (n * 256 + c.toNat) % 4294967296) (0 : Int)
def soaTime (s : RSet) : Int := if s.kind ≠ 6 then 0 else match s.data with
  | [d] => if mayD 6 d then (if 2147483647 < last4 d ∨ 2147483647 < s.ttl then 0 else min (last4 d) s.ttl) else 0
  | _ => 0
def leastT (l : List RSet) (t : Int) : Int := l.foldl (fun t s => min t s.ttl) t
def bare (s : RSet) : RSet := { s with ttl := 0 }
structure Msg where
  code : Int
  answers : List Rec
  auth : List Rec
def ofM (q : Quest) (m : Msg) : Vdt × Int × Int :=
  if !Nm.may q.name || (m.code != 0 && m.code != 3) then (Vdt.none, 0, 1)
  else match follow q (group m.answers) with
    | ⟨l, pos, last, e⟩ =>
      if e ≠ 0 then (Vdt.none, 0, e)
      else if m.code = 3 ∧ last ≠ [] then (Vdt.none, 0, 3)
      else if last ≠ [] then (⟨m.code, (l ++ last).map bare, []⟩, leastT (l ++ last) 2147483647, 0)
      else match findSoa (group m.auth) pos q.cls with
        | (s, is, e) =>
          if e ≠ 0 then (Vdt.none, 0, e)
          else if !is then (⟨m.code, (l ++ last).map bare, []⟩, 0, 0)
          else (⟨m.code, (l ++ last).map bare, [bare s]⟩, min (leastT (l ++ last) 2147483647) (soaTime s), 0)
def endV (q : Quest) (v : Vdt) : RSet × Bool := match v.sets.getLast? with
  | some s => if s.kind = q.kind then (s, true) else (RSet.none, false)
  | none => (RSet.none, false)
end Vd
end Go.Proofs.Ytdflhdfapnhjjaa
namespace Go.Proofs.Ytdflhdfapnhjjaa
namespace Vd
structure Ballot where
  v : Vote
  pass : Bool
deriving DecidableEq
structure Said where
  up : Int
  m : Msg
  time : Int
def hasB (l : List Ballot) (u : Int) : Bool := l.any fun b => b.v.up == u
def putB (l : List Ballot) (x : Ballot) : List Ballot × Int :=
  if x.v.up < 0 ∨ 9 ≤ x.v.up then (l, 1) else if hasB l x.v.up then (l, 7) else (l ++ [x], 0)
def votesB (l : List Ballot) : List Vote := (l.filter fun b => !b.pass).map (·.v)
/-- One reply more. -/
def castSaid (q : Quest) (l : List Ballot) (s : Said) : List Ballot :=
  if (ofM q s.m).2.2 = 0 then (putB l ⟨⟨s.up, (ofM q s.m).1, s.time⟩, false⟩).1 else l
def votesOf (q : Quest) (l : List Said) : List Vote := votesB (l.foldl (castSaid q) [])
/-- Where the least upstream's vote stands, of the first so many. -/
def firstAt (l : List Vote) : Nat → Nat
  | 0 => 0
  | j + 1 => match l[j]?, l[firstAt l j]? with
    | some v, some w => if v.up < w.up then j else firstAt l j
    | _, _ => firstAt l j
def minTime (l : List Vote) (t : Int) : Int := l.foldl (fun t v => min t v.time) t
def alikeV (l : List Vote) (w : Vdt) : Bool := l.all fun v => decide (v.vd = w)
/-- All data of all ends, rising, each once. -/
def endsPut (q : Quest) (l : List Vote) (d : List Bytes) : List Bytes := l.foldl (fun d v => if (endV q v.vd).2 then (endV q v.vd).1.data.foldl put d else d) d
def union (q : Quest) (l : List Vote) : Vdt × Int × Bool :=
  match l with
  | [] => (Vdt.none, 0, false)
  | w :: r =>
    if !Nm.may q.name then (Vdt.none, 0, false)
    else if alikeV (w :: r) w.vd || decide (endsPut q (w :: r) [] = []) then (match (w :: r)[firstAt (w :: r) (w :: r).length]? with | some x => x.vd | none => Vdt.none, minTime (w :: r) w.time, true)
    else (⟨0, [⟨Nm.fold q.name, q.kind, q.cls, 0, endsPut q (w :: r) []⟩], []⟩, minTime (w :: r) w.time, true)
end Vd
end Go.Proofs.Ytdflhdfapnhjjaa
namespace Go.Proofs.Ytdflhdfapnhjjaa
open Vd (RSet Vdt Vote Rec Quest Piece Ballot)
set_option linter.unusedVariables false
set_option linter.unusedSimpArgs false
/-- The first place of a verdict. -/
def firstOf (vs : List Vote) (v : Vdt) : Nat := vs.findIdx fun x => decide (x.vd = v)
/-- What an upstream has given: 0 nothing, 1 a pass, 2 a vote; the first place of its verdict. -/
def slipOf (l : List Ballot) (u : Int) : Int × Int :=
  match l.find? fun b => b.v.up == u with
  | none => (0, 0)
  | some b => if b.pass then (1, 0) else (2, firstOf (Vd.votesB l) b.v.vd)
/-- Ballots that a box may hold: each of another upstream. -/
structure BoxOk (l : List Ballot) : Prop where
  nd : (l.map fun b => b.v.up).Nodup
  up : ∀ b ∈ l, 0 ≤ b.v.up ∧ b.v.up < 9
theorem BoxOk.nil : BoxOk [] := ⟨by simp, by simp⟩
theorem hasB_mem (l : List Ballot) (u : Int) : Vd.hasB l u = true ↔ u ∈ l.map fun b => b.v.up := by
  unfold Vd.hasB
  rw [List.any_eq_true, List.mem_map]
  simp only [beq_iff_eq]
theorem BoxOk.put {l : List Ballot} (h : BoxOk l) (x : Ballot) : BoxOk (Vd.putB l x).1 := by
  unfold Vd.putB
  split
  · exact h
  split
  · exact h
  · rename_i h1 h2
    refine ⟨?_, fun b hb => ?_⟩
    · rw [List.map_append]
      refine List.nodup_append.2 ⟨h.nd, by simp, fun a ha b hb => ?_⟩
      rw [List.map_singleton, List.mem_singleton] at hb
      intro e
      refine h2 ((hasB_mem _ _).2 ?_)
      rw [← hb, ← e]
      exact ha
    · rcases List.mem_append.1 hb with hb | hb
      · exact h.up b hb
      · rw [List.mem_singleton.1 hb]
        omega
theorem slip_has (l : List Ballot) (u : Int) : (slipOf l u).1 = 0 ↔ Vd.hasB l u = false := by
  unfold slipOf Vd.hasB
  cases hf : l.find? (fun b => b.v.up == u) with
  | none =>
    simp only [true_iff]
    rw [List.any_eq_false]
    intro b hb
    have := List.find?_eq_none.1 hf b hb
    simpa using this
  | some b =>
    have h1 := List.find?_some hf
    have h2 := List.mem_of_find?_eq_some hf
    have : (l.any fun b => b.v.up == u) = true := List.any_eq_true.2 ⟨b, h2, h1⟩
    rw [this]
    cases hp : b.pass <;> simp [hp]
/-- Votes with a verdict. -/
def withV (vs : List Vote) (v : Vdt) : List Vote := vs.filter fun x => decide (x.vd = v)
/-- By the last of the first j votes that one with as many as are wanted. -/
def wonAt (want : Int) (vs : List Vote) : Nat → Option Nat
  | 0 => none
  | j + 1 => match wonAt want vs j with
    | some k => some k
    | none => match vs[j]? with
      | some x => if want ≤ ((withV (vs.take (j + 1)) x.vd).length : Int) then some j else none
      | none => none
def risingI (l : List Int) : List Int := (List.range 9).flatMap fun (n : Nat) => l.filter fun x => x == (n : Int)
def wonR (want : Int) (vs : List Vote) : Vdt × Int × List Int × Bool :=
  match wonAt want vs vs.length with
  | none => (Vdt.none, 0, [], false)
  | some j => match vs[j]? with
    | some x => (x.vd, (withV (vs.take (j + 1)) x.vd).foldl (fun t v => min t v.time) x.time, risingI ((withV (vs.take (j + 1)) x.vd).map (·.up)), true)
    | none => (Vdt.none, 0, [], false)
def againstR (want : Int) (vs : List Vote) : List Int :=
  if (wonR want vs).2.2.2 then risingI ((vs.filter fun x => !decide (x.vd = (wonR want vs).1)).map (·.up)) else []
def mostR (vs : List Vote) : Int := vs.foldl (fun m x => max m ((withV vs x.vd).length : Int)) 0
theorem firstOf_spec {vs : List Vote} {x : Vote} (h : x ∈ vs) : firstOf vs x.vd < vs.length ∧ ∃ y, vs[firstOf vs x.vd]? = some y ∧ y.vd = x.vd := by
  have hlt : firstOf vs x.vd < vs.length := List.findIdx_lt_length_of_exists ⟨x, h, by simp⟩
  refine ⟨hlt, _, List.getElem?_eq_getElem hlt, ?_⟩
  have := List.findIdx_getElem (w := hlt) (p := fun y : Vote => decide (y.vd = x.vd))
  exact of_decide_eq_true this
theorem firstOf_inj {vs : List Vote} {x y : Vote} (hx : x ∈ vs) (hy : y ∈ vs) : firstOf vs x.vd = firstOf vs y.vd ↔ x.vd = y.vd := by
  constructor
  · intro h
    obtain ⟨_, a, ha, ha2⟩ := firstOf_spec hx
    obtain ⟨_, b, hb, hb2⟩ := firstOf_spec hy
    rw [h, hb] at ha
    obtain rfl := Option.some.inj ha
    exact ha2.symm.trans hb2
  · intro h; rw [h]
theorem ballot_inj {l : List Ballot} (h : BoxOk l) {a b : Ballot} (ha : a ∈ l) (hb : b ∈ l) (e : a.v.up = b.v.up) : a = b := by
  obtain ⟨i, hi, rfl⟩ := List.getElem_of_mem ha
  obtain ⟨j, hj, rfl⟩ := List.getElem_of_mem hb
  have hp := List.nodup_iff_pairwise_ne.1 h.nd
  rcases Nat.lt_trichotomy i j with h1 | h1 | h1
  · have := List.pairwise_iff_getElem.1 hp i j (by simpa using hi) (by simpa using hj) h1
    simp only [List.getElem_map] at this
    exact absurd e this
  · subst h1; rfl
  · have := List.pairwise_iff_getElem.1 hp j i (by simpa using hj) (by simpa using hi) h1
    simp only [List.getElem_map] at this
    exact absurd e.symm this
theorem votesB_mem {l : List Ballot} {x : Vote} : x ∈ Vd.votesB l ↔ ∃ b ∈ l, b.pass = false ∧ b.v = x := by
  unfold Vd.votesB
  rw [List.mem_map]
  constructor
  · rintro ⟨b, hb, rfl⟩
    obtain ⟨h1, h2⟩ := List.mem_filter.1 hb
    exact ⟨b, h1, by simpa using h2, rfl⟩
  · rintro ⟨b, hb, h1, rfl⟩
    exact ⟨b, List.mem_filter.2 ⟨hb, by simp [h1]⟩, rfl⟩
theorem slip_ballot {l : List Ballot} (h : BoxOk l) {b : Ballot} (hb : b ∈ l) : slipOf l b.v.up = if b.pass then ((1, 0) : Int × Int) else (2, (firstOf (Vd.votesB l) b.v.vd : Int)) := by
  unfold slipOf
  cases hf : l.find? (fun c => c.v.up == b.v.up) with
  | none =>
    have := List.find?_eq_none.1 hf b hb
    simp at this
  | some c =>
    have h1 := List.find?_some hf
    have h2 := List.mem_of_find?_eq_some hf
    have : c = b := ballot_inj h h2 hb (by simpa using h1)
    subst this
    rfl
theorem slip_vote {l : List Ballot} (h : BoxOk l) {x : Vote} (hx : x ∈ Vd.votesB l) : slipOf l x.up = ((2, (firstOf (Vd.votesB l) x.vd : Int)) : Int × Int) := by
  obtain ⟨b, hb, hp, rfl⟩ := votesB_mem.1 hx
  rw [slip_ballot h hb, hp]
  rfl
theorem firstOf_old {vs : List Vote} (x y : Vote) (hy : y ∈ vs) : firstOf (vs ++ [x]) y.vd = firstOf vs y.vd := by
  have h := (firstOf_spec hy).1
  unfold firstOf at h ⊢
  rw [List.findIdx_append, if_pos h]
/-- The first place of a verdict, of a vote more. -/
theorem firstOf_new {vs : List Vote} (x : Vote) : firstOf (vs ++ [x]) x.vd = firstOf vs x.vd := by
  unfold firstOf
  rw [List.findIdx_append]
  split
  · rfl
  · rename_i h
    have hle := List.findIdx_le_length (xs := vs) (p := fun y : Vote => decide (y.vd = x.vd))
    have : ([x] : List Vote).findIdx (fun y => decide (y.vd = x.vd)) = 0 := by simp [List.findIdx_cons]
    rw [this]
    omega
theorem find_snoc_old {l : List Ballot} {x : Ballot} {u : Int} (hu : u ≠ x.v.up) : (l ++ [x]).find? (fun b => b.v.up == u) = l.find? fun b => b.v.up == u := by
  rw [List.find?_append]
  have : ([x] : List Ballot).find? (fun b => b.v.up == u) = none := by
    rw [List.find?_eq_none]
    intro b hb
    rw [List.mem_singleton.1 hb]
    simpa using fun e => hu e.symm
  rw [this, Option.or_none]
theorem slip_snoc {l : List Ballot} (h : BoxOk l) {x : Ballot} (hx : Vd.hasB l x.v.up = false) (hb : 0 ≤ x.v.up ∧ x.v.up < 9) (vs' : List Vote) (hv : Vd.votesB (l ++ [x]) = vs') (hvs : vs' = if x.pass then Vd.votesB l else Vd.votesB l ++ [x.v]) (u : Int) :
    slipOf (l ++ [x]) u = if u = x.v.up then (if x.pass then ((1, 0) : Int × Int) else (2, (firstOf (Vd.votesB l) x.v.vd : Int))) else slipOf l u := by
  by_cases hu : u = x.v.up
  · subst hu
    rw [if_pos rfl]
    unfold slipOf
    have hn : l.find? (fun b => b.v.up == x.v.up) = none := by
      rw [List.find?_eq_none]
      intro b hb
      have := List.any_eq_false.1 hx b hb
      simpa using this
    rw [List.find?_append, hn]
    have h1 : ([x] : List Ballot).find? (fun b => b.v.up == x.v.up) = some x := by simp
    rw [h1]
    simp only [Option.none_or]
    cases hp : x.pass with
    | true => simp
    | false =>
      simp only [Bool.false_eq_true, if_false]
      rw [hv, hvs, hp]
      simp only [Bool.false_eq_true, if_false]
      rw [firstOf_new]
  · rw [if_neg hu]
    unfold slipOf
    rw [find_snoc_old hu]
    cases hf : l.find? (fun b => b.v.up == u) with
    | none => rfl
    | some b =>
      dsimp only
      cases hp : b.pass with
      | true => simp
      | false =>
        simp only [Bool.false_eq_true, if_false]
        have hbm := List.mem_of_find?_eq_some hf
        rw [hv, hvs]
        split
        · rfl
        · rw [firstOf_old x.v b.v (votesB_mem.2 ⟨b, hbm, hp, rfl⟩)]
theorem withV_snoc (vs : List Vote) (x : Vote) (v : Vdt) : withV (vs ++ [x]) v = if x.vd = v then withV vs v ++ [x] else withV vs v := by
  unfold withV
  rw [List.filter_append]
  by_cases h : x.vd = v <;> simp [h]
theorem withV_take {vs : List Vote} {i : Nat} {x : Vote} (h : vs[i]? = some x) (v : Vdt) : withV (vs.take (i + 1)) v = if x.vd = v then withV (vs.take i) v ++ [x] else withV (vs.take i) v := by
  rw [List.take_add_one, h]
  exact withV_snoc _ _ _
theorem wonAt_succ {want : Int} {vs : List Vote} {i : Nat} {x : Vote} (hx : vs[i]? = some x) (h : wonAt want vs i = none) : wonAt want vs (i + 1) = if want ≤ ((withV (vs.take (i + 1)) x.vd).length : Int) then some i else none := by
  rw [wonAt, h, hx]
theorem wonAt_some {want : Int} {vs : List Vote} {k : Nat} : ∀ (i j : Nat), i ≤ j → wonAt want vs i = some k → wonAt want vs j = some k
  | i, j, hij, h => by
    obtain ⟨d, rfl⟩ : ∃ d, j = i + d := ⟨j - i, by omega⟩
    clear hij
    induction d with
    | zero => exact h
    | succ d ih => rw [← Nat.add_assoc, wonAt, ih]
theorem wonAt_lt {want : Int} {vs : List Vote} (hw : 1 ≤ want) : ∀ i, i ≤ vs.length → wonAt want vs i = none → ∀ v, ((withV (vs.take i) v).length : Int) < want
  | 0, _, _, v => by simp [withV]; omega
  | i + 1, hi, h, v => by
    obtain ⟨x, hx⟩ : ∃ x, vs[i]? = some x := ⟨_, List.getElem?_eq_getElem (by omega)⟩
    have h0 : wonAt want vs i = none := by
      cases h1 : wonAt want vs i with
      | none => rfl
      | some k => rw [wonAt, h1] at h; cases h
    have ih := wonAt_lt hw i (by omega) h0 v
    rw [wonAt_succ hx h0] at h
    rw [withV_take hx]
    by_cases e : x.vd = v
    · subst e
      rw [if_pos rfl]
      by_cases hl : want ≤ ((withV (vs.take (i + 1)) x.vd).length : Int)
      · rw [if_pos hl] at h; cases h
      · rw [withV_take hx, if_pos rfl] at hl
        omega
    · rw [if_neg e]; exact ih
/-- Where it is won there are just as many as are wanted. -/
theorem won_exact {want : Int} {vs : List Vote} (hw : 1 ≤ want) {i : Nat} {x : Vote} (hx : vs[i]? = some x) (h : wonAt want vs i = none) : (want ≤ ((withV (vs.take (i + 1)) x.vd).length : Int)) ↔ ((withV (vs.take (i + 1)) x.vd).length : Int) = want := by
  have := wonAt_lt hw i (by have := (List.getElem?_eq_some_iff.1 hx).1; omega) h x.vd
  rw [withV_take hx, if_pos rfl, List.length_append]
  simp only [List.length_cons, List.length_nil]
  omega
/-- How many of the first so many votes have a first place. -/
def cntF (vs : List Vote) (i : Nat) (f : Nat) : Nat := (vs.take i).countP fun x => firstOf vs x.vd == f
theorem cntF_with {vs : List Vote} (i : Nat) {x : Vote} (hx : x ∈ vs) : cntF vs i (firstOf vs x.vd) = (withV (vs.take i) x.vd).length := by
  unfold cntF withV
  rw [← List.countP_eq_length_filter]
  refine List.countP_congr fun y hy => ?_
  rw [beq_iff_eq, decide_eq_true_eq]
  exact firstOf_inj (List.mem_of_mem_take hy) hx
theorem cntF_succ {vs : List Vote} {i : Nat} {x : Vote} (hx : vs[i]? = some x) (f : Nat) : cntF vs (i + 1) f = cntF vs i f + (if firstOf vs x.vd = f then 1 else 0) := by
  unfold cntF
  rw [List.take_add_one, hx]
  simp only [Option.toList_some, List.countP_append, List.countP_cons, List.countP_nil, beq_iff_eq]
  omega
end Go.Proofs.Ytdflhdfapnhjjaa
namespace Go.Proofs.Ytdflhdfapnhjjaa
open Go.RowKit
set_option linter.unusedVariables false
set_option linter.unusedSimpArgs false
open Classical in
/-- Is it this one? -/
noncomputable def hit (p q : Nat × Obj) : Nat := if p = q then 1 else 0
noncomputable def cnt (p : Nat × Obj) : Blocks → Nat
  | [] => 0
  | q :: L => hit p q + cnt p L
theorem cnt_nil (p : Nat × Obj) : cnt p [] = 0 := rfl
theorem cnt_cons (p q : Nat × Obj) (L : Blocks) : cnt p (q :: L) = hit p q + cnt p L := rfl
theorem cnt_append (p : Nat × Obj) : ∀ A B : Blocks, cnt p (A ++ B) = cnt p A + cnt p B
  | [], B => by simp [cnt]
  | q :: A, B => by rw [List.cons_append, cnt_cons, cnt_cons, cnt_append p A B]; omega
theorem cnt_pos {p : Nat × Obj} : ∀ {L : Blocks}, p ∈ L ↔ 1 ≤ cnt p L
  | [] => by simp [cnt]
  | q :: L => by
    rw [cnt_cons, List.mem_cons, cnt_pos (L := L)]
    unfold hit
    by_cases h : p = q
    · rw [if_pos h]; simp [h]
    · rw [if_neg h]; simp [h]
theorem cnt_keys {p : Nat × Obj} : ∀ {L : Blocks}, (L.map (·.1)).Nodup → cnt p L ≤ 1
  | [], _ => by simp [cnt]
  | q :: L, h => by
    rw [List.map_cons, List.nodup_cons] at h
    rw [cnt_cons]
    have h2 := cnt_keys (p := p) h.2
    unfold hit
    by_cases e : p = q
    · subst e
      rw [if_pos rfl]
      by_cases h0 : 1 ≤ cnt p L
      · exact absurd (List.mem_map.2 ⟨p, cnt_pos.2 h0, rfl⟩) h.1
      · omega
    · rw [if_neg e]; omega
theorem keys_inj : ∀ {L : Blocks}, (L.map (·.1)).Nodup → ∀ {p q : Nat × Obj}, p ∈ L → q ∈ L → p.1 = q.1 → p = q
  | [], _, p, q, h, _, _ => by simp at h
  | r :: L, hn, p, q, hp, hq, e => by
    rw [List.map_cons, List.nodup_cons] at hn
    rcases List.mem_cons.1 hp with rfl | hp' <;> rcases List.mem_cons.1 hq with rfl | hq'
    · rfl
    · exact absurd (List.mem_map.2 ⟨q, hq', e.symm⟩) hn.1
    · exact absurd (List.mem_map.2 ⟨p, hp', e⟩) hn.1
    · exact keys_inj hn.2 hp' hq' e
theorem keys_of_cnt : ∀ {L L' : Blocks}, (∀ p, cnt p L' ≤ cnt p L) → (L.map (·.1)).Nodup → (L'.map (·.1)).Nodup
  | L, [], _, _ => by simp
  | L, q :: L', h, hn => by
    rw [List.map_cons, List.nodup_cons]
    refine ⟨fun hm => ?_, keys_of_cnt (L := L) (fun p => by have := h p; rw [cnt_cons] at this; omega) hn⟩
    obtain ⟨r, hr, e⟩ := List.mem_map.1 hm
    have h1 : 1 ≤ cnt r L' := cnt_pos.1 hr
    have hq : q ∈ L := cnt_pos.2 (by have := h q; rw [cnt_cons] at this; have h0 : hit q q = 1 := by simp [hit]
                                     omega)
    have hr' : r ∈ L := cnt_pos.2 (by have := h r; rw [cnt_cons] at this; omega)
    have := keys_inj hn hr' hq e
    subst this
    have h2 := h r
    rw [cnt_cons] at h2
    have h3 := cnt_keys (p := r) hn
    have h0 : hit r r = 1 := by simp [hit]
    omega
variable {G : World} {P : Program} {n : Nat} {ρ : Slots} {L : Blocks} {ty : TypeId} {Q : Exit → Act → World → Prop}
theorem Heap.cnt {w : World} {L' : Blocks} (h : Heap G w L) (hc : ∀ p, Go.Proofs.Ytdflhdfapnhjjaa.cnt p L' ≤ Go.Proofs.Ytdflhdfapnhjjaa.cnt p L) : Heap G w L' :=
  ⟨h.still, keys_of_cnt hc h.nodup, fun p hp => h.get p (cnt_pos.2 (Nat.le_trans (cnt_pos.1 hp) (hc p)))⟩
theorem mem_of_cnt {L' : Blocks} (hc : ∀ p, cnt p L' ≤ cnt p L) : ∀ p ∈ L', p ∈ L := fun p hp => cnt_pos.2 (Nat.le_trans (cnt_pos.1 hp) (hc p))
/-! ### rows written in place -/
section
variable {α : Type} {r : Rp α} {sz : Nat}
theorem Laid.set : ∀ {l : List α} {xs : List Value} {i : Nat} {y : α} {cs : List Value}, Laid r sz L xs l → i < l.length → cs.length = sz → r L cs y → Laid r sz L (xs.take (i * sz) ++ cs ++ xs.drop (i * sz + sz)) (l.set i y)
  | [], _, i, y, cs, _, hi, _, _ => by simp at hi
  | x :: l, _, 0, y, cs, ⟨c, zs, h1, h2, h3, h4⟩, _, hn, hy => by
    refine ⟨cs, zs, ?_, hn, hy, h4⟩
    rw [h1, Nat.zero_mul, List.take_zero, List.nil_append, Nat.zero_add, ← h2, List.drop_left]
  | x :: l, _, i + 1, y, cs, ⟨c, zs, h1, h2, h3, h4⟩, hi, hn, hy => by
    refine ⟨c, zs.take (i * sz) ++ cs ++ zs.drop (i * sz + sz), ?_, h2, h3, h4.set (by simpa using hi) hn hy⟩
    rw [h1, Nat.succ_mul, List.take_append, List.drop_append, h2, List.take_of_length_le (by omega), List.drop_of_length_le (l := c) (by omega)]
    rw [show i * sz + sz - sz = i * sz by omega, show i * sz + sz + sz - sz = i * sz + sz by omega]
    simp
/-- A thing of a row of one's own, written anew. -/
theorem ORow.set {e : TypeId} {a : Option Addr} {c : Nat} {l : List α} {B : Blocks} {i b : Nat} {y : α} {cs : List Value} {cur cur' : Array Value} (h : ORow r e sz L a c l B) (hB : B = [(b, .cells cur e (0, 0))]) (hi : i < l.length) (hn : cs.length = sz) (hy : r L cs y) (hone : ∀ v ∈ cs, v.oneCell' = true)
    (hs : cur'.size = cur.size) (hin : ∀ j v, cs[j]? = some v → cur'[i * sz + j]? = some v) (hout : ∀ k, k < i * sz ∨ i * sz + sz ≤ k → cur'[k]? = cur[k]?) : ORow r e sz L a c (l.set i y) [(b, .cells cur' e (0, 0))] := by
  obtain ⟨xs, h1, h2, h3⟩ := h.ex
  have hlen := h2.len
  have hle : i * sz + sz ≤ l.length * sz := by
    have : (i + 1) * sz ≤ l.length * sz := Nat.mul_le_mul_right _ hi
    rw [Nat.succ_mul] at this
    exact this
  rcases h1.is with ⟨_, _, q3⟩ | ⟨b', cap, cur0, q1, q2, q3, q4, q5, q6⟩
  · rw [q3] at hB; simp at hB
  · rw [q2] at hB
    simp only [List.cons.injEq, Prod.mk.injEq, Obj.cells.injEq, and_true] at hB
    obtain ⟨rfl, rfl⟩ := hB
    refine ⟨xs.take (i * sz) ++ cs ++ xs.drop (i * sz + sz), ⟨?_, Or.inr ⟨b', cap, cur', ?_, rfl, ?_, q4, by rw [hs]; exact q5, ?_⟩⟩, h2.set hi hn hy, fun v hv => ?_⟩
    · simp only [List.length_append, List.length_take, List.length_drop, List.length_set, hlen, hn]; omega
    · rw [List.length_set]; exact q1
    · rw [List.length_set]; exact q3
    · rw [List.length_set]
      apply List.ext_getElem?
      intro k
      have hx : ∀ k, k < l.length * sz → xs[k]? = cur0[k]? := fun k hk => by
        rw [← q6, List.getElem?_take_of_lt hk]; simp
      by_cases hk : k < l.length * sz
      · rw [List.getElem?_take_of_lt hk, Array.getElem?_toList]
        by_cases k1 : k < i * sz
        · rw [hout k (Or.inl k1), List.append_assoc, List.getElem?_append_left (by rw [List.length_take]; omega), List.getElem?_take_of_lt k1, hx k hk]
        · by_cases k2 : k < i * sz + sz
          · rw [List.append_assoc, List.getElem?_append_right (by rw [List.length_take]; omega), List.getElem?_append_left (by rw [List.length_take]; omega)]
            have hm : min (i * sz) xs.length = i * sz := by omega
            rw [List.length_take, hm]
            obtain ⟨v, hv⟩ : ∃ v, cs[k - i * sz]? = some v := ⟨_, List.getElem?_eq_getElem (by omega)⟩
            rw [hv]
            have := hin _ v hv
            rw [show i * sz + (k - i * sz) = k by omega] at this
            exact this
          · rw [hout k (Or.inr (by omega)), List.getElem?_append_right (by simp only [List.length_append, List.length_take]; omega)]
            have hm : (xs.take (i * sz) ++ cs).length = i * sz + sz := by simp only [List.length_append, List.length_take]; omega
            rw [hm, List.getElem?_drop, show i * sz + sz + (k - (i * sz + sz)) = k by omega, hx k hk]
      · rw [List.getElem?_eq_none (by simp; omega), List.getElem?_eq_none (by simp only [List.length_append, List.length_take, List.length_drop]; omega)]
    · rcases List.mem_append.1 hv with hv | hv
      · rcases List.mem_append.1 hv with hv | hv
        · exact h3 v (List.mem_of_mem_take hv)
        · exact hone v hv
      · exact h3 v (List.mem_of_mem_drop hv)
/-- The block of a row of one's own that is not empty. -/
theorem ORow.block {e : TypeId} {a : Option Addr} {c : Nat} {l : List α} {B : Blocks} (h : ORow r e sz L a c l B) (hl : l ≠ []) : ∃ b cur, a = some ⟨b, 0, none⟩ ∧ B = [(b, .cells cur e (0, 0))] ∧ l.length ≤ c ∧ c ≤ maxLen ∧ cur.size = c * sz ∧
    ∀ i x, l[i]? = some x → ∃ cs, cs.length = sz ∧ r L cs x ∧ (∀ v ∈ cs, v.oneCell' = true) ∧ ∀ j v, cs[j]? = some v → cur[i * sz + j]? = some v := by
  obtain ⟨xs, h1, h2, h3⟩ := h.ex
  rcases h1.is with ⟨_, q2, _⟩ | ⟨b, cap, cur, q1, q2, q3, q4, q5, q6⟩
  · exact absurd (List.eq_nil_of_length_eq_zero q2) hl
  · obtain ⟨rfl, _, rfl⟩ := Value.slice.inj q1
    refine ⟨b, cur, rfl, q2, q3, q4, q5, fun i x hx => ?_⟩
    obtain ⟨cs, k1, k2, k3⟩ := h2.at hx
    refine ⟨cs, k1, k2, fun v hv => ?_, fun j v hj => ?_⟩
    · obtain ⟨j, hj⟩ := List.getElem?_of_mem hv
      exact h3 v (List.mem_of_getElem? (k3 j v hj))
    · have hil := (List.getElem?_eq_some_iff.1 hx).1
      have hjl := (List.getElem?_eq_some_iff.1 hj).1
      have hlt : i * sz + j < l.length * sz := by
        have : (i + 1) * sz ≤ l.length * sz := Nat.mul_le_mul_right _ hil
        rw [Nat.succ_mul] at this
        omega
      have := k3 j v hj
      rw [← q6, List.getElem?_take_of_lt hlt] at this
      simpa using this
end
end Go.Proofs.Ytdflhdfapnhjjaa
namespace Go.Proofs.Ytdflhdfapnhjjaa
open Go.RowKit
set_option linter.unusedVariables false
set_option linter.unusedSimpArgs false
variable {G : World} {P : Program} {n : Nat} {ρ : Slots} {L : Blocks} {ty : TypeId} {Q : Exit → Act → World → Prop}
theorem op_min {x y : Operand} {k k' : IntKind} {a b : Int} {ts : Array TypeId} (hx : ev ρ x = some (.int k a)) (hy : ev ρ y = some (.int k' b)) : OpQ P ρ L (.call ⟨.builtin .min, #[x, y], ts⟩) ty (.int k (min a b)) :=
  ⟨fun r hr w hw o ho _ => by simp [execOp, ho, hr _ _ hx, hr _ _ hy, resolve, invoke, builtin, Lib.run_min_ints, Result.andThen]⟩
theorem op_max {x y : Operand} {k k' : IntKind} {a b : Int} {ts : Array TypeId} (hx : ev ρ x = some (.int k a)) (hy : ev ρ y = some (.int k' b)) : OpQ P ρ L (.call ⟨.builtin .max, #[x, y], ts⟩) ty (.int k (max a b)) :=
  ⟨fun r hr w hw o ho _ => by simp [execOp, ho, hr _ _ hx, hr _ _ hy, resolve, invoke, builtin, Lib.run_max_ints, Result.andThen]⟩
theorem T_mono {c : Code} {Q' : Exit → Act → World → Prop} (h : T P G n ρ L c Q) (hi : ∀ e a w, Q e a w → Q' e a w) : T P G n ρ L c Q' := ⟨fun a w he hw b k cs => by
  obtain ⟨e, a', w', hq, h2⟩ := h.out a w he hw b k cs
  exact ⟨e, a', w', hi _ _ _ hq, h2⟩⟩
theorem least {S : Nat → Prop} (h : ∃ m, S m) : ∃ m, S m ∧ ∀ k, S k → m ≤ k := by
  obtain ⟨m, hm⟩ := h
  induction m using Nat.strongRecOn with
  | _ m ih =>
    by_cases hk : ∃ k, k < m ∧ S k
    · obtain ⟨k, h1, h2⟩ := hk
      exact ih k h1 h2
    · exact ⟨m, hm, fun k hk' => Nat.le_of_not_lt fun hlt => hk ⟨k, hlt, hk'⟩⟩
open Classical in
noncomputable def leastOf (S : Nat → Prop) : Nat := if h : ∃ m, S m then Classical.choose (least h) else 0
end Go.Proofs.Ytdflhdfapnhjjaa
namespace Go.Proofs.Ytdflhdfapnhjjaa
open Go.RowKit
set_option linter.unusedVariables false
set_option linter.unusedSimpArgs false
theorem dT {p : Prop} [Decidable p] (h : p) : decide p = true := decide_eq_true h
theorem dF {p : Prop} [Decidable p] (h : ¬ p) : decide p = false := decide_eq_false h
section
variable {α : Type} [BEq α] [LawfulBEq α] {a b : α}
theorem eT (h : a = b) : (a == b) = true := beq_iff_eq.2 h
theorem eF (h : ¬ a = b) : (a == b) = false := beq_false_of_ne h
theorem nT (h : ¬ a = b) : (a != b) = true := bne_iff_ne.2 h
theorem nF (h : a = b) : (a != b) = false := by rw [h]; simp
end
theorem xT {b : Bool} (h : b = false) : (!b) = true := by rw [h]; rfl
theorem xF {b : Bool} (h : b = true) : (!b) = false := by rw [h]; rfl
variable {G : World} {P : Program} {n : Nat} {ρ : Slots} {L : Blocks} {ty : TypeId} {Q : Exit → Act → World → Prop}
section
variable {c : Operand} {x y : Code}
theorem T_condB {b : Bool} (hc : ev ρ c = some (.bool b)) (ht : b = true → T P G n ρ L x Q) (hf : b = false → T P G n ρ L y Q) : T P G n ρ L (.cond c x y) Q := T_cond hc ht hf
theorem T_condX {b : Bool} (hc : ev ρ c = some (.bool !b)) (ht : b = false → T P G n ρ L x Q) (hf : b = true → T P G n ρ L y Q) : T P G n ρ L (.cond c x y) Q := T_cond hc (fun h => ht (by simpa using h)) (fun h => hf (by simpa using h))
theorem T_condD {p : Prop} [Decidable p] (hc : ev ρ c = some (.bool (decide p))) (ht : p → T P G n ρ L x Q) (hf : ¬ p → T P G n ρ L y Q) : T P G n ρ L (.cond c x y) Q := T_cond hc (fun h => ht (of_decide_eq_true h)) (fun h => hf (of_decide_eq_false h))
theorem T_condXD {p : Prop} [Decidable p] (hc : ev ρ c = some (.bool !decide p)) (ht : ¬ p → T P G n ρ L x Q) (hf : p → T P G n ρ L y Q) : T P G n ρ L (.cond c x y) Q := T_condX hc (fun h => ht (of_decide_eq_false h)) (fun h => hf (of_decide_eq_true h))
theorem T_condE {α : Type} [BEq α] [LawfulBEq α] {a b : α} (hc : ev ρ c = some (.bool (a == b))) (ht : a = b → T P G n ρ L x Q) (hf : ¬ a = b → T P G n ρ L y Q) : T P G n ρ L (.cond c x y) Q := T_cond hc (fun h => ht (beq_iff_eq.1 h)) (fun h => hf (fun e => by rw [eT e] at h; cases h))
theorem T_condN {α : Type} [BEq α] [LawfulBEq α] {a b : α} (hc : ev ρ c = some (.bool (a != b))) (ht : ¬ a = b → T P G n ρ L x Q) (hf : a = b → T P G n ρ L y Q) : T P G n ρ L (.cond c x y) Q := T_cond hc (fun h => ht (bne_iff_ne.1 h)) (fun h => hf (by simpa using h))
theorem T_condXE {α : Type} [BEq α] [LawfulBEq α] {a b : α} (hc : ev ρ c = some (.bool !(a == b))) (ht : ¬ a = b → T P G n ρ L x Q) (hf : a = b → T P G n ρ L y Q) : T P G n ρ L (.cond c x y) Q := T_condX hc (fun h => ht (fun e => by rw [eT e] at h; cases h)) (fun h => hf (beq_iff_eq.1 h))
end
/-! a guard that is not decided -/
section
variable {ops : Array Oper} {d j dj : Nat} {op : Op} {pos : String} {after : Array Edge} {rest : List Oper}
theorem TL_gD {p : Prop} [Decidable p] {want : Bool} (hs : guardSlot ops j = some dj) (hv : ρ.lookup dj = some (.bool (decide p))) (ht : p → TL P G ops n ρ L (⟨some d, op, ty, pos, after, some (j, want)⟩ :: rest) Q) (hf : ¬ p → TL P G ops n ρ L (⟨some d, op, ty, pos, after, some (j, want)⟩ :: rest) Q) :
    TL P G ops n ρ L (⟨some d, op, ty, pos, after, some (j, want)⟩ :: rest) Q := by
  by_cases h : p
  · exact ht h
  · exact hf h
theorem TL_gE {α : Type} [BEq α] [LawfulBEq α] {a b : α} {want : Bool} (hs : guardSlot ops j = some dj) (hv : ρ.lookup dj = some (.bool (a == b))) (ht : a = b → TL P G ops n ρ L (⟨some d, op, ty, pos, after, some (j, want)⟩ :: rest) Q) (hf : ¬ a = b → TL P G ops n ρ L (⟨some d, op, ty, pos, after, some (j, want)⟩ :: rest) Q) :
    TL P G ops n ρ L (⟨some d, op, ty, pos, after, some (j, want)⟩ :: rest) Q := by
  by_cases h : a = b
  · exact ht h
  · exact hf h
theorem TL_gN {α : Type} [BEq α] [LawfulBEq α] {a b : α} {want : Bool} (hs : guardSlot ops j = some dj) (hv : ρ.lookup dj = some (.bool (a != b))) (ht : ¬ a = b → TL P G ops n ρ L (⟨some d, op, ty, pos, after, some (j, want)⟩ :: rest) Q) (hf : a = b → TL P G ops n ρ L (⟨some d, op, ty, pos, after, some (j, want)⟩ :: rest) Q) :
    TL P G ops n ρ L (⟨some d, op, ty, pos, after, some (j, want)⟩ :: rest) Q := by
  by_cases h : a = b
  · exact hf h
  · exact ht h
theorem TL_gX {b want : Bool} (hs : guardSlot ops j = some dj) (hv : ρ.lookup dj = some (.bool !b)) (ht : b = true → TL P G ops n ρ L (⟨some d, op, ty, pos, after, some (j, want)⟩ :: rest) Q) (hf : b = false → TL P G ops n ρ L (⟨some d, op, ty, pos, after, some (j, want)⟩ :: rest) Q) :
    TL P G ops n ρ L (⟨some d, op, ty, pos, after, some (j, want)⟩ :: rest) Q := by
  cases b
  · exact hf rfl
  · exact ht rfl
theorem TL_gB {b want : Bool} (hs : guardSlot ops j = some dj) (hv : ρ.lookup dj = some (.bool b)) (ht : b = true → TL P G ops n ρ L (⟨some d, op, ty, pos, after, some (j, want)⟩ :: rest) Q) (hf : b = false → TL P G ops n ρ L (⟨some d, op, ty, pos, after, some (j, want)⟩ :: rest) Q) :
    TL P G ops n ρ L (⟨some d, op, ty, pos, after, some (j, want)⟩ :: rest) Q := by
  cases b
  · exact hf rfl
  · exact ht rfl
end
theorem op_boxA {t : TypeId} {x : Operand} {C : Array Value} (hx : ev ρ x = some (.agg C)) : OpNew P G ρ L (.box t x) ty (fun b => .pointer (some ⟨b, 0, none⟩)) (.cells C t (0, 0)) := op_box hx rfl
/-! results -/
theorem TQ_ret3 {fn : Func} {Φ : Value → Blocks → Prop} (t u s : Nat) (v x y : Value) (hr : fn.results = #[.tmp t, .tmp u, .tmp s]) (hv : ρ.lookup t = some v) (hx : ρ.lookup u = some x) (hy : ρ.lookup s = some y) (h : Φ (.tuple #[v, x, y]) L) : TQ G n ρ L .ret (bodyPost P fn (RetPost G Φ)) :=
  ⟨fun a w he hw => ⟨he.defers, .tuple #[v, x, y], by
    have h1 : a.tmps.getD t undef = v := he.reads (.tmp t) v hv
    have h2 : a.tmps.getD u undef = x := he.reads (.tmp u) x hx
    have h3 : a.tmps.getD s undef = y := he.reads (.tmp s) y hy
    simp only [results, hr]
    simp
    exact ⟨by simpa using h1, by simpa using h2, by simpa using h3⟩, _, L, rfl, h, hw⟩⟩
theorem TQ_ret4 {fn : Func} {Φ : Value → Blocks → Prop} (t u s r : Nat) (v x y z : Value) (hr : fn.results = #[.tmp t, .tmp u, .tmp s, .tmp r]) (hv : ρ.lookup t = some v) (hx : ρ.lookup u = some x) (hy : ρ.lookup s = some y) (hz : ρ.lookup r = some z) (h : Φ (.tuple #[v, x, y, z]) L) : TQ G n ρ L .ret (bodyPost P fn (RetPost G Φ)) :=
  ⟨fun a w he hw => ⟨he.defers, .tuple #[v, x, y, z], by
    have h1 : a.tmps.getD t undef = v := he.reads (.tmp t) v hv
    have h2 : a.tmps.getD u undef = x := he.reads (.tmp u) x hx
    have h3 : a.tmps.getD s undef = y := he.reads (.tmp s) y hy
    have h4 : a.tmps.getD r undef = z := he.reads (.tmp r) z hz
    simp only [results, hr]
    simp
    exact ⟨by simpa using h1, by simpa using h2, by simpa using h3, by simpa using h4⟩, _, L, rfl, h, hw⟩⟩
theorem cell_run {a : Nat} {b k : Nat} {t : TypeId} {C : Array Value} {te : TypeId} {fr : Nat × Nat} {ac : Act} {w : World} (he : Env n ρ ac) (hv : ρ.lookup a = some (.pointer (some ⟨b, 0, none⟩))) (ht : structTy P t k = true) (hg : w.heap[b]? = some (.cells C te fr)) (hk : C.size = k) :
    ac.tmps.getD a undef = .pointer (some ⟨b, 0, none⟩) ∧ (loadVar t ⟨b, 0, none⟩).run P w = .ok (.agg C) w := by
  have h1 : ac.tmps.getD a undef = .pointer (some ⟨b, 0, none⟩) := he.reads (.tmp a) _ hv
  refine ⟨h1, ?_⟩
  unfold structTy at ht
  cases hu : P.underlying t with
  | none => simp [hu] at ht
  | some d =>
    cases hi : P.info? t with
    | none => simp [hi] at ht
    | some i =>
      cases d with
      | struct fs =>
        simp [hu, hi] at ht
        have ha : (isAgg t).run P w = .ok true w := by
          unfold isAgg
          simp [run_underlying hu]
        have hc := run_loadCells_list (P := P) (w := w) ⟨b, 0, none⟩ C.toList (fun j v hj => by
          rw [addr_add, Nat.zero_add]
          unfold World.cell?
          rw [hg]
          simpa using hj)
        rw [Array.length_toList, hk] at hc
        simp [loadVar, ha, sizeOf, typeInfo, hi, ht, hc]
      | _ => simp [hu] at ht
theorem TQ_retC2 {fn : Func} {Φ : Value → Blocks → Prop} (a t u : Nat) {b k : Nat} {C : Array Value} {te : TypeId} {fr : Nat × Nat} {x : Value} {L' : Blocks} (hr : fn.results = #[.cell a t, .tmp u]) (hv : ρ.lookup a = some (.pointer (some ⟨b, 0, none⟩))) (hx : ρ.lookup u = some x)
    (ht : structTy P t k = true) (hm : (b, Obj.cells C te fr) ∈ L) (hk : C.size = k) (hl : ∀ w, Heap G w L → Heap G w L') (h : Φ (.tuple #[.agg C, x]) L') : TQ G n ρ L .ret (bodyPost P fn (RetPost G Φ)) :=
  ⟨fun ac w he hw => ⟨he.defers, .tuple #[.agg C, x], by
    obtain ⟨h1, h0⟩ := cell_run he hv ht (hw.get _ hm) hk
    have h2 : ac.tmps.getD u undef = x := he.reads (.tmp u) x hx
    rw [Array.getD_eq_getD_getElem?] at h1 h2
    simp only [results, hr]
    simp
    simp [h1, asAddr, h0, h2], _, L', rfl, h, hl w hw⟩⟩
theorem TQ_retC3 {fn : Func} {Φ : Value → Blocks → Prop} (a t u s : Nat) {b k : Nat} {C : Array Value} {te : TypeId} {fr : Nat × Nat} {x y : Value} {L' : Blocks} (hr : fn.results = #[.cell a t, .tmp u, .tmp s]) (hv : ρ.lookup a = some (.pointer (some ⟨b, 0, none⟩))) (hx : ρ.lookup u = some x) (hy : ρ.lookup s = some y)
    (ht : structTy P t k = true) (hm : (b, Obj.cells C te fr) ∈ L) (hk : C.size = k) (hl : ∀ w, Heap G w L → Heap G w L') (h : Φ (.tuple #[.agg C, x, y]) L') : TQ G n ρ L .ret (bodyPost P fn (RetPost G Φ)) :=
  ⟨fun ac w he hw => ⟨he.defers, .tuple #[.agg C, x, y], by
    obtain ⟨h1, h0⟩ := cell_run he hv ht (hw.get _ hm) hk
    have h2 : ac.tmps.getD u undef = x := he.reads (.tmp u) x hx
    have h3 : ac.tmps.getD s undef = y := he.reads (.tmp s) y hy
    rw [Array.getD_eq_getD_getElem?] at h1 h2 h3
    simp only [results, hr]
    simp
    simp [h1, asAddr, h0, h2, h3], _, L', rfl, h, hl w hw⟩⟩
end Go.Proofs.Ytdflhdfapnhjjaa
namespace Go.Proofs.Ytdflhdfapnhjjaa
open Go.RowKit
theorem follows_mixed : Try.prog.follows .mixedOrders = true := by kernel_rfl
theorem pl_3 : plainTy Try.prog 3 = true := by kernel_rfl
theorem one_3 : oneTy Try.prog 3 = true := by kernel_rfl
theorem pl_4 : plainTy Try.prog 4 = true := by kernel_rfl
theorem pl_5 : plainTy Try.prog 5 = true := by kernel_rfl
theorem pl_9 : plainTy Try.prog 9 = true := by kernel_rfl
theorem one_9 : oneTy Try.prog 9 = true := by kernel_rfl
theorem pl_23 : plainTy Try.prog 23 = true := by kernel_rfl
theorem fld_25_10 : fieldOff Try.prog 25 10 = some 10 := by kernel_rfl
theorem pl_27 : plainTy Try.prog 27 = true := by kernel_rfl
theorem info_27 : (Try.prog.info? 112).map (fun i => (i.zero, i.size, i.bytes)) = some (some (.agg #[(.string (bs [])), (.int .u16 0), (.int .u16 0), (.int .u32 0), (.string (bs []))]), 5, 40) := by kernel_rfl
theorem ety_27 : ElemTy Try.prog 27 112 5 40 (.agg #[(.string (bs [])), (.int .u16 0), (.int .u16 0), (.int .u32 0), (.string (bs []))]) := by
  obtain ⟨i, h1, h2, h3, h4⟩ := info_parts info_27
  exact ⟨Try.underlying27, ⟨i, h1, h2, h3, h4⟩, rfl, by decide⟩
theorem st_32 : structTy Try.prog 32 21 = true := by kernel_rfl
theorem fld_32_0 : fieldOff Try.prog 32 0 = some 0 := by kernel_rfl
theorem fld_32_2 : fieldOff Try.prog 32 2 = some 12 := by kernel_rfl
theorem fld_32_3 : fieldOff Try.prog 32 3 = some 13 := by kernel_rfl
theorem st_34 : structTy Try.prog 34 3 = true := by kernel_rfl
theorem fld_34_0 : fieldOff Try.prog 34 0 = some 0 := by kernel_rfl
theorem fld_34_1 : fieldOff Try.prog 34 1 = some 1 := by kernel_rfl
theorem fld_34_2 : fieldOff Try.prog 34 2 = some 2 := by kernel_rfl
theorem pl_36 : plainTy Try.prog 36 = true := by kernel_rfl
theorem one_36 : oneTy Try.prog 36 = true := by kernel_rfl
theorem pl_40 : plainTy Try.prog 40 = true := by kernel_rfl
theorem one_40 : oneTy Try.prog 40 = true := by kernel_rfl
theorem info_40 : (Try.prog.info? 60).map (fun i => (i.zero, i.size, i.bytes)) = some (some (.agg #[(.string (bs [])), (.int .u16 0), (.int .u16 0), (.int .u32 0), (.slice none 0 0)]), 5, 48) := by kernel_rfl
theorem ety_40 : ElemTy Try.prog 40 60 5 48 (.agg #[(.string (bs [])), (.int .u16 0), (.int .u16 0), (.int .u32 0), (.slice none 0 0)]) := by
  obtain ⟨i, h1, h2, h3, h4⟩ := info_parts info_40
  exact ⟨Try.underlying40, ⟨i, h1, h2, h3, h4⟩, rfl, by decide⟩
theorem zero_42 : zeroOf Try.prog 42 = some (.agg #[(.int .u8 0), (.slice none 0 0), (.slice none 0 0)]) := by kernel_rfl
theorem st_42 : structTy Try.prog 42 3 = true := by kernel_rfl
theorem fld_42_0 : fieldOff Try.prog 42 0 = some 0 := by kernel_rfl
theorem fld_42_1 : fieldOff Try.prog 42 1 = some 1 := by kernel_rfl
theorem fld_42_2 : fieldOff Try.prog 42 2 = some 2 := by kernel_rfl
theorem zero_46 : zeroOf Try.prog 46 = some (.agg #[(.int .i64 0), (.int .u8 0), (.slice none 0 0), (.slice none 0 0), (.int .u32 0)]) := by kernel_rfl
theorem st_46 : structTy Try.prog 46 5 = true := by kernel_rfl
theorem fld_46_0 : fieldOff Try.prog 46 0 = some 0 := by kernel_rfl
theorem fld_46_1 : fieldOff Try.prog 46 1 = some 1 := by kernel_rfl
theorem fld_46_2 : fieldOff Try.prog 46 2 = some 4 := by kernel_rfl
theorem pl_47 : plainTy Try.prog 47 = true := by kernel_rfl
theorem one_47 : oneTy Try.prog 47 = true := by kernel_rfl
theorem info_47 : (Try.prog.info? 46).map (fun i => (i.zero, i.size, i.bytes)) = some (some (.agg #[(.int .i64 0), (.int .u8 0), (.slice none 0 0), (.slice none 0 0), (.int .u32 0)]), 5, 72) := by kernel_rfl
theorem ety_47 : ElemTy Try.prog 47 46 5 72 (.agg #[(.int .i64 0), (.int .u8 0), (.slice none 0 0), (.slice none 0 0), (.int .u32 0)]) := by
  obtain ⟨i, h1, h2, h3, h4⟩ := info_parts info_47
  exact ⟨Try.underlying47, ⟨i, h1, h2, h3, h4⟩, rfl, by decide⟩
theorem info_50 : (Try.prog.info? 63).map (fun i => (i.zero, i.size, i.bytes)) = some (some (.agg #[(.int .i64 0), (.int .u8 0), (.slice none 0 0), (.slice none 0 0), (.int .u32 0)]), 5, 72) := by kernel_rfl
theorem ety_50 : ElemTy Try.prog 50 63 5 72 (.agg #[(.int .i64 0), (.int .u8 0), (.slice none 0 0), (.slice none 0 0), (.int .u32 0)]) := by
  obtain ⟨i, h1, h2, h3, h4⟩ := info_parts info_50
  exact ⟨Try.underlying50, ⟨i, h1, h2, h3, h4⟩, rfl, by decide⟩
theorem pl_58 : plainTy Try.prog 58 = true := by kernel_rfl
theorem one_58 : oneTy Try.prog 58 = true := by kernel_rfl
theorem info_58 : (Try.prog.info? 9).map (fun i => (i.zero, i.size, i.bytes)) = some (some (.string (bs [])), 1, 16) := by kernel_rfl
theorem ety_58 : ElemTy Try.prog 58 9 1 16 (.string (bs [])) := by
  obtain ⟨i, h1, h2, h3, h4⟩ := info_parts info_58
  exact ⟨Try.underlying58, ⟨i, h1, h2, h3, h4⟩, rfl, by decide⟩
theorem zero_60 : zeroOf Try.prog 60 = some (.agg #[(.string (bs [])), (.int .u16 0), (.int .u16 0), (.int .u32 0), (.slice none 0 0)]) := by kernel_rfl
theorem st_60 : structTy Try.prog 60 5 = true := by kernel_rfl
theorem fld_60_0 : fieldOff Try.prog 60 0 = some 0 := by kernel_rfl
theorem fld_60_1 : fieldOff Try.prog 60 1 = some 1 := by kernel_rfl
theorem fld_60_2 : fieldOff Try.prog 60 2 = some 2 := by kernel_rfl
theorem fld_60_3 : fieldOff Try.prog 60 3 = some 3 := by kernel_rfl
theorem fld_60_4 : fieldOff Try.prog 60 4 = some 4 := by kernel_rfl
theorem zero_63 : zeroOf Try.prog 63 = some (.agg #[(.int .i64 0), (.int .u8 0), (.slice none 0 0), (.slice none 0 0), (.int .u32 0)]) := by kernel_rfl
theorem st_63 : structTy Try.prog 63 5 = true := by kernel_rfl
theorem fld_63_0 : fieldOff Try.prog 63 0 = some 0 := by kernel_rfl
theorem fld_63_1 : fieldOff Try.prog 63 1 = some 1 := by kernel_rfl
theorem fld_63_2 : fieldOff Try.prog 63 2 = some 4 := by kernel_rfl
theorem info_69 : (Try.prog.info? 73).map (fun i => (i.zero, i.size, i.bytes)) = some (some (.agg #[(.int .u8 0), (.int .i64 0), (.int .u8 0), (.slice none 0 0), (.slice none 0 0), (.int .u32 0), (.string (bs [])), (.int .u16 0), (.int .u16 0), (.int .u16 0), (.bool false), (.int .u8 0), (.bool false), (.bool false), (.bool false), (.bool false), (.bool false), (.bool false), (.bool false), (.int .u8 0), (.slice none 0 0), (.slice none 0 0), (.slice none 0 0), (.slice none 0 0), (.bool false), (.int .u16 0), (.int .u8 0), (.int .u8 0), (.int .u16 0), (.slice none 0 0)]), 30, 256) := by kernel_rfl
theorem ety_69 : ElemTy Try.prog 69 73 30 256 (.agg #[(.int .u8 0), (.int .i64 0), (.int .u8 0), (.slice none 0 0), (.slice none 0 0), (.int .u32 0), (.string (bs [])), (.int .u16 0), (.int .u16 0), (.int .u16 0), (.bool false), (.int .u8 0), (.bool false), (.bool false), (.bool false), (.bool false), (.bool false), (.bool false), (.bool false), (.int .u8 0), (.slice none 0 0), (.slice none 0 0), (.slice none 0 0), (.slice none 0 0), (.bool false), (.int .u16 0), (.int .u8 0), (.int .u8 0), (.int .u16 0), (.slice none 0 0)]) := by
  obtain ⟨i, h1, h2, h3, h4⟩ := info_parts info_69
  exact ⟨Try.underlying69, ⟨i, h1, h2, h3, h4⟩, rfl, by decide⟩
theorem zero_73 : zeroOf Try.prog 73 = some (.agg #[(.int .u8 0), (.int .i64 0), (.int .u8 0), (.slice none 0 0), (.slice none 0 0), (.int .u32 0), (.string (bs [])), (.int .u16 0), (.int .u16 0), (.int .u16 0), (.bool false), (.int .u8 0), (.bool false), (.bool false), (.bool false), (.bool false), (.bool false), (.bool false), (.bool false), (.int .u8 0), (.slice none 0 0), (.slice none 0 0), (.slice none 0 0), (.slice none 0 0), (.bool false), (.int .u16 0), (.int .u8 0), (.int .u8 0), (.int .u16 0), (.slice none 0 0)]) := by kernel_rfl
theorem st_73 : structTy Try.prog 73 30 = true := by kernel_rfl
theorem fld_73_1 : fieldOff Try.prog 73 1 = some 1 := by kernel_rfl
theorem fld_73_2 : fieldOff Try.prog 73 2 = some 6 := by kernel_rfl
theorem fld_73_3 : fieldOff Try.prog 73 3 = some 9 := by kernel_rfl
theorem info_79 : (Try.prog.info? 3).map (fun i => (i.zero, i.size, i.bytes)) = some (some (.int .i64 0), 1, 8) := by kernel_rfl
theorem ety_79 : ElemTy Try.prog 79 3 1 8 (.int .i64 0) := by
  obtain ⟨i, h1, h2, h3, h4⟩ := info_parts info_79
  exact ⟨Try.underlying79, ⟨i, h1, h2, h3, h4⟩, rfl, by decide⟩
theorem zero_97 : zeroOf Try.prog 97 = some (.agg #[(.int .u8 0), (.int .i64 0)]) := by kernel_rfl
theorem st_97 : structTy Try.prog 97 2 = true := by kernel_rfl
theorem fld_97_0 : fieldOff Try.prog 97 0 = some 0 := by kernel_rfl
theorem fld_97_1 : fieldOff Try.prog 97 1 = some 1 := by kernel_rfl
theorem arr_98 : arrTy Try.prog 98 = some (9, 2) := by kernel_rfl
theorem fld_100_0 : fieldOff Try.prog 100 0 = some 0 := by kernel_rfl
theorem fld_100_1 : fieldOff Try.prog 100 1 = some 1 := by kernel_rfl
theorem fld_100_2 : fieldOff Try.prog 100 2 = some 19 := by kernel_rfl
theorem zero_112 : zeroOf Try.prog 112 = some (.agg #[(.string (bs [])), (.int .u16 0), (.int .u16 0), (.int .u32 0), (.string (bs []))]) := by kernel_rfl
theorem st_112 : structTy Try.prog 112 5 = true := by kernel_rfl
theorem fld_112_0 : fieldOff Try.prog 112 0 = some 0 := by kernel_rfl
theorem fld_112_1 : fieldOff Try.prog 112 1 = some 1 := by kernel_rfl
theorem fld_112_2 : fieldOff Try.prog 112 2 = some 2 := by kernel_rfl
theorem fld_112_3 : fieldOff Try.prog 112 3 = some 3 := by kernel_rfl
theorem fld_112_4 : fieldOff Try.prog 112 4 = some 4 := by kernel_rfl
theorem pl_122 : plainTy Try.prog 122 = true := by kernel_rfl
theorem one_122 : oneTy Try.prog 122 = true := by kernel_rfl
theorem info_122 : (Try.prog.info? 141).map (fun i => (i.zero, i.size, i.bytes)) = some (some (.agg #[(.int .i64 0), (.int .u8 0), (.slice none 0 0), (.slice none 0 0), (.int .u32 0), (.bool false)]), 6, 80) := by kernel_rfl
theorem ety_122 : ElemTy Try.prog 122 141 6 80 (.agg #[(.int .i64 0), (.int .u8 0), (.slice none 0 0), (.slice none 0 0), (.int .u32 0), (.bool false)]) := by
  obtain ⟨i, h1, h2, h3, h4⟩ := info_parts info_122
  exact ⟨Try.underlying122, ⟨i, h1, h2, h3, h4⟩, rfl, by decide⟩
theorem fld_124_0 : fieldOff Try.prog 124 0 = some 0 := by kernel_rfl
theorem fld_124_1 : fieldOff Try.prog 124 1 = some 1 := by kernel_rfl
theorem info_130 : (Try.prog.info? 40).map (fun i => (i.zero, i.size, i.bytes)) = some (some (.slice none 0 0), 1, 24) := by kernel_rfl
theorem ety_130 : ElemTy Try.prog 130 40 1 24 (.slice none 0 0) := by
  obtain ⟨i, h1, h2, h3, h4⟩ := info_parts info_130
  exact ⟨Try.underlying130, ⟨i, h1, h2, h3, h4⟩, rfl, by decide⟩
theorem st_141 : structTy Try.prog 141 6 = true := by kernel_rfl
theorem fld_141_0 : fieldOff Try.prog 141 0 = some 0 := by kernel_rfl
theorem fld_141_1 : fieldOff Try.prog 141 1 = some 5 := by kernel_rfl
theorem zero_155 : zeroOf Try.prog 155 = some (.agg #[(.int .i64 0), (.int .i64 0), (.int .i64 0), (.int .i64 0), (.int .i64 0), (.int .i64 0), (.int .i64 0), (.int .i64 0), (.int .i64 0)]) := by kernel_rfl
theorem arr_155 : arrTy Try.prog 155 = some (9, 1) := by kernel_rfl
theorem info_184 : (Try.prog.info? 188).map (fun i => (i.zero, i.size, i.bytes)) = some (some (.agg #[(.string (bs [])), (.bool false)]), 2, 24) := by kernel_rfl
theorem ety_184 : ElemTy Try.prog 184 188 2 24 (.agg #[(.string (bs [])), (.bool false)]) := by
  obtain ⟨i, h1, h2, h3, h4⟩ := info_parts info_184
  exact ⟨Try.underlying184, ⟨i, h1, h2, h3, h4⟩, rfl, by decide⟩
theorem fld_188_0 : fieldOff Try.prog 188 0 = some 0 := by kernel_rfl
theorem fld_188_1 : fieldOff Try.prog 188 1 = some 1 := by kernel_rfl
theorem bl_42_  : Built Try.prog 42 [] (.agg #[(.int .u8 0), (.slice none 0 0), (.slice none 0 0)]) := ⟨fun w => by kernel_rfl⟩
theorem bl_42_0 (x0 : Int) : Built Try.prog 42 [(0, .int .u8 x0)] (.agg #[.int .u8 x0, (.slice none 0 0), (.slice none 0 0)]) := ⟨fun w => by kernel_rfl⟩
theorem bl_42_0_1_2 (x0 : Int) (x1 : Option Addr) (m1 c1 : Nat) (x2 : Option Addr) (m2 c2 : Nat) : Built Try.prog 42 [(0, .int .u8 x0), (1, .slice x1 m1 c1), (2, .slice x2 m2 c2)] (.agg #[.int .u8 x0, .slice x1 m1 c1, .slice x2 m2 c2]) := ⟨fun w => by kernel_rfl⟩
theorem bl_42_1 (x0 : Option Addr) (m0 c0 : Nat) : Built Try.prog 42 [(1, .slice x0 m0 c0)] (.agg #[(.int .u8 0), .slice x0 m0 c0, (.slice none 0 0)]) := ⟨fun w => by kernel_rfl⟩
theorem bl_46_0 (x0 : Int) : Built Try.prog 46 [(0, .int .i64 x0)] (.agg #[.int .i64 x0, (.int .u8 0), (.slice none 0 0), (.slice none 0 0), (.int .u32 0)]) := ⟨fun w => by kernel_rfl⟩
theorem bl_46_0_1 (x0 : Int) (x1 x2 x3 : Value) : Built Try.prog 46 [(0, .int .i64 x0), (1, .agg #[x1, x2, x3])] (.agg #[.int .i64 x0, x1, x2, x3, (.int .u32 0)]) := ⟨fun w => by kernel_rfl⟩
theorem bl_46_0_1_2 (x0 : Int) (x1 x2 x3 : Value) (x4 : Int) : Built Try.prog 46 [(0, .int .i64 x0), (1, .agg #[x1, x2, x3]), (2, .int .u32 x4)] (.agg #[.int .i64 x0, x1, x2, x3, .int .u32 x4]) := ⟨fun w => by kernel_rfl⟩
theorem bl_60_  : Built Try.prog 60 [] (.agg #[(.string (bs [])), (.int .u16 0), (.int .u16 0), (.int .u32 0), (.slice none 0 0)]) := ⟨fun w => by kernel_rfl⟩
theorem bl_60_0 (x0 : ByteArray) : Built Try.prog 60 [(0, .string x0)] (.agg #[.string x0, (.int .u16 0), (.int .u16 0), (.int .u32 0), (.slice none 0 0)]) := ⟨fun w => by kernel_rfl⟩
theorem bl_60_0_1_2_3_4 (x0 : ByteArray) (x1 : Int) (x2 : Int) (x3 : Int) (x4 : Option Addr) (m4 c4 : Nat) : Built Try.prog 60 [(0, .string x0), (1, .int .u16 x1), (2, .int .u16 x2), (3, .int .u32 x3), (4, .slice x4 m4 c4)] (.agg #[.string x0, .int .u16 x1, .int .u16 x2, .int .u32 x3, .slice x4 m4 c4]) := ⟨fun w => by kernel_rfl⟩
theorem bl_60_0_1_2_4 (x0 : ByteArray) (x1 : Int) (x2 : Int) (x3 : Option Addr) (m3 c3 : Nat) : Built Try.prog 60 [(0, .string x0), (1, .int .u16 x1), (2, .int .u16 x2), (4, .slice x3 m3 c3)] (.agg #[.string x0, .int .u16 x1, .int .u16 x2, (.int .u32 0), .slice x3 m3 c3]) := ⟨fun w => by kernel_rfl⟩
theorem bl_63_0 (x0 : Int) : Built Try.prog 63 [(0, .int .i64 x0)] (.agg #[.int .i64 x0, (.int .u8 0), (.slice none 0 0), (.slice none 0 0), (.int .u32 0)]) := ⟨fun w => by kernel_rfl⟩
theorem bl_97_  : Built Try.prog 97 [] (.agg #[(.int .u8 0), (.int .i64 0)]) := ⟨fun w => by kernel_rfl⟩
theorem bl_97_0 (x0 : Int) : Built Try.prog 97 [(0, .int .u8 x0)] (.agg #[.int .u8 x0, (.int .i64 0)]) := ⟨fun w => by kernel_rfl⟩
theorem bl_97_0_1 (x0 : Int) (x1 : Int) : Built Try.prog 97 [(0, .int .u8 x0), (1, .int .i64 x1)] (.agg #[.int .u8 x0, .int .i64 x1]) := ⟨fun w => by kernel_rfl⟩
theorem bl_100_0 (x0 : Int) : Built Try.prog 100 [(0, .int .i64 x0)] (.agg #[.int .i64 x0, (.int .u8 0), (.int .i64 0), (.int .u8 0), (.int .i64 0), (.int .u8 0), (.int .i64 0), (.int .u8 0), (.int .i64 0), (.int .u8 0), (.int .i64 0), (.int .u8 0), (.int .i64 0), (.int .u8 0), (.int .i64 0), (.int .u8 0), (.int .i64 0), (.int .u8 0), (.int .i64 0), (.slice none 0 0)]) := ⟨fun w => by kernel_rfl⟩
theorem bl_124_0 (x0 : Int) : Built Try.prog 124 [(0, .int .i64 x0)] (.agg #[.int .i64 x0, (.slice none 0 0)]) := ⟨fun w => by kernel_rfl⟩
theorem bl_124_0_1 (x0 : Int) (x1 : Option Addr) (m1 c1 : Nat) : Built Try.prog 124 [(0, .int .i64 x0), (1, .slice x1 m1 c1)] (.agg #[.int .i64 x0, .slice x1 m1 c1]) := ⟨fun w => by kernel_rfl⟩
theorem bl_141_0 (x0 x1 x2 x3 x4 : Value) : Built Try.prog 141 [(0, .agg #[x0, x1, x2, x3, x4])] (.agg #[x0, x1, x2, x3, x4, (.bool false)]) := ⟨fun w => by kernel_rfl⟩
theorem bl_141_0_1 (x0 x1 x2 x3 x4 : Value) (x5 : Bool) : Built Try.prog 141 [(0, .agg #[x0, x1, x2, x3, x4]), (1, .bool x5)] (.agg #[x0, x1, x2, x3, x4, .bool x5]) := ⟨fun w => by kernel_rfl⟩
theorem bl_188_0 (x0 : ByteArray) : Built Try.prog 188 [(0, .string x0)] (.agg #[.string x0, (.bool false)]) := ⟨fun w => by kernel_rfl⟩
theorem bl_188_0_1 (x0 : ByteArray) (x1 : Bool) : Built Try.prog 188 [(0, .string x0), (1, .bool x1)] (.agg #[.string x0, .bool x1]) := ⟨fun w => by kernel_rfl⟩
theorem hb_23 : hasBody Try.prog 23 = true := by kernel_rfl
theorem hb_25 : hasBody Try.prog 25 = true := by kernel_rfl
theorem hb_27 : hasBody Try.prog 27 = true := by kernel_rfl
theorem hb_31 : hasBody Try.prog 31 = true := by kernel_rfl
theorem hb_32 : hasBody Try.prog 32 = true := by kernel_rfl
theorem hb_33 : hasBody Try.prog 33 = true := by kernel_rfl
theorem hb_35 : hasBody Try.prog 35 = true := by kernel_rfl
theorem hb_36 : hasBody Try.prog 36 = true := by kernel_rfl
theorem hb_38 : hasBody Try.prog 38 = true := by kernel_rfl
theorem hb_39 : hasBody Try.prog 39 = true := by kernel_rfl
theorem hb_40 : hasBody Try.prog 40 = true := by kernel_rfl
theorem hb_41 : hasBody Try.prog 41 = true := by kernel_rfl
theorem hb_42 : hasBody Try.prog 42 = true := by kernel_rfl
theorem hb_43 : hasBody Try.prog 43 = true := by kernel_rfl
theorem hb_44 : hasBody Try.prog 44 = true := by kernel_rfl
theorem hb_45 : hasBody Try.prog 45 = true := by kernel_rfl
theorem hb_46 : hasBody Try.prog 46 = true := by kernel_rfl
theorem hb_47 : hasBody Try.prog 47 = true := by kernel_rfl
theorem hb_48 : hasBody Try.prog 48 = true := by kernel_rfl
theorem hb_49 : hasBody Try.prog 49 = true := by kernel_rfl
theorem hb_50 : hasBody Try.prog 50 = true := by kernel_rfl
theorem hb_51 : hasBody Try.prog 51 = true := by kernel_rfl
theorem hb_52 : hasBody Try.prog 52 = true := by kernel_rfl
theorem hb_56 : hasBody Try.prog 56 = true := by kernel_rfl
theorem hb_57 : hasBody Try.prog 57 = true := by kernel_rfl
theorem hb_58 : hasBody Try.prog 58 = true := by kernel_rfl
theorem hb_61 : hasBody Try.prog 61 = true := by kernel_rfl
theorem hb_62 : hasBody Try.prog 62 = true := by kernel_rfl
theorem hb_63 : hasBody Try.prog 63 = true := by kernel_rfl
theorem hb_64 : hasBody Try.prog 64 = true := by kernel_rfl
theorem hb_65 : hasBody Try.prog 65 = true := by kernel_rfl
theorem hb_67 : hasBody Try.prog 67 = true := by kernel_rfl
theorem hb_68 : hasBody Try.prog 68 = true := by kernel_rfl
theorem hb_69 : hasBody Try.prog 69 = true := by kernel_rfl
theorem hb_70 : hasBody Try.prog 70 = true := by kernel_rfl
theorem hb_71 : hasBody Try.prog 71 = true := by kernel_rfl
theorem hb_72 : hasBody Try.prog 72 = true := by kernel_rfl
theorem hb_73 : hasBody Try.prog 73 = true := by kernel_rfl
theorem hb_74 : hasBody Try.prog 74 = true := by kernel_rfl
theorem hb_75 : hasBody Try.prog 75 = true := by kernel_rfl
theorem hb_76 : hasBody Try.prog 76 = true := by kernel_rfl
theorem hb_77 : hasBody Try.prog 77 = true := by kernel_rfl
theorem hb_78 : hasBody Try.prog 78 = true := by kernel_rfl
theorem hb_82 : hasBody Try.prog 82 = true := by kernel_rfl
theorem hb_83 : hasBody Try.prog 83 = true := by kernel_rfl
theorem hb_84 : hasBody Try.prog 84 = true := by kernel_rfl
theorem hb_85 : hasBody Try.prog 85 = true := by kernel_rfl
theorem hb_86 : hasBody Try.prog 86 = true := by kernel_rfl
theorem hb_87 : hasBody Try.prog 87 = true := by kernel_rfl
theorem hb_89 : hasBody Try.prog 89 = true := by kernel_rfl
theorem hb_90 : hasBody Try.prog 90 = true := by kernel_rfl
theorem hb_93 : hasBody Try.prog 93 = true := by kernel_rfl
theorem hb_94 : hasBody Try.prog 94 = true := by kernel_rfl
theorem hb_96 : hasBody Try.prog 96 = true := by kernel_rfl
theorem hb_97 : hasBody Try.prog 97 = true := by kernel_rfl
theorem hb_98 : hasBody Try.prog 98 = true := by kernel_rfl
theorem hb_99 : hasBody Try.prog 99 = true := by kernel_rfl
theorem hb_100 : hasBody Try.prog 100 = true := by kernel_rfl
theorem hb_101 : hasBody Try.prog 101 = true := by kernel_rfl
theorem hb_102 : hasBody Try.prog 102 = true := by kernel_rfl
theorem hb_103 : hasBody Try.prog 103 = true := by kernel_rfl
theorem hb_124 : hasBody Try.prog 124 = true := by kernel_rfl
theorem hb_125 : hasBody Try.prog 125 = true := by kernel_rfl
theorem hb_126 : hasBody Try.prog 126 = true := by kernel_rfl
theorem hb_127 : hasBody Try.prog 127 = true := by kernel_rfl
theorem hb_138 : hasBody Try.prog 138 = true := by kernel_rfl
theorem hb_139 : hasBody Try.prog 139 = true := by kernel_rfl
theorem hb_143 : hasBody Try.prog 143 = true := by kernel_rfl
theorem hb_144 : hasBody Try.prog 144 = true := by kernel_rfl
theorem hb_145 : hasBody Try.prog 145 = true := by kernel_rfl
end Go.Proofs.Ytdflhdfapnhjjaa
namespace Go.Proofs.Ytdflhdfapnhjjaa
open Go.RowKit

/-- What a slice of m elements holds, cell by cell. -/
def RowOf (w : World) (v : Value) (m size : Nat) (news : List Value) : Prop :=
  news.length = m * size ∧ (∀ u ∈ news, u.oneCell' = true) ∧ ((∃ c, v = .slice none 0 c ∧ m = 0) ∨ ∃ ad c, v = .slice (some ad) m c ∧ ∀ j u, news[j]? = some u → w.cell? (ad.add j) = some u)

variable {P : Program}

theorem RowOf.below {w w' : World} {v : Value} {m size : Nat} {news : List Value} (h : RowOf w v m size news) (hb : ∀ a, w'.cell? a = w.cell? a ∨ w.cell? a = none) : RowOf w' v m size news := by
  obtain ⟨h1, h2, h3 | ⟨ad, c, h3, h4⟩⟩ := h
  · exact ⟨h1, h2, Or.inl h3⟩
  · refine ⟨h1, h2, Or.inr ⟨ad, c, h3, fun j u hj => ?_⟩⟩
    have := h4 j u hj
    rcases hb (ad.add j) with h | h
    · rw [h]; exact this
    · rw [h] at this; cases this

end Go.Proofs.Ytdflhdfapnhjjaa
namespace Go.Proofs.Ytdflhdfapnhjjaa
open Go.RowKit

theorem byteSize (s : Nm.Bytes) : (⟨s.toArray⟩ : ByteArray).size = s.length := by show s.toArray.size = s.length; simp
theorem cat2 (a b : Nm.Bytes) : (({ data := a.toArray } : ByteArray) ++ { data := b.toArray }) = ⟨(a ++ b).toArray⟩ := by
  apply ByteArray.ext
  apply Array.toList_inj.1
  simp [ByteArray.data_append]

/-- 'string([]byte{c})'. -/
theorem run_onebyte (W : World) (c : UInt8) (n : Int) (hn : n = (c.toNat : Int)) : (convert 116 9 (.slice (some ⟨W.heap.size, 0, none⟩) 1 1)).run Try.prog (W.alloc (.cells #[.int .u8 n] 5)) = .ok (.string ⟨[c].toArray⟩) (W.alloc (.cells #[.int .u8 n] 5)) := by
  subst hn
  exact run_back _ 116 9 5 W.heap.size 1 1 [c] rfl Try.underlying116 Try.underlying5 Try.underlying9 (fun j hj => by
    rw [World.cell?_alloc_mark]
    match j, hj with
    | 0, _ => rfl)

theorem lbl_none_of_head {c : UInt8} {t : Nm.Bytes} (hz : ¬ c = 0) (h : 63 < c.toNat ∨ t.length < c.toNat) : Nm.lbl (c :: t) = none := by
  rw [Nm.lbl_cons, if_neg hz]
  by_cases h63 : 63 < c.toNat
  · rw [if_pos h63]
  · rw [if_neg h63, if_pos (by omega)]

/-- What Labels of the reference leaves. -/
def LabelsPost (n : Nm.Bytes) (w : World) (e : Ending) (w' : World) : Prop :=
  ∃ v, e = .returned (.tuple #[v, .bool (Nm.may n)]) ∧ w'.ownsRow w.heap.size 9 1 v (Nm.labels n).length ((Nm.labels n).map strV) ∧ Below w.heap.size w w'

set_option maxRecDepth 100000 in
set_option maxHeartbeats 1000000 in
theorem refLabels_any (s : ByteArray) (w : World) (hs : s.size ≤ 1000000) :
    Calls Try.prog 86 #[.string s] w (LabelsPost s.data.toList w) := by
  obtain ⟨i0, hi, hz0, hz1, hz2⟩ := info_parts info_string
  go_enter Try.func86, Try.ntmps86
  go_wp2_with fail
  go_loopw [4, 5, 6] (fun v i _ wr => ∃ (k : Nat) (a : List Nm.Bytes), k ≤ s.size ∧ a.length ≤ k ∧ i = .int .i64 k ∧ Nm.lbl s.data.toList = (Nm.lbl (s.data.toList.drop k)).map (a ++ ·) ∧ wr.ownsRow w.heap.size 9 1 v a.length (a.map strV) ∧ Below w.heap.size w wr) (fun _ i _ _ => s.size - (intOf i).toNat)
  case atStart => exact ⟨0, [], by omega, by simp, rfl, by simp, World.ownsRow_nil _ _ _ _, Below.refl _ _⟩
  case round =>
    obtain ⟨k, a, hk, hal, rfl, hl, hown, hbel⟩ := hrel
    have HL := Lib.hid hl
    have HOWN := Lib.hid hown
    have HBEL := Lib.hid hbel
    have hwsz := hbel.size
    clear hl hown hbel
    by_cases hlt : k < s.size
    · obtain ⟨c, hc⟩ : ∃ c, s[k] = c := ⟨_, rfl⟩
      have hd2 : Hid (s.data.toList.drop k = c :: s.data.toList.drop (k + 1)) := by have := drop_at s k hlt; rwa [hc] at this
      have hb := c.toNat_lt
      have HTL := Lib.hid (show (s.data.toList.drop (k + 1)).length = s.size - (k + 1) by simp)
      by_cases hz : c = 0
      · subst hz
        -- the end
        have HLB := Lib.hid (show Nm.lbl s.data.toList = (if s.size = k + 1 then some a else none) by
          rw [HL.out, hd2.out, Nm.lbl_cons, if_pos rfl]
          by_cases hq : s.size = k + 1
          · rw [if_pos (List.eq_nil_of_length_eq_zero (by rw [HTL.out]; omega)), if_pos hq]; simp
          · rw [if_neg (fun hn => by have := HTL.out; rw [hn] at this; simp at this; omega), if_neg hq]; rfl)
        by_cases hq : s.size = k + 1
        · by_cases h255 : 255 < s.size
          · have HN := Lib.hid (show Nm.nm s.data.toList = none by unfold Nm.nm; rw [if_neg (by simp; omega)])
            have HQ := Lib.hid hq
            have hq1 : ((k : Int) != (s.size : Int) - 1) = false := by simp; omega
            clear hq
            go_wp2_with fail
            go_ret2
            refine ⟨_, by rw [Nm.may_none HN.out]; rfl, ?_, HBEL.out⟩
            unfold Nm.labels; rw [HN.out]
            exact World.ownsRow_nil _ _ _ _
          · have HN := Lib.hid (show Nm.nm s.data.toList = some a by unfold Nm.nm; rw [if_pos (by simp; omega), HLB.out, if_pos hq])
            have HQ := Lib.hid hq
            have hq1 : ((k : Int) != (s.size : Int) - 1) = false := by simp; omega
            clear hq
            go_wp2_with fail
            go_ret2
            refine ⟨_, by rw [Nm.may_some HN.out]; rfl, ?_, HBEL.out⟩
            unfold Nm.labels; rw [HN.out]
            exact HOWN.out
        · have HN := Lib.hid (show Nm.nm s.data.toList = none by unfold Nm.nm; split; rw [HLB.out, if_neg hq]; rfl)
          have hq1 : ((k : Int) != (s.size : Int) - 1) = true := by rw [bne_iff_ne]; omega
          clear hq
          go_wp2_with fail
          go_ret2
          refine ⟨_, by rw [Nm.may_none HN.out]; rfl, ?_, HBEL.out⟩
          unfold Nm.labels; rw [HN.out]
          exact World.ownsRow_nil _ _ _ _
      · have hz1' : 1 ≤ c.toNat := by
          rcases Nat.eq_zero_or_pos c.toNat with h | h
          · exact absurd (UInt8.toNat_inj.1 (by simpa using h)) hz
          · exact h
        have hz2' : ((c.toNat : Int) == 0) = false := beq_eq_false_iff_ne.2 (by omega)
        have hz3' : ((c.toNat : Int) != 0) = true := by rw [bne_iff_ne]; omega
        have HZ := Lib.hid hz
        clear hz
        by_cases hbad : 63 < c.toNat ∨ s.size < k + 1 + c.toNat
        · have HN := Lib.hid (show Nm.nm s.data.toList = none by
            unfold Nm.nm; split
            · rw [HL.out, hd2.out, lbl_none_of_head HZ.out (by rw [HTL.out]; omega)]; rfl
            · rfl)
          rcases hbad with h1 | h1
          · go_wp2_with fail
            go_ret2
            refine ⟨_, by rw [Nm.may_none HN.out]; rfl, ?_, HBEL.out⟩
            unfold Nm.labels; rw [HN.out]
            exact World.ownsRow_nil _ _ _ _
          · by_cases h63 : 63 < c.toNat
            · go_wp2_with fail
              go_ret2
              refine ⟨_, by rw [Nm.may_none HN.out]; rfl, ?_, HBEL.out⟩
              unfold Nm.labels; rw [HN.out]
              exact World.ownsRow_nil _ _ _ _
            · go_wp2_with fail
              go_ret2
              refine ⟨_, by rw [Nm.may_none HN.out]; rfl, ?_, HBEL.out⟩
              unfold Nm.labels; rw [HN.out]
              exact World.ownsRow_nil _ _ _ _
        · have h63 : ¬ 63 < c.toNat := fun h => hbad (Or.inl h)
          have hle : k + 1 + c.toNat ≤ s.size := by omega
          clear hbad
          obtain ⟨l, hld⟩ : ∃ l, l = (s.data.toList.drop (k + 1)).take c.toNat := ⟨_, rfl⟩
          have HEX := Lib.hid (show Value.string (s.extract (k + 1) (k + 1 + c.toNat)) = strV l by
            unfold strV
            congr 1
            apply ByteArray.ext
            apply Array.toList_inj.1
            rw [Lib.extract_data, hld]
            simp)
          have HN := Lib.hid (show Nm.lbl s.data.toList = (Nm.lbl (s.data.toList.drop (k + 1 + c.toNat))).map ((a ++ [l]) ++ ·) by
            rw [HL.out, hd2.out, Nm.lbl_cons, if_neg HZ.out, if_neg h63, if_neg (by rw [HTL.out]; omega), Option.map_map, List.drop_drop, hld]
            congr 1
            funext x
            simp)
          clear hld
          go_wp2_with (at_builtin; refine wpList_append_own _ rfl _ _ 58 rfl w.heap.size 9 i0 (.string ByteArray.empty) 1 16 Try.underlying58 hi hz0 hz1 hz2 rfl (by decide) _ a.length _ rfl (HOWN.out.alloc _) ⟨wr.heap.size, 0, none⟩ 1 1 [.string (s.extract (k + 1) (k + 1 + c.toNat))] rfl rfl (cell_one_new _ _ _) ?c2 ?c3 ?c4 ?c5 ?_)
          case c2 => simp [Value.oneCell']
          case c3 => unfold maxLen; omega
          case c4 => omega
          case c5 => simp; omega
          intro v' w1 hown' hgrow _
          have HB1 := Lib.hid ((HBEL.out.alloc hwsz _).grown hgrow (by simp; omega) (fun q hq => (HOWN.out.lt q hq).1))
          have hfin0 : w1.ownsRow w.heap.size 9 1 v' (a ++ [l]).length ((a ++ [l]).map strV) := by
            have := hown'
            rw [HEX.out] at this
            simpa using this
          have HFIN := Lib.hid hfin0
          clear hown' hgrow hfin0
          go_wp2_with fail
          exact ⟨⟨k + 1 + c.toNat, a ++ [l], by omega, by simp; omega, by go_num, HN.out, HFIN.out, HB1.out⟩, by simp [intOf]; omega⟩
    · have HN := Lib.hid (show Nm.nm s.data.toList = none by
        unfold Nm.nm; split
        · rw [HL.out, List.drop_of_length_le (by simp; omega)]; rfl
        · rfl)
      have hq1 : ((k : Int) != (s.size : Int) - 1) = true := by rw [bne_iff_ne]; omega
      go_wp2_with fail
      go_ret2
      refine ⟨_, by rw [Nm.may_none HN.out]; rfl, ?_, HBEL.out⟩
      unfold Nm.labels; rw [HN.out]
      exact World.ownsRow_nil _ _ _ _

theorem refMay_any (s : ByteArray) (w : World) (hs : s.size ≤ 1000000) :
    Calls Try.prog 58 #[.string s] w fun e w' => e = .returned (.bool (Nm.may s.data.toList)) ∧ Below w.heap.size w w' := by
  go_enter Try.func58, Try.ntmps58
  go_wp2_with fail
  refine (refLabels_any s _ hs).mono ?_
  rintro e w1 ⟨v, rfl, ho, hb⟩
  go_wp2_with fail
  go_ret
  exact ⟨rfl, hb⟩

set_option maxHeartbeats 1000000 in
theorem refLow_any (s : ByteArray) (w : World) (hs : s.size ≤ 1000000) :
    Calls Try.prog 87 #[.string s] w fun e w' => e = .returned (.string ⟨(Nm.low s.data.toList).toArray⟩) ∧ Below w.heap.size w w' := by
  go_enter Try.func87, Try.ntmps87
  go_wp2_with fail
  go_loopw [3, 4, 5] (fun o i _ wr => ∃ k : Nat, k ≤ s.size ∧ i = .int .i64 k ∧ o = .string ⟨(Nm.low (s.data.toList.take k)).toArray⟩ ∧ Below w.heap.size w wr) (fun _ i _ _ => s.size - (intOf i).toNat)
  case atStart => exact ⟨0, by omega, rfl, rfl, Below.refl _ _⟩
  case round =>
    obtain ⟨k, hk, rfl, rfl, hbel⟩ := hrel
    by_cases hlt : k < s.size
    · obtain ⟨c, hc⟩ : ∃ c, s[k] = c := ⟨_, rfl⟩
      have hb := c.toNat_lt
      have HT := Lib.hid (show Nm.low (s.data.toList.take (k + 1)) = Nm.low (s.data.toList.take k) ++ [Nm.lowB c] by
        rw [List.take_succ_eq_append_getElem (by simpa using hlt), Nm.low_append]
        congr 1
        show [Nm.lowB _] = _
        rw [← hc]
        rfl)
      obtain ⟨acc, hacc⟩ : ∃ acc, acc = Nm.low (s.data.toList.take k) := ⟨_, rfl⟩
      have hal : acc.length ≤ 1000000 := by rw [hacc, Nm.low_length]; simp; omega
      rw [← hacc]
      rw [← hacc] at HT
      clear hacc
      have HBEL := Lib.hid hbel
      have hwsz := hbel.size
      clear hbel
      by_cases h65 : 65 ≤ c.toNat ∧ c.toNat ≤ 90
      · obtain ⟨ha, hz⟩ := h65
        have hone := fun W : World => run_onebyte W (Nm.lowB c) ((c.toNat : Int) + 32) (lowB_yes c ha hz).symm
        go_wp2_with fail
        refine ⟨⟨k + 1, by omega, by go_num, ?_, HBEL.out.alloc hwsz _⟩, by simp [intOf]; omega⟩
        rw [HT.out]
        exact congrArg Value.string (cat2 acc [Nm.lowB c])
      · have hone := fun W : World => run_onebyte W (Nm.lowB c) (c.toNat : Int) (by rw [lowB_no c h65])
        go_wp2_with fail
        all_goals
          refine ⟨⟨k + 1, by omega, by go_num, ?_, HBEL.out.alloc hwsz _⟩, by simp [intOf]; omega⟩
          rw [HT.out]
          exact congrArg Value.string (cat2 acc [Nm.lowB c])
    · obtain rfl : k = s.size := by omega
      have he : s.data.toList.take s.size = s.data.toList := List.take_of_length_le (by simp)
      rw [he]
      go_wp2_with fail
      go_ret
      exact ⟨rfl, hbel⟩

end Go.Proofs.Ytdflhdfapnhjjaa
namespace Go.Proofs.Ytdflhdfapnhjjaa
open Go.RowKit

def encP (ls : List Nm.Bytes) : Nm.Bytes := ls.flatMap fun l => UInt8.ofNat l.length :: l
theorem encP_enc : ∀ ls, Nm.enc ls = encP ls ++ [0]
  | [] => rfl
  | l :: ls => by simp [Nm.enc, encP_enc ls, encP]
theorem encP_snoc (ls : List Nm.Bytes) (l : Nm.Bytes) : encP (ls ++ [l]) = encP ls ++ (UInt8.ofNat l.length :: l) := by simp [encP]
theorem encP_length (ls : List Nm.Bytes) (h : ∀ l ∈ ls, l.length ≤ 63) : (encP ls).length ≤ 64 * ls.length := by
  induction ls with
  | nil => simp [encP]
  | cons l ls ih =>
    have h1 := h l (by simp)
    have h2 := ih (fun x hx => h x (by simp [hx]))
    simp [encP] at h2 ⊢
    omega
theorem cat3' (a : Nm.Bytes) (c : UInt8) (b : Nm.Bytes) : (({ data := a.toArray } : ByteArray) ++ { data := #[c] } ++ { data := b.toArray }) = ⟨(a ++ (c :: b)).toArray⟩ := by
  apply ByteArray.ext
  apply Array.toList_inj.1
  simp [ByteArray.data_append]

set_option maxRecDepth 100000 in
set_option maxHeartbeats 1000000 in
theorem refBytes_any (v : Value) (ls : List Nm.Bytes) (w : World) (hr : SRow w v ls) (hok : ∀ l ∈ ls, l.length ≤ 63) (hlen : ls.length ≤ 1000) :
    Calls Try.prog 88 #[v] w fun e w' => e = .returned (.string ⟨(Nm.enc ls).toArray⟩) ∧ Below w.heap.size w w' := by
  obtain ⟨a, cap, rfl, hrow⟩ := hr
  have HROW := Lib.hid hrow
  have HOK := Lib.hid hok
  clear hrow hok
  go_enter Try.func88, Try.ntmps88
  go_wp2_with fail
  go_loopw [3, 4] (fun o i wr => ∃ k : Nat, k ≤ ls.length ∧ i = .int .i64 k ∧ o = .string ⟨(encP (ls.take k)).toArray⟩ ∧ Below w.heap.size w wr) (fun _ i _ => ls.length - (intOf i).toNat)
  case atStart => exact ⟨0, by omega, rfl, rfl, Below.refl _ _⟩
  case round =>
    obtain ⟨k, hk, rfl, rfl, hbel⟩ := hrel
    by_cases hlt : k < ls.length
    · obtain hz0 | ⟨b, off, ha, hlb, hcc⟩ := HROW.out
      · subst hz0; simp at hlt
      subst ha
      obtain ⟨l, hl⟩ : ∃ l, ls[k]? = some l := ⟨_, List.getElem?_eq_getElem hlt⟩
      have hll := HOK.out l (List.mem_of_getElem? hl)
      have d0 : wr.cell? ⟨b, off + k, none⟩ = some (.string ⟨l.toArray⟩) := (hbel.cell hlb).trans (hcc k l hl)
      have HT := Lib.hid (show encP (ls.take (k + 1)) = encP (ls.take k) ++ (UInt8.ofNat l.length :: l) by rw [List.take_add_one, hl]; exact encP_snoc _ _)
      have hal := encP_length (ls.take k) (fun x hx => HOK.out x (List.mem_of_mem_take hx))
      have htl : (ls.take k).length ≤ k := List.length_take_le _ _
      obtain ⟨acc, hacc⟩ : ∃ acc, acc = encP (ls.take k) := ⟨_, rfl⟩
      rw [← hacc] at hal
      have hal2 : acc.length ≤ 100000 := by omega
      rw [← hacc]
      rw [← hacc] at HT
      have hbw : b < wr.heap.size := World.block_lt_of_cell? wr _ d0
      have HBEL := Lib.hid hbel
      have hwsz := hbel.size
      clear hacc hcc hl hbel hal htl
      have e1 : (UInt8.ofNat l.length).toNat = l.length := by simp; omega
      have hone : (convert 116 9 (.slice (some ⟨wr.heap.size, 0, none⟩) 1 1)).run Try.prog (wr.alloc (.cells #[.int .u8 (l.length : Int)] 5)).drew = .ok (.string ⟨[UInt8.ofNat l.length].toArray⟩) (wr.alloc (.cells #[.int .u8 (l.length : Int)] 5)).drew :=
        run_back _ 116 9 5 wr.heap.size 1 1 [UInt8.ofNat l.length] rfl Try.underlying116 Try.underlying5 Try.underlying9 (fun j hj => by
          show (wr.alloc (.cells #[.int .u8 (l.length : Int)] 5)).cell? _ = _
          rw [World.cell?_alloc_mark]
          match j, hj with
          | 0, _ =>
            show some (Value.int .u8 (l.length : Int)) = some (.int .u8 ((UInt8.ofNat l.length).toNat : Int))
            rw [e1])
      have hk0 : (0 : Int) ≤ (k : Int) := by omega
      have hk1 : (k : Int) < (ls.length : Int) := by omega
      have hw8 : IntKind.u8.wrap (l.length : Int) = (l.length : Int) := by simp [IntKind.wrap, IntKind.signed, IntKind.bits]; omega
      clear e1
      go_upto_region 5 with fail
      go_region
      all_goals (clear hone hw8; go_wp2_with fail)
      all_goals
        refine ⟨⟨k + 1, by omega, by go_num, ?_, HBEL.out.trans (((Below.refl _ _).alloc hwsz _).drew)⟩, by simp [intOf]; omega⟩
        rw [HT.out]
        exact congrArg Value.string (cat3' acc (UInt8.ofNat l.length) l)
    · obtain rfl : k = ls.length := by omega
      rw [List.take_length]
      have hal := encP_length ls HOK.out
      have HE := Lib.hid (show (({ data := (encP ls).toArray } : ByteArray) ++ { data := #[0] }) = ⟨(Nm.enc ls).toArray⟩ by rw [encP_enc]; exact cat2 (encP ls) [0])
      obtain ⟨acc, hacc⟩ : ∃ acc, acc = encP ls := ⟨_, rfl⟩
      rw [← hacc]
      rw [← hacc] at hal HE
      clear hacc
      have hal2 : acc.length ≤ 100000 := by omega
      clear hal
      go_wp2_with fail
      go_ret
      exact ⟨ret_str HE.out, hbel⟩

end Go.Proofs.Ytdflhdfapnhjjaa
namespace Go.Proofs.Ytdflhdfapnhjjaa
open Go.RowKit

theorem own_kept {w w' : World} {base : Nat} {e : TypeId} {size : Nat} {v : Value} {n : Nat} {xs : List Value} (h : w.ownsRow base e size v n xs) (hb : Below w.heap.size w w') : w'.ownsRow base e size v n xs := by
  obtain ⟨h1, h2 | ⟨g, cap, cur, hv, h3, hg, h4⟩⟩ := h
  · exact ⟨h1, Or.inl h2⟩
  · exact ⟨h1, Or.inr ⟨g, cap, cur, hv, h3, (hb.block g (Array.getElem?_eq_some_iff.1 hg).1).trans hg, h4⟩⟩

theorem labels_some {n : Nm.Bytes} {ls : List Nm.Bytes} (h : Nm.nm n = some ls) : Nm.labels n = ls := by simp [Nm.labels, h]
theorem fold_enc {n : Nm.Bytes} {ls : List Nm.Bytes} (h : Nm.nm n = some ls) : Nm.enc (Nm.lowL ls) = Nm.fold n := by
  unfold Nm.fold
  rw [Nm.may_some h, if_pos rfl]
  obtain ⟨h1, h2, _⟩ := Nm.nm_iff.1 h
  rw [h1, Nm.low_enc _ h2]
theorem labels_count {n : Nm.Bytes} {ls : List Nm.Bytes} (h : Nm.nm n = some ls) : ls.length ≤ 255 := by
  obtain ⟨h1, _, h3⟩ := Nm.nm_iff.1 h
  have := Nm.length_lt_enc ls
  rw [← h1] at this
  omega

set_option maxRecDepth 100000 in
set_option maxHeartbeats 1000000 in
theorem refFold_any (s : ByteArray) (w : World) (hs : s.size ≤ 1000000) :
    Calls Try.prog 61 #[.string s] w fun e w' => e = .returned (.string ⟨(Nm.fold s.data.toList).toArray⟩) ∧ Below w.heap.size w w' := by
  obtain ⟨i0, hi, hz0, hz1, hz2⟩ := info_parts info_string
  go_enter Try.func61, Try.ntmps61
  go_wp2_with fail
  refine (refLabels_any s _ hs).mono ?_
  rintro e w1 ⟨v, rfl, ho, hb⟩
  cases hm : Nm.may s.data.toList
  · go_wp2_with fail
    go_ret
    exact ⟨ret_str (by unfold Nm.fold; rw [hm]; rfl), hb⟩
  · obtain ⟨ls, hnm⟩ := Nm.nm_of_may hm
    rw [labels_some hnm] at ho
    have hcount := labels_count hnm
    have HOK := Lib.hid (Nm.nm_iff.1 hnm).2.1
    have HNM := Lib.hid hnm
    obtain ⟨a, cap, rfl, hrow⟩ := SRow.own ho
    have HROW := Lib.hid hrow
    have HB := Lib.hid hb
    have hw1 := hb.size
    clear hrow hb ho hm hnm
    go_wp2_with fail
    go_loopw [5, 6] (fun o i wr => ∃ k : Nat, k ≤ ls.length ∧ i = .int .i64 k ∧ wr.ownsRow w1.heap.size 9 1 o k ((Nm.lowL (ls.take k)).map strV) ∧ Below w1.heap.size w1 wr) (fun _ i _ => ls.length - (intOf i).toNat)
    case atStart => exact ⟨0, by omega, rfl, World.ownsRow_nil _ _ _ _, Below.refl _ _⟩
    case round =>
      obtain ⟨k, hk, rfl, hown, hbel⟩ := hrel
      have HOWN := Lib.hid hown
      by_cases hlt : k < ls.length
      · obtain hz0' | ⟨b, off, ha, hlb, hcc⟩ := HROW.out
        · subst hz0'; simp at hlt
        subst ha
        obtain ⟨l, hl⟩ : ∃ l, ls[k]? = some l := ⟨_, List.getElem?_eq_getElem hlt⟩
        have hll := HOK.out l (List.mem_of_getElem? hl)
        have d0 : wr.cell? ⟨b, off + k, none⟩ = some (.string ⟨l.toArray⟩) := (hbel.cell hlb).trans (hcc k l hl)
        have HT := Lib.hid (show (Nm.lowL (ls.take (k + 1))).map strV = (Nm.lowL (ls.take k)).map strV ++ [strV (Nm.low l)] by rw [List.take_add_one, hl]; simp [Nm.lowL])
        have hbw : b < wr.heap.size := World.block_lt_of_cell? wr _ d0
        have HBEL := Lib.hid hbel
        have hwsz := hbel.size
        have hk0 : (0 : Int) ≤ (k : Int) := by omega
        have hk1 : (k : Int) < (ls.length : Int) := by omega
        clear hcc hl hbel hown
        go_wp2_with fail
        refine (refLow_any ⟨l.toArray⟩ _ (by rw [byteSize]; omega)).mono ?_
        rintro e w2 ⟨rfl, hb2⟩
        have HB2 := Lib.hid hb2
        have hsz2 := hb2.size
        have HOWN2 := Lib.hid (own_kept HOWN.out hb2)
        clear hb2
        go_wp2_with (at_builtin; refine wpList_append_own _ rfl _ _ 58 rfl w1.heap.size 9 i0 (.string ByteArray.empty) 1 16 Try.underlying58 hi hz0 hz1 hz2 rfl (by decide) _ k _ rfl (HOWN2.out.alloc _) ⟨w2.heap.size, 0, none⟩ 1 1 [.string ⟨(Nm.low l).toArray⟩] rfl rfl (cell_one_new _ _ _) ?c2 ?c3 ?c4 ?c5 ?_)
        case c2 => simp [Value.oneCell']
        case c3 => unfold maxLen; omega
        case c4 => omega
        case c5 => simp; omega
        intro v' w3 hown' hgrow _
        have HB3 := Lib.hid (((HBEL.out.trans (HB2.out.mono hwsz)).alloc (Nat.le_trans hwsz hsz2) _).grown hgrow (by simp; omega) (fun q hq => (HOWN2.out.lt q hq).1))
        have hfin0 : w3.ownsRow w1.heap.size 9 1 v' (k + 1) ((Nm.lowL (ls.take (k + 1))).map strV) := by
          rw [HT.out]
          exact hown'
        have HFIN := Lib.hid hfin0
        clear hown' hgrow hfin0
        go_wp2_with fail
        exact ⟨⟨k + 1, by omega, by go_num, HFIN.out, HB3.out⟩, by simp [intOf]; omega⟩
      · obtain rfl : k = ls.length := by omega
        rw [List.take_length] at HOWN
        have hr : SRow wr _ (Nm.lowL ls) := SRow.own (e := 9) (base := w1.heap.size) (by have h := HOWN.out; rwa [show ls.length = (Nm.lowL ls).length by simp [Nm.lowL]] at h)
        have HR := Lib.hid hr
        have HBEL := Lib.hid hbel
        clear hr hown hbel
        go_wp2_with fail
        refine (refBytes_any _ (Nm.lowL ls) _ HR.out (fun l hl => (Nm.lowL_ok HOK.out l hl).2) (by simp [Nm.lowL]; omega)).mono ?_
        rintro e w2 ⟨rfl, hb2⟩
        go_wp2_with fail
        go_ret
        exact ⟨ret_str (by rw [fold_enc HNM.out]), HB.out.trans ((HBEL.out.trans (hb2.mono HBEL.out.size)).mono hw1)⟩

end Go.Proofs.Ytdflhdfapnhjjaa
namespace Go.Proofs.Ytdflhdfapnhjjaa
open Go.RowKit

set_option maxRecDepth 100000 in
set_option maxHeartbeats 1000000 in
theorem refParent_any (s : ByteArray) (w : World) (hs : s.size ≤ 1000000) :
    Calls Try.prog 140 #[.string s] w fun e w' => e = .returned (.tuple #[.string ⟨(Nm.parentN s.data.toList).toArray⟩, .bool (Nm.parentB s.data.toList)]) ∧ Below w.heap.size w w' := by
  go_enter Try.func140, Try.ntmps140
  go_wp2_with fail
  refine (refLabels_any s _ hs).mono ?_
  rintro e w1 ⟨v, rfl, ho, hb⟩
  cases hm : Nm.may s.data.toList
  · have hn := Nm.nm_of_not hm
    go_wp2_with fail
    go_ret2
    exact ⟨by unfold Nm.parentN Nm.parentB; rw [hn]; rfl, hb⟩
  · obtain ⟨ls, hnm⟩ := Nm.nm_of_may hm
    rw [labels_some hnm] at ho
    have hcount := labels_count hnm
    have HOK := Lib.hid (Nm.nm_iff.1 hnm).2.1
    have HNM := Lib.hid hnm
    have HB := Lib.hid hb
    clear hb hm hnm
    cases ls with
    | nil =>
      obtain ⟨a, cap, rfl, hrow⟩ := SRow.own ho
      clear ho hrow
      go_wp2_with fail
      go_ret2
      exact ⟨by unfold Nm.parentN Nm.parentB; rw [HNM.out]; rfl, HB.out⟩
    | cons l t =>
      obtain ⟨_, ⟨rfl, h0⟩ | ⟨g, cap, cur, rfl, _, hg, hcap, hmax, _, htk⟩⟩ := ho
      · simp at h0
      have hg1 : g < w1.heap.size := (Array.getElem?_eq_some_iff.1 hg).1
      have HC := Lib.hid (show ∀ i n, (l :: t)[i]? = some n → w1.cell? ⟨g, i, none⟩ = some (strV n) from fun i n hi => by
        have hil : i < (l :: t).length := (List.getElem?_eq_some_iff.1 hi).1
        unfold World.cell?
        rw [hg]
        have : (cur.toList.take ((l :: t).length * 1))[i]? = some (strV n) := by rw [htk, List.getElem?_map, hi]; rfl
        rw [List.getElem?_take_of_lt (by omega)] at this
        simpa using this)
      clear htk hg
      have hcap' : t.length + 1 ≤ cap := hcap
      clear hcap
      go_wp2_with fail
      case inl hc1 =>
        obtain rfl : t = [] := List.eq_nil_of_length_eq_zero (by omega)
        refine (refBytes_any _ [] _ ⟨_, _, rfl, Or.inl rfl⟩ (fun l hl => by cases hl) (by simp)).mono ?_
        rintro e w2 ⟨rfl, hb2⟩
        go_wp2_with fail
        go_ret2
        exact ⟨by unfold Nm.parentN Nm.parentB; rw [HNM.out]; rfl, HB.out.trans (hb2.mono HB.out.size)⟩
      case inr hc1 =>
        refine (refBytes_any _ t _ ⟨_, _, rfl, Or.inr ⟨g, 1, rfl, hg1, fun i n hi => ?_⟩⟩ (fun l hl => (HOK.out l (by simp [hl])).2) (by simp at hcount; omega)).mono ?_
        · rw [Nat.add_comm]
          exact HC.out (i + 1) n (by simpa using hi)
        rintro e w2 ⟨rfl, hb2⟩
        go_wp2_with fail
        go_ret2
        exact ⟨by unfold Nm.parentN Nm.parentB; rw [HNM.out]; rfl, HB.out.trans (hb2.mono HB.out.size)⟩

theorem same_fold {a b : Nm.Bytes} (ha : Nm.may a = true) (hb : Nm.may b = true) : Nm.same a b = (Nm.fold a == Nm.fold b) := by
  simp [Nm.same, Nm.fold, ha, hb]

set_option maxRecDepth 100000 in
set_option maxHeartbeats 1000000 in
theorem refSame_any (s t : ByteArray) (w : World) (hs : s.size ≤ 1000000) (ht : t.size ≤ 1000000) :
    Calls Try.prog 124 #[.string s, .string t] w fun e w' => e = .returned (.bool (Nm.same s.data.toList t.data.toList)) ∧ Below w.heap.size w w' := by
  cases hm : Nm.may s.data.toList with
  | false =>
    have HV := Lib.hid (show Nm.same s.data.toList t.data.toList = false by simp [Nm.same, hm])
    have HM := Lib.hid hm
    clear hm
    go_enter Try.func124, Try.ntmps124
    go_wp2_with fail
    refine (refMay_any _ _ hs).mono ?_
    rintro e w1 ⟨rfl, hb⟩
    rw [HM.out]
    go_wp2_with fail
    go_ret
    rw [HV.out]
    exact ⟨rfl, hb⟩
  | true =>
    have HM := Lib.hid hm
    cases hm2 : Nm.may t.data.toList with
    | false =>
      have HV := Lib.hid (show Nm.same s.data.toList t.data.toList = false by simp [Nm.same, hm2])
      have HM2 := Lib.hid hm2
      clear hm hm2
      go_enter Try.func124, Try.ntmps124
      go_wp2_with fail
      refine (refMay_any _ _ hs).mono ?_
      rintro e w1 ⟨rfl, hb⟩
      rw [HM.out]
      go_wp2_with fail
      refine (refMay_any _ _ ht).mono ?_
      rintro e w2 ⟨rfl, hb2⟩
      rw [HM2.out]
      go_wp2_with fail
      go_ret
      rw [HV.out]
      exact ⟨rfl, hb.trans (hb2.mono hb.size)⟩
    | true =>
      have HV := Lib.hid (same_fold hm hm2)
      have HM2 := Lib.hid hm2
      clear hm hm2
      go_enter Try.func124, Try.ntmps124
      go_wp2_with fail
      refine (refMay_any _ _ hs).mono ?_
      rintro e w1 ⟨rfl, hb⟩
      rw [HM.out]
      go_wp2_with fail
      refine (refMay_any _ _ ht).mono ?_
      rintro e w2 ⟨rfl, hb2⟩
      rw [HM2.out]
      have HB2 := Lib.hid (hb.trans (hb2.mono hb.size))
      clear hb hb2
      go_wp2_with fail
      refine (refFold_any _ _ hs).mono ?_
      rintro e w3 ⟨rfl, hb3⟩
      have HB3 := Lib.hid (HB2.out.trans (hb3.mono HB2.out.size))
      clear hb3
      go_wp2_with fail
      refine (refFold_any _ _ ht).mono ?_
      rintro e w4 ⟨rfl, hb4⟩
      have HB4 := Lib.hid (HB3.out.trans (hb4.mono HB3.out.size))
      clear hb4
      go_wp2_with fail
      go_ret
      rw [HV.out]
      refine ⟨?_, HB4.out⟩
      rfl

def strLen : Value → Nat
  | .string s => s.size
  | _ => 0

theorem same_lowL {n z : Nm.Bytes} {a b : List Nm.Bytes} (ha : Nm.nm n = some a) (hb : Nm.nm z = some b) : Nm.same n z = true ↔ Nm.lowL b = Nm.lowL a := by
  obtain ⟨h1, h2, _⟩ := Nm.nm_iff.1 ha
  obtain ⟨k1, k2, _⟩ := Nm.nm_iff.1 hb
  simp only [Nm.same, Nm.may_some ha, Nm.may_some hb, Bool.true_and, beq_iff_eq]
  rw [h1, k1, Nm.low_enc _ h2, Nm.low_enc _ k2]
  exact ⟨fun h => (Nm.enc_inj (Nm.lowL_ok h2) (Nm.lowL_ok k2) h).symm, fun h => by rw [h]⟩
theorem within_same {n z : Nm.Bytes} (h : Nm.same n z = true) : Nm.within n z = true := by
  have hn : Nm.may n = true := by simp [Nm.same] at h; exact h.1.1
  have hz : Nm.may z = true := by simp [Nm.same] at h; exact h.1.2
  obtain ⟨a, ha⟩ := Nm.nm_of_may hn
  obtain ⟨b, hb⟩ := Nm.nm_of_may hz
  have := (same_lowL ha hb).1 h
  unfold Nm.within
  rw [ha, hb]
  simp [this]
theorem nm_tail {n : Nm.Bytes} {l : Nm.Bytes} {t : List Nm.Bytes} (h : Nm.nm n = some (l :: t)) : Nm.nm (Nm.enc t) = some t := by
  obtain ⟨h1, h2, h3⟩ := Nm.nm_iff.1 h
  refine Nm.nm_iff.2 ⟨rfl, (Nm.ok_cons.1 h2).2, ?_⟩
  rw [h1] at h3
  simp [Nm.enc] at h3
  omega
theorem within_up {n z : Nm.Bytes} {l : Nm.Bytes} {t : List Nm.Bytes} (hn : Nm.nm n = some (l :: t)) (h : Nm.same n z = false) : Nm.within n z = Nm.within (Nm.enc t) z := by
  unfold Nm.within
  rw [hn, nm_tail hn]
  cases hz : Nm.nm z with
  | none => rfl
  | some b =>
    have hne : ¬ Nm.lowL b = Nm.lowL (l :: t) := fun k => by rw [(same_lowL hn hz).2 k] at h; cases h
    show (Nm.lowL b).isSuffixOf (Nm.lowL (l :: t)) = (Nm.lowL b).isSuffixOf (Nm.lowL t)
    rw [Bool.eq_iff_iff, List.isSuffixOf_iff_suffix, List.isSuffixOf_iff_suffix]
    show Nm.lowL b <:+ Nm.low l :: Nm.lowL t ↔ _
    rw [List.suffix_cons_iff]
    exact ⟨fun k => k.resolve_left hne, Or.inr⟩
theorem within_root {n z : Nm.Bytes} (hn : Nm.nm n = some []) (h : Nm.same n z = false) : Nm.within n z = false := by
  unfold Nm.within
  rw [hn]
  cases hz : Nm.nm z with
  | none => rfl
  | some b =>
    have hne : ¬ Nm.lowL b = Nm.lowL [] := fun k => by rw [(same_lowL hn hz).2 k] at h; cases h
    show (Nm.lowL b).isSuffixOf (Nm.lowL []) = false
    rw [Bool.eq_false_iff]
    intro k
    rw [List.isSuffixOf_iff_suffix] at k
    exact hne (by simpa [Nm.lowL] using k)

set_option maxRecDepth 100000 in
set_option maxHeartbeats 1000000 in
theorem refWithin_any (s t : ByteArray) (w : World) (hs : s.size ≤ 1000000) (ht : t.size ≤ 1000000) :
    Calls Try.prog 127 #[.string s, .string t] w fun e w' => e = .returned (.bool (Nm.within s.data.toList t.data.toList)) ∧ Below w.heap.size w w' := by
  cases hm : Nm.may s.data.toList with
  | false =>
    have HV := Lib.hid (show Nm.within s.data.toList t.data.toList = false by unfold Nm.within; rw [Nm.nm_of_not hm])
    have HM := Lib.hid hm
    clear hm
    go_enter Try.func127, Try.ntmps127
    go_wp2_with fail
    refine (refMay_any _ _ hs).mono ?_
    rintro e w1 ⟨rfl, hb⟩
    rw [HM.out]
    go_wp2_with fail
    go_ret
    rw [HV.out]
    exact ⟨rfl, hb⟩
  | true =>
    have HM := Lib.hid hm
    cases hm2 : Nm.may t.data.toList with
    | false =>
      have HV := Lib.hid (show Nm.within s.data.toList t.data.toList = false by unfold Nm.within; rw [Nm.nm_of_not hm2]; cases Nm.nm s.data.toList <;> rfl)
      have HM2 := Lib.hid hm2
      clear hm hm2
      go_enter Try.func127, Try.ntmps127
      go_wp2_with fail
      refine (refMay_any _ _ hs).mono ?_
      rintro e w1 ⟨rfl, hb⟩
      rw [HM.out]
      go_wp2_with fail
      refine (refMay_any _ _ ht).mono ?_
      rintro e w2 ⟨rfl, hb2⟩
      rw [HM2.out]
      go_wp2_with fail
      go_ret
      rw [HV.out]
      exact ⟨rfl, hb.trans (hb2.mono hb.size)⟩
    | true =>
      obtain ⟨a0, ha0⟩ := Nm.nm_of_may hm
      have HA0 := Lib.hid ha0
      have HM2 := Lib.hid hm2
      clear hm hm2 ha0
      go_enter Try.func127, Try.ntmps127
      go_wp2_with fail
      refine (refMay_any _ _ hs).mono ?_
      rintro e w1 ⟨rfl, hb⟩
      rw [HM.out]
      go_wp2_with fail
      refine (refMay_any _ _ ht).mono ?_
      rintro e w2 ⟨rfl, hb2⟩
      rw [HM2.out]
      have HB2 := Lib.hid (hb.trans (hb2.mono hb.size))
      clear hb hb2
      go_wp2_with fail
      go_loopw [0, 5, 6] (fun n _ _ wr => ∃ (x : Nm.Bytes) (a : List Nm.Bytes), n = .string ⟨x.toArray⟩ ∧ Nm.nm x = some a ∧ Nm.within s.data.toList t.data.toList = Nm.within x t.data.toList ∧ Below w.heap.size w wr) (fun n _ _ _ => strLen n)
      case atStart => exact ⟨s.data.toList, a0, rfl, HA0.out, rfl, HB2.out⟩
      case round =>
        obtain ⟨x, a, rfl, hx, hw, hbel⟩ := hrel
        have hxl : x.length ≤ 1000000 := by have := (Nm.nm_iff.1 hx).2.2; omega
        have HX := Lib.hid hx
        have HW := Lib.hid hw
        have HBEL := Lib.hid hbel
        clear hx hw hbel
        go_wp2_with fail
        refine (refSame_any ⟨x.toArray⟩ t _ (by rw [byteSize]; omega) ht).mono ?_
        rintro e w3 ⟨rfl, hb3⟩
        have HB3 := Lib.hid (HBEL.out.trans (hb3.mono HBEL.out.size))
        clear hb3
        cases hsm : Nm.same x t.data.toList with
        | true =>
          have HV := Lib.hid (HW.out.trans (within_same hsm))
          clear hsm
          go_wp2_with fail
          go_ret
          rw [HV.out]
          exact ⟨rfl, HB3.out⟩
        | false =>
          have HS := Lib.hid hsm
          clear hsm
          go_wp2_with fail
          refine (refParent_any ⟨x.toArray⟩ _ (by rw [byteSize]; omega)).mono ?_
          rintro e w4 ⟨rfl, hb4⟩
          have HB4 := Lib.hid (HB3.out.trans (hb4.mono HB3.out.size))
          clear hb4
          cases a with
          | nil =>
            have HV := Lib.hid (HW.out.trans (within_root HX.out HS.out))
            have HP := Lib.hid (show Nm.parentB x = false by unfold Nm.parentB; rw [HX.out])
            rw [HP.out]
            go_wp2_with fail
            go_ret
            rw [HV.out]
            exact ⟨rfl, HB4.out⟩
          | cons l tl =>
            have HV := Lib.hid (HW.out.trans (within_up HX.out HS.out))
            have HP := Lib.hid (show Nm.parentB x = true by unfold Nm.parentB; rw [HX.out])
            have HQ := Lib.hid (show Nm.parentN x = Nm.enc tl by unfold Nm.parentN; rw [HX.out])
            rw [HP.out, HQ.out]
            have HL := Lib.hid (show (Nm.enc tl).length < x.length by rw [(Nm.nm_iff.1 HX.out).1]; simp [Nm.enc]; omega)
            go_wp2_with fail
            exact ⟨⟨_, tl, rfl, nm_tail HX.out, HV.out, HB4.out⟩, by simpa [strLen, byteSize] using HL.out⟩

end Go.Proofs.Ytdflhdfapnhjjaa
namespace Go.Proofs.Ytdflhdfapnhjjaa
open Go.RowKit
set_option linter.unusedVariables false
set_option linter.unusedSimpArgs false
def txtV (l : Nm.Bytes) : Value := .string (bs l)
/-- A slice of strings in memory. -/
def StrRow (L : Blocks) (v : Value) (ls : List Nm.Bytes) : Prop :=
  ∃ a cap, v = .slice a ls.length cap ∧ (ls = [] ∨ ∃ b off C te fr, a = some ⟨b, off, none⟩ ∧ (b, Obj.cells C te fr) ∈ L ∧ ∀ i l, ls[i]? = some l → C[off + i * 1]? = some (.string (bs l)))
theorem StrRow.mono {L L' : Blocks} {v : Value} {ls : List Nm.Bytes} (h : StrRow L v ls) (hs : ∀ p ∈ L, p ∈ L') : StrRow L' v ls := by
  obtain ⟨a, cap, h1, h2⟩ := h
  refine ⟨a, cap, h1, h2.imp id ?_⟩
  rintro ⟨b, off, C, te, fr, h3, h4, h5⟩
  exact ⟨b, off, C, te, fr, h3, hs _ h4, h5⟩

def okLbl (l : Nm.Bytes) : Bool := decide (1 ≤ l.length) && decide (l.length ≤ 63)
theorem Row.strRow {L B : Blocks} {v : Value} {ls : List Nm.Bytes} (h : Row 9 1 v ls.length (ls.map txtV) B) (hB : ∀ p ∈ B, p ∈ L) : StrRow L v ls := by
  rcases h.is with ⟨h1, h2, _⟩ | ⟨b, cap, cur, h1, h2, h3, h4, h5, h6⟩
  · exact ⟨none, 0, by rw [h1, h2], Or.inl (List.eq_nil_of_length_eq_zero h2)⟩
  · refine ⟨_, cap, h1, Or.inr ⟨b, 0, cur, 9, (0, 0), rfl, hB _ (by rw [h2]; exact List.mem_cons_self ..), fun i l hi => ?_⟩⟩
    have hil := (List.getElem?_eq_some_iff.1 hi).1
    have : (cur.toList.take (ls.length * 1))[i]? = some (txtV l) := by rw [h6, List.getElem?_map, hi]; rfl
    rw [List.getElem?_take_of_lt (by omega)] at this
    simpa [txtV] using this
theorem nm_few {n : Nm.Bytes} {ls : List Nm.Bytes} (h : Nm.nm n = some ls) : ls.length ≤ 254 := by
  obtain ⟨h1, _, h3⟩ := Nm.nm_iff.1 h
  have := Nm.length_lt_enc ls
  rw [← h1] at this
  omega
section
variable {G : World} {L : Blocks} {P : Program}
end
variable {G : World} {L : Blocks}
theorem bs_mil {l : Nm.Bytes} (h : l.length ≤ 1000000) : (bs l).size ≤ 1000000 := by rw [bs_size]; exact h
theorem refNSame_S (a b : Nm.Bytes) (ha : a.length ≤ 1000000) (hb : b.length ≤ 1000000) : Spec Try.prog G 124 #[.string (bs a), .string (bs b)] L fun u M => u = .bool (Nm.same a b) ∧ M = L := Spec.ofBelow fun w => refSame_any (bs a) (bs b) w (bs_mil ha) (bs_mil hb)
theorem refWithin_S (a b : Nm.Bytes) (ha : a.length ≤ 1000000) (hb : b.length ≤ 1000000) : Spec Try.prog G 127 #[.string (bs a), .string (bs b)] L fun u M => u = .bool (Nm.within a b) ∧ M = L := Spec.ofBelow fun w => refWithin_any (bs a) (bs b) w (bs_mil ha) (bs_mil hb)
theorem refFold_S (l : Nm.Bytes) (h : l.length ≤ 1000000) : Spec Try.prog G 61 #[.string (bs l)] L fun u M => u = .string (bs (Nm.fold l)) ∧ M = L := Spec.ofBelow fun w => refFold_any (bs l) w (bs_mil h)
theorem refLow_S (l : Nm.Bytes) (h : l.length ≤ 1000000) : Spec Try.prog G 87 #[.string (bs l)] L fun u M => u = .string (bs (Nm.low l)) ∧ M = L := Spec.ofBelow fun w => refLow_any (bs l) w (bs_mil h)
theorem refMay_S (l : Nm.Bytes) (h : l.length ≤ 1000000) : Spec Try.prog G 58 #[.string (bs l)] L fun u M => u = .bool (Nm.may l) ∧ M = L := Spec.ofBelow fun w => refMay_any (bs l) w (bs_mil h)
end Go.Proofs.Ytdflhdfapnhjjaa
namespace Go.Proofs.Ytdflhdfapnhjjaa
open Go.RowKit
open Vd (RSet Vdt Vote Rec Quest)
set_option linter.unusedVariables false
set_option linter.unusedSimpArgs false
variable {G : World} {L : Blocks}
theorem strs_cut {a : Option Addr} {m c : Nat} {l : List Vd.Bytes} (h : sliceR 1 strR L [.slice a m c] l) : m = l.length ∧ m ≤ c ∧ c ≤ maxLen ∧ (l = [] ∨ ∃ b off C te fr, a = some ⟨b, off, none⟩ ∧ (b, Obj.cells C te fr) ∈ L ∧ ∀ i x, l[i]? = some x → C[off + i * 1]? = some (.string (bs x))) := by
  obtain ⟨h1, h2, h3, h4⟩ := sliceR.cut h
  refine ⟨h1, h2, h3, h4.imp id ?_⟩
  rintro ⟨b, off, C, te, fr, q1, q2, q3⟩
  refine ⟨b, off, C, te, fr, q1, q2, fun i x hx => ?_⟩
  obtain ⟨cs', k1, ⟨k2, _⟩, k3⟩ := q3 i x hx
  subst k2
  exact k3 0 _ rfl
theorem take_ext {α : Type} {l m : List α} {k : Nat} {x : α} (h : l.take k = m.take k) (h1 : l[k]? = some x) (h2 : m[k]? = some x) : l.take (k + 1) = m.take (k + 1) := by
  rw [List.take_add_one, List.take_add_one, h, h1, h2]
set_option maxRecDepth 100000 in
theorem Equal_S (va vb : Value) (la lb : List Vd.Bytes) (ha : sliceR 1 strR L [va] la) (hb : sliceR 1 strR L [vb] lb) : Spec Try.prog G 90 #[va, vb] L fun u M => u = .bool (decide (la = lb)) ∧ M = L := by
  obtain ⟨aa, ca, e1, ha⟩ := ha.val
  obtain ⟨ab, cb, e2, hb⟩ := hb.val
  simp only [List.cons.injEq, and_true] at e1 e2
  subst e1 e2
  obtain ⟨_, ka1, ka2, ha⟩ := strs_cut ha
  obtain ⟨_, kb1, kb2, hb⟩ := strs_cut hb
  unfold maxLen at ka2 kb2
  refine Spec_of (n := 26) Try.func90 rfl rfl rfl ?_
  by_cases hlen : la.length = lb.length
  · have d0 : (((la.length : Nat) : Int) != ((lb.length : Nat) : Int)) = false := by simp [hlen]
    repeat ((first | with_reducible refine T_seq ?_ | with_reducible refine T_block ?_ | with_reducible refine T_region ?_ | with_reducible refine TL_nil ?_ | with_reducible refine TQ_then ?_ | with_reducible refine T_skip ?_ | refine TL_q (op_move rfl) rfl ?_ | refine TL_q (op_assign rfl) rfl ?_ | (refine' TL_q (op_bin rfl rfl ?_) rfl ?_; rotate_left 1; (· (exact bin_neq))) | refine TL_q (op_len_slice rfl Try.underlying58) rfl ?_ | (refine T_no rfl ?_ ?_; (· (assumption)))))
    refine T_loopS (σ := Nat) (fun k => k ≤ la.length ∧ la.take k = lb.take k) (fun k => [(0, .slice aa la.length ca), (1, .slice ab lb.length cb), (12, .int .i64 (la.length : Nat)), (13, .int .i64 (k : Nat))]) (fun k => L) (fun k => la.length - k) 0 ⟨Nat.zero_le _, by simp⟩ ?_ (fun w h => h) ?_
    (repeat ((first | exact trivial | refine ⟨rfl, ?_⟩)))
    rintro k ⟨hk, heq⟩
    by_cases hlt : k < la.length
    · have d1 : decide (((k : Nat) : Int) < ((la.length : Nat) : Int)) = true := decide_eq_true (by omega)
      obtain ⟨x, hx⟩ : ∃ x, la[k]? = some x := ⟨_, List.getElem?_eq_getElem hlt⟩
      obtain ⟨y, hy⟩ : ∃ y, lb[k]? = some y := ⟨_, List.getElem?_eq_getElem (hlen ▸ hlt)⟩
      rcases ha with rfl | ⟨b1, o1, C1, t1, f1, rfl, m1, q1⟩
      · simp at hlt
      rcases hb with rfl | ⟨b2, o2, C2, t2, f2, rfl, m2, q2⟩
      · simp at hy
      have r1 := q1 k x hx
      have r2 := q2 k y hy
      have hK : ∀ z ∈ [(b1, Obj.cells C1 t1 f1), (b2, Obj.cells C2 t2 f2)], z ∈ L := fun z hz => by
        simp only [List.mem_cons, List.not_mem_nil, or_false] at hz
        rcases hz with rfl | rfl <;> assumption
      by_cases hxy : x = y
      · have d2 : (!(x == y)) = false := by simp [hxy]
        repeat ((first | with_reducible refine T_seq ?_ | with_reducible refine T_block ?_ | with_reducible refine T_region ?_ | with_reducible refine TL_nil ?_ | with_reducible refine TQ_then ?_ | with_reducible refine T_skip ?_ | refine TL_q (op_move rfl) rfl ?_ | refine TL_q (op_assign rfl) rfl ?_ | (refine' TL_q (op_bin rfl rfl ?_) rfl ?_; rotate_left 1; (· (exact bin_lss))) | (refine T_yes rfl ?_ ?_; (· (assumption)))))
        refine T_draw follows_mixed ([(b1, Obj.cells C1 t1 f1), (b2, Obj.cells C2 t2 f2)]) [] ?_
        (refine' TA_take 0 rfl rfl (by kernel_rfl) (quiet_q (op_move rfl)) ?_ ?_; (· (assumption)))
        (refine' TA_take 1 rfl rfl (by kernel_rfl) (quiet_q (op_move rfl)) ?_ ?_; (· (assumption)))
        (refine' TA_take 2 rfl rfl (by kernel_rfl) (quiet_q (op_idx ety_58 rfl rfl ?_)) ?_ ?_; (· omega); (· (assumption)))
        (refine' TA_take 3 rfl rfl (by kernel_rfl) (quiet_q (op_ld rfl pl_9 ?_ ?_)) ?_ ?_; rotate_left 4; (· repeat ((exact List.mem_cons_self))); (· (assumption)); (· (assumption)))
        (refine' TA_take 4 rfl rfl (by kernel_rfl) (quiet_q (op_move rfl)) ?_ ?_; (· (assumption)))
        (refine' TA_take 5 rfl rfl (by kernel_rfl) (quiet_q (op_move rfl)) ?_ ?_; (· (assumption)))
        (refine' TA_take 6 rfl rfl (by kernel_rfl) (quiet_q (op_idx ety_58 rfl rfl ?_)) ?_ ?_; (· omega); (· (assumption)))
        (refine' TA_take 7 rfl rfl (by kernel_rfl) (quiet_q (op_ld rfl pl_9 ?_ ?_)) ?_ ?_; rotate_left 4; (· repeat ((first | exact List.mem_cons_self | apply List.mem_cons_of_mem))); (· (assumption)); (· (assumption)))
        (refine' TA_take 8 rfl rfl (by kernel_rfl) (quiet_q (op_bin rfl rfl ?_)) ?_ ?_; rotate_left 1; (· (exact sbin_neq)); (· (assumption)))
        refine TA_done (by kernel_rfl) ?_
        repeat ((first | with_reducible refine T_region ?_ | with_reducible refine TL_nil ?_ | with_reducible refine TQ_then ?_ | with_reducible refine TQ_block ?_ | with_reducible refine T_skip ?_ | refine TL_q (op_move rfl) rfl ?_ | (refine' TL_q (op_bin rfl rfl ?_) rfl ?_; rotate_left 1; (· (exact bin_add ⟨by omega, by omega⟩))) | (refine T_no rfl ?_ ?_; (· (assumption)))))
        refine TQ_roundS (k + 1) ⟨hlt, ?_⟩ ?_ (fun w h => h) (by omega)
        · subst hxy
          exact take_ext heq hx hy
        (repeat ((first | exact trivial | refine ⟨rfl, ?_⟩)))
      · have d2 : (!(x == y)) = true := by simp [hxy]
        repeat ((first | with_reducible refine T_seq ?_ | with_reducible refine T_block ?_ | with_reducible refine T_region ?_ | with_reducible refine TL_nil ?_ | with_reducible refine TQ_then ?_ | with_reducible refine T_skip ?_ | refine TL_q (op_move rfl) rfl ?_ | refine TL_q (op_assign rfl) rfl ?_ | (refine' TL_q (op_bin rfl rfl ?_) rfl ?_; rotate_left 1; (· (exact bin_lss))) | (refine T_yes rfl ?_ ?_; (· (assumption)))))
        refine T_draw follows_mixed ([(b1, Obj.cells C1 t1 f1), (b2, Obj.cells C2 t2 f2)]) [] ?_
        (refine' TA_take 0 rfl rfl (by kernel_rfl) (quiet_q (op_move rfl)) ?_ ?_; (· (assumption)))
        (refine' TA_take 1 rfl rfl (by kernel_rfl) (quiet_q (op_move rfl)) ?_ ?_; (· (assumption)))
        (refine' TA_take 2 rfl rfl (by kernel_rfl) (quiet_q (op_idx ety_58 rfl rfl ?_)) ?_ ?_; (· omega); (· (assumption)))
        (refine' TA_take 3 rfl rfl (by kernel_rfl) (quiet_q (op_ld rfl pl_9 ?_ ?_)) ?_ ?_; rotate_left 4; (· repeat ((exact List.mem_cons_self))); (· (assumption)); (· (assumption)))
        (refine' TA_take 4 rfl rfl (by kernel_rfl) (quiet_q (op_move rfl)) ?_ ?_; (· (assumption)))
        (refine' TA_take 5 rfl rfl (by kernel_rfl) (quiet_q (op_move rfl)) ?_ ?_; (· (assumption)))
        (refine' TA_take 6 rfl rfl (by kernel_rfl) (quiet_q (op_idx ety_58 rfl rfl ?_)) ?_ ?_; (· omega); (· (assumption)))
        (refine' TA_take 7 rfl rfl (by kernel_rfl) (quiet_q (op_ld rfl pl_9 ?_ ?_)) ?_ ?_; rotate_left 4; (· repeat ((first | exact List.mem_cons_self | apply List.mem_cons_of_mem))); (· (assumption)); (· (assumption)))
        (refine' TA_take 8 rfl rfl (by kernel_rfl) (quiet_q (op_bin rfl rfl ?_)) ?_ ?_; rotate_left 1; (· (exact sbin_neq)); (· (assumption)))
        refine TA_done (by kernel_rfl) ?_
        repeat ((first | with_reducible refine T_seq ?_ | with_reducible refine T_region ?_ | with_reducible refine TL_nil ?_ | with_reducible refine TQ_then ?_ | with_reducible refine T_ret ?_ | with_reducible refine TQ_then_ret ?_ | with_reducible refine TQ_block_ret ?_ | refine TL_q (op_assign rfl) rfl ?_ | (refine T_yes rfl ?_ ?_; (· (assumption)))))
        refine TQ_ret1 4 _ rfl rfl ?_
        refine ⟨?_, rfl⟩
        have : la ≠ lb := fun e => hxy (by rw [e, hy] at hx; exact (Option.some.inj hx).symm)
        simp [this]
    · have d1 : decide (((k : Nat) : Int) < ((la.length : Nat) : Int)) = false := decide_eq_false (by omega)
      have hkn : k = la.length := by omega
      subst hkn
      rw [List.take_length, hlen, List.take_length] at heq
      repeat ((first | with_reducible refine T_seq ?_ | with_reducible refine T_region ?_ | with_reducible refine TL_nil ?_ | with_reducible refine TQ_then ?_ | with_reducible refine T_exit ?_ | with_reducible refine T_ret ?_ | with_reducible refine TQ_then_exit ?_ | with_reducible refine TQ_block_exit ?_ | refine TL_q (op_assign rfl) rfl ?_ | (refine' TL_q (op_bin rfl rfl ?_) rfl ?_; rotate_left 1; (· (exact bin_lss))) | (refine T_no rfl ?_ ?_; (· (assumption)))))
      refine TQ_ret1 4 _ rfl rfl ?_
      exact ⟨by simp [heq], rfl⟩
  · have d0 : (((la.length : Nat) : Int) != ((lb.length : Nat) : Int)) = true := by simp; omega
    repeat ((first | with_reducible refine T_seq ?_ | with_reducible refine T_region ?_ | with_reducible refine TL_nil ?_ | with_reducible refine TQ_then ?_ | with_reducible refine T_ret ?_ | with_reducible refine TQ_then_ret ?_ | refine TL_q (op_move rfl) rfl ?_ | refine TL_q (op_assign rfl) rfl ?_ | (refine' TL_q (op_bin rfl rfl ?_) rfl ?_; rotate_left 1; (· (exact bin_neq))) | refine TL_q (op_len_slice rfl Try.underlying58) rfl ?_ | (refine T_yes rfl ?_ ?_; (· (assumption)))))
    refine TQ_ret1 4 _ rfl rfl ?_
    refine ⟨?_, rfl⟩
    have : la ≠ lb := fun e => hlen (by rw [e])
    simp [this]
theorem rset_ne {a b : RSet} (h : ¬ (a.name = b.name ∧ a.kind = b.kind ∧ a.cls = b.cls ∧ a.ttl = b.ttl ∧ a.data = b.data)) : decide (a = b) = false := by
  rw [decide_eq_false_iff_not]
  rintro rfl
  exact h ⟨rfl, rfl, rfl, rfl, rfl⟩
theorem rset_eq {a b : RSet} (h1 : a.name = b.name) (h2 : a.kind = b.kind) (h3 : a.cls = b.cls) (h4 : a.ttl = b.ttl) (h5 : a.data = b.data) : a = b := by
  cases a; cases b; simp_all
set_option maxRecDepth 100000 in
set_option maxHeartbeats 2000000 in
theorem refSame_S (ca cb : List Value) (a b : RSet) (ha : rsR L ca a) (hb : rsR L cb b) : Spec Try.prog G 89 #[.agg ca.toArray, .agg cb.toArray] L fun u M => u = .bool (decide (a = b)) ∧ M = L := by
  obtain ⟨da, rfl, ha, _⟩ := ha
  obtain ⟨db, rfl, hb, _⟩ := hb
  obtain ⟨aa, ka, e1, ha⟩ := ha.val
  obtain ⟨ab, kb, e2, hb⟩ := hb.val
  simp only [List.cons.injEq, and_true] at e1 e2
  subst e1 e2
  obtain ⟨_, ka1, ka2, ha⟩ := strs_cut ha
  obtain ⟨_, kb1, kb2, hb⟩ := strs_cut hb
  unfold maxLen at ka2 kb2
  refine Spec_of (n := 59) Try.func89 rfl rfl rfl ?_
  by_cases n1 : a.name = b.name
  · have d1 : (!(a.name == b.name)) = false := by simp [n1]
    by_cases n2 : a.kind = b.kind
    · have d2 : (a.kind != b.kind) = false := by simp [n2]
      by_cases n3 : a.cls = b.cls
      · have d3 : (a.cls != b.cls) = false := by simp [n3]
        by_cases n4 : a.ttl = b.ttl
        · have d4 : (a.ttl != b.ttl) = false := by simp [n4]
          by_cases hlen : a.data.length = b.data.length
          · have d5 : (((a.data.length : Nat) : Int) != ((b.data.length : Nat) : Int)) = false := by simp [hlen]
            repeat ((first | with_reducible refine T_seq ?_ | with_reducible refine T_block ?_ | with_reducible refine T_region ?_ | with_reducible refine TL_nil ?_ | with_reducible refine TQ_then ?_ | with_reducible refine T_skip ?_ | refine TL_q (op_move rfl) rfl ?_ | refine TL_q (op_assign rfl) rfl ?_ | (refine' TL_q (op_bin rfl rfl ?_) rfl ?_; rotate_left 1; (· (exact sbin_neq))) | (refine' TL_q (op_pickF rfl ?_ rfl) rfl ?_; (· (assumption))) | refine TL_q (op_fld rfl fld_60_0) rfl ?_ | (refine' TL_q (op_ld rfl pl_9 ?_ ?_) rfl ?_; rotate_left 4; (· repeat ((first | exact List.mem_cons_self | apply List.mem_cons_of_mem))); (· (rfl))) | (refine TL_gpre rfl rfl ?_ ?_; (· (assumption))) | (refine' TL_gq2 (op_bin rfl rfl ?_) rfl ?_; rotate_left 1; (· (exact bin_neq))) | refine TL_gq2 (op_len_slice rfl Try.underlying58) rfl ?_ | refine TL_gq2 (op_fld rfl fld_60_1) rfl ?_ | refine TL_gq2 (op_fld rfl fld_60_2) rfl ?_ | refine TL_gq2 (op_fld rfl fld_60_3) rfl ?_ | refine TL_gq2 (op_fld rfl fld_60_4) rfl ?_ | (refine' TL_gq2 (op_ld rfl pl_9 ?_ ?_) rfl ?_; rotate_left 4; (· repeat ((first | exact List.mem_cons_self | apply List.mem_cons_of_mem))); (· (rfl))) | (refine TL_new (op_box rfl rfl) rfl ?_; intro bBox) | (refine T_no rfl ?_ ?_; (· (assumption)))))
            rename_i bx
            obtain ⟨CA, hCA⟩ : ∃ C : Array Value, C = #[.string (bs a.name), .int .u16 a.kind, .int .u16 a.cls, .int .u32 a.ttl, .slice aa a.data.length ka] := ⟨_, rfl⟩
            obtain ⟨CB, hCB⟩ : ∃ C : Array Value, C = #[.string (bs b.name), .int .u16 b.kind, .int .u16 b.cls, .int .u32 b.ttl, .slice ab b.data.length kb] := ⟨_, rfl⟩
            have fA : CA[0 + 4]? = some (.slice aa a.data.length ka) := by rw [hCA]; rfl
            have fB : CB[0 + 4]? = some (.slice ab b.data.length kb) := by rw [hCB]; rfl
            refine T_loopS (σ := Nat) (fun k => k ≤ a.data.length ∧ a.data.take k = b.data.take k) (fun k => [(2, .pointer (some ⟨bx, 0, none⟩)), (3, .pointer (some ⟨bBox, 0, none⟩)), (5, .int .i64 (k : Nat))]) (fun k => (bBox, Obj.cells CB 60 (0, 0)) :: (bx, Obj.cells CA 60 (0, 0)) :: L) (fun k => a.data.length - k) 0 ⟨Nat.zero_le _, by simp⟩ ?_ (fun w h => by rw [hCA, hCB]; exact h) ?_
            (repeat ((first | exact trivial | refine ⟨rfl, ?_⟩)))
            clear hCA hCB
            rintro k ⟨hk, heq⟩
            by_cases hlt : k < a.data.length
            · have e1 : decide (((k : Nat) : Int) < ((a.data.length : Nat) : Int)) = true := decide_eq_true (by omega)
              obtain ⟨x, hx⟩ : ∃ x, a.data[k]? = some x := ⟨_, List.getElem?_eq_getElem hlt⟩
              obtain ⟨y, hy⟩ : ∃ y, b.data[k]? = some y := ⟨_, List.getElem?_eq_getElem (hlen ▸ hlt)⟩
              rcases ha with ha | ⟨b1, o1, C1, t1, f1, rfl, m1, q1⟩
              · rw [ha] at hlt; simp at hlt
              rcases hb with hb | ⟨b2, o2, C2, t2, f2, rfl, m2, q2⟩
              · rw [hb] at hy; simp at hy
              have r1 := q1 k x hx
              have r2 := q2 k y hy
              have hK : ∀ z ∈ [(bx, Obj.cells CA 60 (0, 0)), (bBox, Obj.cells CB 60 (0, 0)), (b1, Obj.cells C1 t1 f1), (b2, Obj.cells C2 t2 f2)], z ∈ (bBox, Obj.cells CB 60 (0, 0)) :: (bx, Obj.cells CA 60 (0, 0)) :: L := fun z hz => by
                simp only [List.mem_cons, List.not_mem_nil, or_false] at hz
                rcases hz with rfl | rfl | rfl | rfl
                · exact List.mem_cons_of_mem _ (List.mem_cons_self ..)
                · exact List.mem_cons_self ..
                · exact List.mem_cons_of_mem _ (List.mem_cons_of_mem _ m1)
                · exact List.mem_cons_of_mem _ (List.mem_cons_of_mem _ m2)
              by_cases hxy : x = y
              · have d6 : (!(x == y)) = false := by simp [hxy]
                repeat ((first | with_reducible refine T_seq ?_ | with_reducible refine T_block ?_ | with_reducible refine T_region ?_ | with_reducible refine TL_nil ?_ | with_reducible refine TQ_then ?_ | with_reducible refine T_skip ?_ | refine TL_q (op_move rfl) rfl ?_ | (refine' TL_q (op_bin rfl rfl ?_) rfl ?_; rotate_left 1; (· (exact bin_lss))) | refine TL_q (op_len_slice rfl Try.underlying58) rfl ?_ | refine TL_q (op_fld rfl fld_60_4) rfl ?_ | (refine' TL_q (op_ld rfl pl_9 ?_ ?_) rfl ?_; rotate_left 4; (· repeat ((first | exact List.mem_cons_self | apply List.mem_cons_of_mem))); (· (assumption))) | (refine T_yes rfl ?_ ?_; (· (assumption)))))
                refine T_draw follows_mixed ([(bx, Obj.cells CA 60 (0, 0)), (bBox, Obj.cells CB 60 (0, 0)), (b1, Obj.cells C1 t1 f1), (b2, Obj.cells C2 t2 f2)]) [] ?_
                (refine' TA_take 0 rfl rfl (by kernel_rfl) (quiet_q (op_fld rfl fld_60_4)) ?_ ?_; (· (assumption)))
                (refine' TA_take 1 rfl rfl (by kernel_rfl) (quiet_q (op_ld rfl pl_58 ?_ ?_)) ?_ ?_; rotate_left 4; (· repeat ((exact List.mem_cons_self))); (· (assumption)); (· (assumption)))
                (refine' TA_take 2 rfl rfl (by kernel_rfl) (quiet_q (op_move rfl)) ?_ ?_; (· (assumption)))
                (refine' TA_take 3 rfl rfl (by kernel_rfl) (quiet_q (op_idx ety_58 rfl rfl ?_)) ?_ ?_; (· omega); (· (assumption)))
                (refine' TA_take 4 rfl rfl (by kernel_rfl) (quiet_q (op_ld rfl pl_9 ?_ ?_)) ?_ ?_; rotate_left 4; (· repeat ((first | exact List.mem_cons_self | apply List.mem_cons_of_mem))); (· (assumption)); (· (assumption)))
                (refine' TA_take 5 rfl rfl (by kernel_rfl) (quiet_q (op_fld rfl fld_60_4)) ?_ ?_; (· (assumption)))
                (refine' TA_take 6 rfl rfl (by kernel_rfl) (quiet_q (op_ld rfl pl_58 ?_ ?_)) ?_ ?_; rotate_left 4; (· repeat ((first | exact List.mem_cons_self | apply List.mem_cons_of_mem))); (· (assumption)); (· (assumption)))
                (refine' TA_take 7 rfl rfl (by kernel_rfl) (quiet_q (op_move rfl)) ?_ ?_; (· (assumption)))
                (refine' TA_take 8 rfl rfl (by kernel_rfl) (quiet_q (op_idx ety_58 rfl rfl ?_)) ?_ ?_; (· omega); (· (assumption)))
                (refine' TA_take 9 rfl rfl (by kernel_rfl) (quiet_q (op_ld rfl pl_9 ?_ ?_)) ?_ ?_; rotate_left 4; (· repeat ((first | exact List.mem_cons_self | apply List.mem_cons_of_mem))); (· (assumption)); (· (assumption)))
                (refine' TA_take 10 rfl rfl (by kernel_rfl) (quiet_q (op_bin rfl rfl ?_)) ?_ ?_; rotate_left 1; (· (exact sbin_neq)); (· (assumption)))
                refine TA_done (by kernel_rfl) ?_
                repeat ((first | with_reducible refine T_region ?_ | with_reducible refine TL_nil ?_ | with_reducible refine TQ_then ?_ | with_reducible refine TQ_block ?_ | with_reducible refine T_skip ?_ | refine TL_q (op_move rfl) rfl ?_ | refine TL_q (op_assign rfl) rfl ?_ | (refine' TL_q (op_bin rfl rfl ?_) rfl ?_; rotate_left 1; (· (exact bin_add ⟨by omega, by omega⟩))) | (refine T_no rfl ?_ ?_; (· (assumption)))))
                refine TQ_roundS (k + 1) ⟨hlt, ?_⟩ ?_ (fun w h => h) (by omega)
                · subst hxy
                  exact take_ext heq hx hy
                (repeat ((first | exact trivial | refine ⟨rfl, ?_⟩)))
              · have d6 : (!(x == y)) = true := by simp [hxy]
                repeat ((first | with_reducible refine T_seq ?_ | with_reducible refine T_block ?_ | with_reducible refine T_region ?_ | with_reducible refine TL_nil ?_ | with_reducible refine TQ_then ?_ | with_reducible refine T_skip ?_ | refine TL_q (op_move rfl) rfl ?_ | (refine' TL_q (op_bin rfl rfl ?_) rfl ?_; rotate_left 1; (· (exact bin_lss))) | refine TL_q (op_len_slice rfl Try.underlying58) rfl ?_ | refine TL_q (op_fld rfl fld_60_4) rfl ?_ | (refine' TL_q (op_ld rfl pl_9 ?_ ?_) rfl ?_; rotate_left 4; (· repeat ((first | exact List.mem_cons_self | apply List.mem_cons_of_mem))); (· (assumption))) | (refine T_yes rfl ?_ ?_; (· (assumption)))))
                refine T_draw follows_mixed ([(bx, Obj.cells CA 60 (0, 0)), (bBox, Obj.cells CB 60 (0, 0)), (b1, Obj.cells C1 t1 f1), (b2, Obj.cells C2 t2 f2)]) [] ?_
                (refine' TA_take 0 rfl rfl (by kernel_rfl) (quiet_q (op_fld rfl fld_60_4)) ?_ ?_; (· (assumption)))
                (refine' TA_take 1 rfl rfl (by kernel_rfl) (quiet_q (op_ld rfl pl_58 ?_ ?_)) ?_ ?_; rotate_left 4; (· repeat ((exact List.mem_cons_self))); (· (assumption)); (· (assumption)))
                (refine' TA_take 2 rfl rfl (by kernel_rfl) (quiet_q (op_move rfl)) ?_ ?_; (· (assumption)))
                (refine' TA_take 3 rfl rfl (by kernel_rfl) (quiet_q (op_idx ety_58 rfl rfl ?_)) ?_ ?_; (· omega); (· (assumption)))
                (refine' TA_take 4 rfl rfl (by kernel_rfl) (quiet_q (op_ld rfl pl_9 ?_ ?_)) ?_ ?_; rotate_left 4; (· repeat ((first | exact List.mem_cons_self | apply List.mem_cons_of_mem))); (· (assumption)); (· (assumption)))
                (refine' TA_take 5 rfl rfl (by kernel_rfl) (quiet_q (op_fld rfl fld_60_4)) ?_ ?_; (· (assumption)))
                (refine' TA_take 6 rfl rfl (by kernel_rfl) (quiet_q (op_ld rfl pl_58 ?_ ?_)) ?_ ?_; rotate_left 4; (· repeat ((first | exact List.mem_cons_self | apply List.mem_cons_of_mem))); (· (assumption)); (· (assumption)))
                (refine' TA_take 7 rfl rfl (by kernel_rfl) (quiet_q (op_move rfl)) ?_ ?_; (· (assumption)))
                (refine' TA_take 8 rfl rfl (by kernel_rfl) (quiet_q (op_idx ety_58 rfl rfl ?_)) ?_ ?_; (· omega); (· (assumption)))
                (refine' TA_take 9 rfl rfl (by kernel_rfl) (quiet_q (op_ld rfl pl_9 ?_ ?_)) ?_ ?_; rotate_left 4; (· repeat ((first | exact List.mem_cons_self | apply List.mem_cons_of_mem))); (· (assumption)); (· (assumption)))
                (refine' TA_take 10 rfl rfl (by kernel_rfl) (quiet_q (op_bin rfl rfl ?_)) ?_ ?_; rotate_left 1; (· (exact sbin_neq)); (· (assumption)))
                refine TA_done (by kernel_rfl) ?_
                repeat ((first | with_reducible refine T_seq ?_ | with_reducible refine T_region ?_ | with_reducible refine TL_nil ?_ | with_reducible refine TQ_then ?_ | with_reducible refine T_ret ?_ | with_reducible refine TQ_then_ret ?_ | with_reducible refine TQ_block_ret ?_ | refine TL_q (op_assign rfl) rfl ?_ | (refine T_yes rfl ?_ ?_; (· (assumption)))))
                refine TQ_heap (fun w h => h.tail.tail) ?_
                refine TQ_ret1 4 _ rfl rfl ?_
                exact ⟨by rw [rset_ne (fun h => hxy (by rw [h.2.2.2.2, hy] at hx; exact (Option.some.inj hx).symm))], rfl⟩
            · have e1 : decide (((k : Nat) : Int) < ((a.data.length : Nat) : Int)) = false := decide_eq_false (by omega)
              have hkn : k = a.data.length := by omega
              subst hkn
              rw [List.take_length, hlen, List.take_length] at heq
              repeat ((first | with_reducible refine T_seq ?_ | with_reducible refine T_region ?_ | with_reducible refine TL_nil ?_ | with_reducible refine TQ_then ?_ | with_reducible refine T_exit ?_ | with_reducible refine T_ret ?_ | with_reducible refine TQ_then_exit ?_ | with_reducible refine TQ_block_exit ?_ | refine TL_q (op_move rfl) rfl ?_ | refine TL_q (op_assign rfl) rfl ?_ | (refine' TL_q (op_bin rfl rfl ?_) rfl ?_; rotate_left 1; (· (exact bin_lss))) | refine TL_q (op_len_slice rfl Try.underlying58) rfl ?_ | refine TL_q (op_fld rfl fld_60_4) rfl ?_ | (refine' TL_q (op_ld rfl pl_9 ?_ ?_) rfl ?_; rotate_left 4; (· repeat ((first | exact List.mem_cons_self | apply List.mem_cons_of_mem))); (· (assumption))) | (refine T_no rfl ?_ ?_; (· (assumption)))))
              refine TQ_heap (fun w h => h.tail.tail) ?_
              refine TQ_ret1 4 _ rfl rfl ?_
              exact ⟨by simp [rset_eq n1 n2 n3 n4 heq], rfl⟩
          · have d5 : (((a.data.length : Nat) : Int) != ((b.data.length : Nat) : Int)) = true := by simp; omega
            repeat ((first | with_reducible refine T_seq ?_ | with_reducible refine T_region ?_ | with_reducible refine TL_nil ?_ | with_reducible refine TQ_then ?_ | with_reducible refine T_ret ?_ | with_reducible refine TQ_then_ret ?_ | refine TL_q (op_move rfl) rfl ?_ | refine TL_q (op_assign rfl) rfl ?_ | (refine' TL_q (op_bin rfl rfl ?_) rfl ?_; rotate_left 1; (· (exact sbin_neq))) | (refine' TL_q (op_pickF rfl ?_ rfl) rfl ?_; (· (assumption))) | refine TL_q (op_fld rfl fld_60_0) rfl ?_ | (refine' TL_q (op_ld rfl pl_9 ?_ ?_) rfl ?_; rotate_left 4; (· repeat ((first | exact List.mem_cons_self | apply List.mem_cons_of_mem))); (· (rfl))) | (refine TL_gpre rfl rfl ?_ ?_; (· (assumption))) | (refine' TL_gq2 (op_bin rfl rfl ?_) rfl ?_; rotate_left 1; (· (exact bin_neq))) | refine TL_gq2 (op_len_slice rfl Try.underlying58) rfl ?_ | refine TL_gq2 (op_fld rfl fld_60_1) rfl ?_ | refine TL_gq2 (op_fld rfl fld_60_2) rfl ?_ | refine TL_gq2 (op_fld rfl fld_60_3) rfl ?_ | refine TL_gq2 (op_fld rfl fld_60_4) rfl ?_ | (refine' TL_gq2 (op_ld rfl pl_9 ?_ ?_) rfl ?_; rotate_left 4; (· repeat ((first | exact List.mem_cons_self | apply List.mem_cons_of_mem))); (· (rfl))) | (refine TL_new (op_box rfl rfl) rfl ?_; intro bBox) | (refine T_yes rfl ?_ ?_; (· (assumption)))))
            refine TQ_heap (fun w h => h.tail.tail) ?_
            refine TQ_ret1 4 _ rfl rfl ?_
            exact ⟨by rw [rset_ne (fun h => hlen (by rw [h.2.2.2.2]))], rfl⟩
        · have d4 : (a.ttl != b.ttl) = true := by simp [n4]
          repeat ((first | with_reducible refine T_seq ?_ | with_reducible refine T_region ?_ | with_reducible refine TL_nil ?_ | with_reducible refine TQ_then ?_ | with_reducible refine T_ret ?_ | with_reducible refine TQ_then_ret ?_ | refine TL_q (op_move rfl) rfl ?_ | refine TL_q (op_assign rfl) rfl ?_ | (refine' TL_q (op_bin rfl rfl ?_) rfl ?_; rotate_left 1; (· (exact sbin_neq))) | (refine' TL_q (op_pickT rfl ?_ rfl) rfl ?_; (· (assumption))) | (refine' TL_q (op_pickF rfl ?_ rfl) rfl ?_; (· (assumption))) | refine TL_q (op_fld rfl fld_60_0) rfl ?_ | (refine' TL_q (op_ld rfl pl_9 ?_ ?_) rfl ?_; rotate_left 4; (· repeat ((first | exact List.mem_cons_self | apply List.mem_cons_of_mem))); (· (rfl))) | (refine TL_gpre rfl rfl ?_ ?_; (· (assumption))) | (refine' TL_gq2 (op_bin rfl rfl ?_) rfl ?_; rotate_left 1; (· (exact bin_neq))) | refine TL_gq2 (op_fld rfl fld_60_1) rfl ?_ | refine TL_gq2 (op_fld rfl fld_60_2) rfl ?_ | refine TL_gq2 (op_fld rfl fld_60_3) rfl ?_ | (refine' TL_gq2 (op_ld rfl pl_9 ?_ ?_) rfl ?_; rotate_left 4; (· repeat ((first | exact List.mem_cons_self | apply List.mem_cons_of_mem))); (· (rfl))) | (refine TL_gno rfl rfl ?_ rfl ?_; (· (assumption))) | (refine TL_new (op_box rfl rfl) rfl ?_; intro bBox) | (refine T_yes rfl ?_ ?_; (· (with_reducible rfl)))))
          refine TQ_heap (fun w h => h.tail.tail) ?_
          refine TQ_ret1 4 _ rfl rfl ?_
          exact ⟨by rw [rset_ne (fun h => n4 h.2.2.2.1)], rfl⟩
      · have d3 : (a.cls != b.cls) = true := by simp [n3]
        repeat ((first | with_reducible refine T_seq ?_ | with_reducible refine T_region ?_ | with_reducible refine TL_nil ?_ | with_reducible refine TQ_then ?_ | with_reducible refine T_ret ?_ | with_reducible refine TQ_then_ret ?_ | refine TL_q (op_move rfl) rfl ?_ | refine TL_q (op_assign rfl) rfl ?_ | (refine' TL_q (op_bin rfl rfl ?_) rfl ?_; rotate_left 1; (· (exact sbin_neq))) | (refine' TL_q (op_pickT rfl ?_ rfl) rfl ?_; (· (first | with_reducible rfl | assumption))) | (refine' TL_q (op_pickF rfl ?_ rfl) rfl ?_; (· (assumption))) | refine TL_q (op_fld rfl fld_60_0) rfl ?_ | (refine' TL_q (op_ld rfl pl_9 ?_ ?_) rfl ?_; rotate_left 4; (· repeat ((first | exact List.mem_cons_self | apply List.mem_cons_of_mem))); (· (rfl))) | (refine TL_gpre rfl rfl ?_ ?_; (· (assumption))) | (refine' TL_gq2 (op_bin rfl rfl ?_) rfl ?_; rotate_left 1; (· (exact bin_neq))) | refine TL_gq2 (op_fld rfl fld_60_1) rfl ?_ | refine TL_gq2 (op_fld rfl fld_60_2) rfl ?_ | (refine' TL_gq2 (op_ld rfl pl_9 ?_ ?_) rfl ?_; rotate_left 4; (· repeat ((first | exact List.mem_cons_self | apply List.mem_cons_of_mem))); (· (rfl))) | (refine TL_gno rfl rfl ?_ rfl ?_; (· (first | assumption | exact Bool.not_false))) | (refine TL_new (op_box rfl rfl) rfl ?_; intro bBox) | (refine T_yes rfl ?_ ?_; (· (with_reducible rfl)))))
        refine TQ_heap (fun w h => h.tail.tail) ?_
        refine TQ_ret1 4 _ rfl rfl ?_
        exact ⟨by rw [rset_ne (fun h => n3 h.2.2.1)], rfl⟩
    · have d2 : (a.kind != b.kind) = true := by simp [n2]
      repeat ((first | with_reducible refine T_seq ?_ | with_reducible refine T_region ?_ | with_reducible refine TL_nil ?_ | with_reducible refine TQ_then ?_ | with_reducible refine T_ret ?_ | with_reducible refine TQ_then_ret ?_ | refine TL_q (op_move rfl) rfl ?_ | refine TL_q (op_assign rfl) rfl ?_ | (refine' TL_q (op_bin rfl rfl ?_) rfl ?_; rotate_left 1; (· (exact sbin_neq))) | (refine' TL_q (op_pickT rfl ?_ rfl) rfl ?_; (· (first | with_reducible rfl | assumption))) | (refine' TL_q (op_pickF rfl ?_ rfl) rfl ?_; (· (assumption))) | refine TL_q (op_fld rfl fld_60_0) rfl ?_ | (refine' TL_q (op_ld rfl pl_9 ?_ ?_) rfl ?_; rotate_left 4; (· repeat ((first | exact List.mem_cons_self | apply List.mem_cons_of_mem))); (· (rfl))) | (refine TL_gpre rfl rfl ?_ ?_; (· (assumption))) | (refine' TL_gq2 (op_bin rfl rfl ?_) rfl ?_; rotate_left 1; (· (exact bin_neq))) | refine TL_gq2 (op_fld rfl fld_60_1) rfl ?_ | (refine' TL_gq2 (op_ld rfl pl_9 ?_ ?_) rfl ?_; rotate_left 4; (· repeat ((first | exact List.mem_cons_self | apply List.mem_cons_of_mem))); (· (rfl))) | (refine TL_gno rfl rfl ?_ rfl ?_; (· (first | assumption | exact Bool.not_false))) | (refine TL_new (op_box rfl rfl) rfl ?_; intro bBox) | (refine T_yes rfl ?_ ?_; (· (with_reducible rfl)))))
      refine TQ_heap (fun w h => h.tail.tail) ?_
      refine TQ_ret1 4 _ rfl rfl ?_
      exact ⟨by rw [rset_ne (fun h => n2 h.2.1)], rfl⟩
  · have d1 : (!(a.name == b.name)) = true := by simp [n1]
    repeat ((first | with_reducible refine T_seq ?_ | with_reducible refine T_region ?_ | with_reducible refine TL_nil ?_ | with_reducible refine TQ_then ?_ | with_reducible refine T_ret ?_ | with_reducible refine TQ_then_ret ?_ | refine TL_q (op_move rfl) rfl ?_ | refine TL_q (op_assign rfl) rfl ?_ | (refine' TL_q (op_bin rfl rfl ?_) rfl ?_; rotate_left 1; (· (exact sbin_neq))) | (refine' TL_q (op_pickT rfl ?_ rfl) rfl ?_; (· (first | with_reducible rfl | assumption))) | refine TL_q (op_fld rfl fld_60_0) rfl ?_ | (refine' TL_q (op_ld rfl pl_9 ?_ ?_) rfl ?_; rotate_left 4; (· repeat ((first | exact List.mem_cons_self | apply List.mem_cons_of_mem))); (· (rfl))) | (refine TL_gno rfl rfl ?_ rfl ?_; (· (first | assumption | exact Bool.not_false))) | (refine TL_new (op_box rfl rfl) rfl ?_; intro bBox) | (refine T_yes rfl ?_ ?_; (· (with_reducible rfl)))))
    refine TQ_heap (fun w h => h.tail.tail) ?_
    refine TQ_ret1 4 _ rfl rfl ?_
    exact ⟨by rw [rset_ne (fun h => n1 h.1)], rfl⟩
theorem sets_cut {a : Option Addr} {m c : Nat} {l : List RSet} (h : sliceR 5 rsR L [.slice a m c] l) : m = l.length ∧ m ≤ c ∧ c ≤ maxLen ∧ (l = [] ∨ ∃ b off C te fr, a = some ⟨b, off, none⟩ ∧ (b, Obj.cells C te fr) ∈ L ∧
    ∀ i x, l[i]? = some x → ∃ cs', cs'.length = 5 ∧ rsR L cs' x ∧ ∀ j v, cs'[j]? = some v → C[off + i * 5 + j]? = some v) := sliceR.cut h
set_option maxRecDepth 100000 in
set_option maxHeartbeats 2000000 in
theorem SameAll_S (va vb : Value) (la lb : List RSet) (ha : sliceR 5 rsR L [va] la) (hb : sliceR 5 rsR L [vb] lb) : Spec Try.prog G 62 #[va, vb] L fun u M => u = .bool (decide (la = lb)) ∧ M = L := by
  obtain ⟨aa, ca, e1, ha⟩ := ha.val
  obtain ⟨ab, cb, e2, hb⟩ := hb.val
  simp only [List.cons.injEq, and_true] at e1 e2
  subst e1 e2
  obtain ⟨_, ka1, ka2, ha⟩ := sets_cut ha
  obtain ⟨_, kb1, kb2, hb⟩ := sets_cut hb
  unfold maxLen at ka2 kb2
  refine Spec_of (n := 27) Try.func62 rfl rfl rfl ?_
  by_cases hlen : la.length = lb.length
  · have d0 : (((la.length : Nat) : Int) != ((lb.length : Nat) : Int)) = false := by simp [hlen]
    repeat ((first | with_reducible refine T_seq ?_ | with_reducible refine T_block ?_ | with_reducible refine T_region ?_ | with_reducible refine TL_nil ?_ | with_reducible refine TQ_then ?_ | with_reducible refine T_skip ?_ | refine TL_q (op_move rfl) rfl ?_ | refine TL_q (op_assign rfl) rfl ?_ | (refine' TL_q (op_bin rfl rfl ?_) rfl ?_; rotate_left 1; (· (exact bin_neq))) | refine TL_q (op_len_slice rfl Try.underlying40) rfl ?_ | (refine T_no rfl ?_ ?_; (· (assumption)))))
    refine T_loopS (σ := Nat) (fun k => k ≤ la.length ∧ la.take k = lb.take k) (fun k => [(0, .slice aa la.length ca), (1, .slice ab lb.length cb), (5, .int .i64 (k : Nat))]) (fun k => L) (fun k => la.length - k) 0 ⟨Nat.zero_le _, by simp⟩ ?_ (fun w h => h) ?_
    (repeat ((first | exact trivial | refine ⟨rfl, ?_⟩)))
    rintro k ⟨hk, heq⟩
    by_cases hlt : k < la.length
    · have d1 : decide (((k : Nat) : Int) < ((la.length : Nat) : Int)) = true := decide_eq_true (by omega)
      obtain ⟨x, hx⟩ : ∃ x, la[k]? = some x := ⟨_, List.getElem?_eq_getElem hlt⟩
      obtain ⟨y, hy⟩ : ∃ y, lb[k]? = some y := ⟨_, List.getElem?_eq_getElem (hlen ▸ hlt)⟩
      rcases ha with rfl | ⟨b1, o1, C1, t1, f1, rfl, m1, q1⟩
      · simp at hlt
      rcases hb with rfl | ⟨b2, o2, C2, t2, f2, rfl, m2, q2⟩
      · simp at hy
      obtain ⟨ca', ha1, ha2, hca⟩ := q1 k x hx
      obtain ⟨cb', hb1, hb2, hcb⟩ := q2 k y hy
      have hK : ∀ z ∈ [(b1, Obj.cells C1 t1 f1), (b2, Obj.cells C2 t2 f2)], z ∈ L := fun z hz => by
        simp only [List.mem_cons, List.not_mem_nil, or_false] at hz
        rcases hz with rfl | rfl <;> assumption
      by_cases hxy : x = y
      · have d2 : (!decide (x = y)) = false := by simp [hxy]
        repeat ((first | with_reducible refine T_seq ?_ | with_reducible refine T_block ?_ | with_reducible refine T_region ?_ | with_reducible refine TL_nil ?_ | with_reducible refine TQ_then ?_ | with_reducible refine T_skip ?_ | refine TL_q (op_move rfl) rfl ?_ | (refine' TL_q (op_bin rfl rfl ?_) rfl ?_; rotate_left 1; (· (exact bin_lss))) | refine TL_q (op_len_slice rfl Try.underlying40) rfl ?_ | (refine T_yes rfl ?_ ?_; (· (assumption)))))
        refine T_draw follows_mixed ([(b1, Obj.cells C1 t1 f1), (b2, Obj.cells C2 t2 f2)]) [] ?_
        (refine' TA_take 0 rfl rfl (by kernel_rfl) (quiet_q (op_move rfl)) ?_ ?_; (· (assumption)))
        (refine' TA_take 1 rfl rfl (by kernel_rfl) (quiet_q (op_move rfl)) ?_ ?_; (· (assumption)))
        (refine' TA_take 2 rfl rfl (by kernel_rfl) (quiet_q (op_idx ety_40 rfl rfl ?_)) ?_ ?_; (· omega); (· (assumption)))
        (refine' TA_take 3 rfl rfl (by kernel_rfl) (quiet_q (op_ldA ca' rfl (by rw [ha1]; exact st_60) (List.mem_cons_self ..) hca)) ?_ ?_; (· (assumption)))
        (refine' TA_take 4 rfl rfl (by kernel_rfl) (quiet_q (op_move rfl)) ?_ ?_; (· (assumption)))
        (refine' TA_take 5 rfl rfl (by kernel_rfl) (quiet_q (op_move rfl)) ?_ ?_; (· (assumption)))
        (refine' TA_take 6 rfl rfl (by kernel_rfl) (quiet_q (op_idx ety_40 rfl rfl ?_)) ?_ ?_; (· omega); (· (assumption)))
        (refine' TA_take 7 rfl rfl (by kernel_rfl) (quiet_q (op_ldA cb' rfl (by rw [hb1]; exact st_60) (List.mem_cons_of_mem _ (List.mem_cons_self ..)) hcb)) ?_ ?_; (· (assumption)))
        refine TA_oneD 8 (by kernel_rfl) rfl rfl rfl rfl (op_call hb_89 rfl (refSame_S ca' cb' x y ha2 hb2)) ?_; rintro _ _ ⟨rfl, rfl⟩; refine ⟨Or.inr hK, ?_⟩
        (refine' TA_take 9 rfl rfl (by kernel_rfl) (quiet_q (op_not rfl)) ?_ ?_; (· (assumption)))
        refine TA_done (by kernel_rfl) ?_
        repeat ((first | with_reducible refine T_region ?_ | with_reducible refine TL_nil ?_ | with_reducible refine TQ_then ?_ | with_reducible refine TQ_block ?_ | with_reducible refine T_skip ?_ | refine TL_q (op_move rfl) rfl ?_ | refine TL_q (op_assign rfl) rfl ?_ | (refine' TL_q (op_bin rfl rfl ?_) rfl ?_; rotate_left 1; (· (exact bin_add ⟨by omega, by omega⟩))) | (refine T_no rfl ?_ ?_; (· (assumption)))))
        refine TQ_roundS (k + 1) ⟨hlt, ?_⟩ ?_ (fun w h => h) (by omega)
        · subst hxy
          exact take_ext heq hx hy
        (repeat ((first | exact trivial | refine ⟨rfl, ?_⟩)))
      · have d2 : (!decide (x = y)) = true := by simp [hxy]
        repeat ((first | with_reducible refine T_seq ?_ | with_reducible refine T_block ?_ | with_reducible refine T_region ?_ | with_reducible refine TL_nil ?_ | with_reducible refine TQ_then ?_ | with_reducible refine T_skip ?_ | refine TL_q (op_move rfl) rfl ?_ | (refine' TL_q (op_bin rfl rfl ?_) rfl ?_; rotate_left 1; (· (exact bin_lss))) | refine TL_q (op_len_slice rfl Try.underlying40) rfl ?_ | (refine T_yes rfl ?_ ?_; (· (assumption)))))
        refine T_draw follows_mixed ([(b1, Obj.cells C1 t1 f1), (b2, Obj.cells C2 t2 f2)]) [] ?_
        (refine' TA_take 0 rfl rfl (by kernel_rfl) (quiet_q (op_move rfl)) ?_ ?_; (· (assumption)))
        (refine' TA_take 1 rfl rfl (by kernel_rfl) (quiet_q (op_move rfl)) ?_ ?_; (· (assumption)))
        (refine' TA_take 2 rfl rfl (by kernel_rfl) (quiet_q (op_idx ety_40 rfl rfl ?_)) ?_ ?_; (· omega); (· (assumption)))
        (refine' TA_take 3 rfl rfl (by kernel_rfl) (quiet_q (op_ldA ca' rfl (by rw [ha1]; exact st_60) (List.mem_cons_self ..) hca)) ?_ ?_; (· (assumption)))
        (refine' TA_take 4 rfl rfl (by kernel_rfl) (quiet_q (op_move rfl)) ?_ ?_; (· (assumption)))
        (refine' TA_take 5 rfl rfl (by kernel_rfl) (quiet_q (op_move rfl)) ?_ ?_; (· (assumption)))
        (refine' TA_take 6 rfl rfl (by kernel_rfl) (quiet_q (op_idx ety_40 rfl rfl ?_)) ?_ ?_; (· omega); (· (assumption)))
        (refine' TA_take 7 rfl rfl (by kernel_rfl) (quiet_q (op_ldA cb' rfl (by rw [hb1]; exact st_60) (List.mem_cons_of_mem _ (List.mem_cons_self ..)) hcb)) ?_ ?_; (· (assumption)))
        refine TA_oneD 8 (by kernel_rfl) rfl rfl rfl rfl (op_call hb_89 rfl (refSame_S ca' cb' x y ha2 hb2)) ?_; rintro _ _ ⟨rfl, rfl⟩; refine ⟨Or.inr hK, ?_⟩
        (refine' TA_take 9 rfl rfl (by kernel_rfl) (quiet_q (op_not rfl)) ?_ ?_; (· (assumption)))
        refine TA_done (by kernel_rfl) ?_
        repeat ((first | with_reducible refine T_seq ?_ | with_reducible refine T_region ?_ | with_reducible refine TL_nil ?_ | with_reducible refine TQ_then ?_ | with_reducible refine T_ret ?_ | with_reducible refine TQ_then_ret ?_ | with_reducible refine TQ_block_ret ?_ | refine TL_q (op_assign rfl) rfl ?_ | (refine T_yes rfl ?_ ?_; (· (assumption)))))
        refine TQ_ret1 4 _ rfl rfl ?_
        refine ⟨?_, rfl⟩
        have : la ≠ lb := fun e => hxy (by rw [e, hy] at hx; exact (Option.some.inj hx).symm)
        simp [this]
    · have d1 : decide (((k : Nat) : Int) < ((la.length : Nat) : Int)) = false := decide_eq_false (by omega)
      have hkn : k = la.length := by omega
      subst hkn
      rw [List.take_length, hlen, List.take_length] at heq
      repeat ((first | with_reducible refine T_seq ?_ | with_reducible refine T_region ?_ | with_reducible refine TL_nil ?_ | with_reducible refine TQ_then ?_ | with_reducible refine T_exit ?_ | with_reducible refine T_ret ?_ | with_reducible refine TQ_then_exit ?_ | with_reducible refine TQ_block_exit ?_ | refine TL_q (op_move rfl) rfl ?_ | refine TL_q (op_assign rfl) rfl ?_ | (refine' TL_q (op_bin rfl rfl ?_) rfl ?_; rotate_left 1; (· (exact bin_lss))) | refine TL_q (op_len_slice rfl Try.underlying40) rfl ?_ | (refine T_no rfl ?_ ?_; (· (assumption)))))
      refine TQ_ret1 4 _ rfl rfl ?_
      exact ⟨by simp [heq], rfl⟩
  · have d0 : (((la.length : Nat) : Int) != ((lb.length : Nat) : Int)) = true := by simp; omega
    repeat ((first | with_reducible refine T_seq ?_ | with_reducible refine T_region ?_ | with_reducible refine TL_nil ?_ | with_reducible refine TQ_then ?_ | with_reducible refine T_ret ?_ | with_reducible refine TQ_then_ret ?_ | refine TL_q (op_move rfl) rfl ?_ | refine TL_q (op_assign rfl) rfl ?_ | (refine' TL_q (op_bin rfl rfl ?_) rfl ?_; rotate_left 1; (· (exact bin_neq))) | refine TL_q (op_len_slice rfl Try.underlying40) rfl ?_ | (refine T_yes rfl ?_ ?_; (· (assumption)))))
    refine TQ_ret1 4 _ rfl rfl ?_
    refine ⟨?_, rfl⟩
    have : la ≠ lb := fun e => hlen (by rw [e])
    simp [this]
theorem vd_eq {a b : Vdt} : a = b ↔ a.code = b.code ∧ a.sets = b.sets ∧ a.soa = b.soa := by
  cases a; cases b; simp
set_option maxRecDepth 100000 in
theorem vSame_S (ca cb : List Value) (a b : Vdt) (ha : vdR L ca a) (hb : vdR L cb b) : Spec Try.prog G 23 #[.agg ca.toArray, .agg cb.toArray] L fun u M => u = .bool (decide (a = b)) ∧ M = L := by
  obtain ⟨a1, a2, rfl, ha1, ha2, _⟩ := ha
  obtain ⟨b1, b2, rfl, hb1, hb2, _⟩ := hb
  refine Spec_of (n := 24) Try.func23 rfl rfl rfl ?_
  cases n1 : a.code == b.code with
  | false =>
    repeat ((first | with_reducible refine T_seq ?_ | with_reducible refine T_region ?_ | with_reducible refine TL_nil ?_ | with_reducible refine TQ_then ?_ | with_reducible refine T_ret ?_ | refine TL_q (op_move rfl) rfl ?_ | refine TL_q (op_assign rfl) rfl ?_ | (refine' TL_q (op_bin rfl rfl ?_) rfl ?_; rotate_left 1; (· (exact bin_eql))) | (refine' TL_q (op_pickF rfl ?_ rfl) rfl ?_; (· (first | with_reducible rfl | assumption))) | refine TL_q (op_fld rfl fld_42_0) rfl ?_ | (refine' TL_q (op_ld rfl pl_5 ?_ ?_) rfl ?_; rotate_left 4; (· repeat ((first | exact List.mem_cons_self | apply List.mem_cons_of_mem))); (· (rfl))) | (refine TL_gno rfl rfl ?_ rfl ?_; (· (first | assumption | exact Bool.not_true))) | (refine TL_new (op_box rfl rfl) rfl ?_; intro bBox)))
    refine TQ_heap (fun w h => h.tail.tail) ?_
    refine TQ_ret1 4 _ rfl rfl ?_
    refine ⟨?_, rfl⟩
    have : ¬ a = b := fun e => by rw [e] at n1; simp at n1
    simp [this]
  | true =>
    repeat ((first | with_reducible refine T_seq ?_ | with_reducible refine T_region ?_ | with_reducible refine TL_nil ?_ | with_reducible refine TQ_then ?_ | refine TL_q (op_move rfl) rfl ?_ | refine TL_q (op_assign rfl) rfl ?_ | (refine' TL_q (op_bin rfl rfl ?_) rfl ?_; rotate_left 1; (· (exact bin_eql))) | refine TL_q (op_fld rfl fld_42_0) rfl ?_ | (refine' TL_q (op_ld rfl pl_5 ?_ ?_) rfl ?_; rotate_left 4; (· repeat ((first | exact List.mem_cons_self | apply List.mem_cons_of_mem))); (· (rfl))) | (refine TL_gpre rfl rfl ?_ ?_; (· (assumption))) | refine TL_gq2 (op_fld rfl fld_42_1) rfl ?_ | (refine' TL_gq2 (op_ld rfl pl_5 ?_ ?_) rfl ?_; rotate_left 4; (· repeat ((first | exact List.mem_cons_self | apply List.mem_cons_of_mem))); (· (rfl))) | (refine TL_new (op_box rfl rfl) rfl ?_; intro bBox)))
    refine TG_op (op_call hb_62 rfl (SameAll_S _ _ a.sets b.sets (mono_slice mono_set _ _ _ _ (fun q hq => List.mem_cons_of_mem _ (List.mem_cons_of_mem _ hq)) ha1) (mono_slice mono_set _ _ _ _ (fun q hq => List.mem_cons_of_mem _ (List.mem_cons_of_mem _ hq)) hb1))) rfl ?_
    cases n2 : decide (a.sets = b.sets) with
    | false =>
      repeat ((first | with_reducible refine TL_nil ?_ | with_reducible refine TQ_then ?_ | with_reducible refine T_ret ?_ | refine TL_q (op_move rfl) rfl ?_ | refine TL_q (op_assign rfl) rfl ?_ | (refine' TL_q (op_pickT rfl ?_ rfl) rfl ?_; (· (assumption))) | (refine' TL_q (op_pickF rfl ?_ rfl) rfl ?_; (· (with_reducible rfl))) | (refine TL_gno rfl rfl ?_ rfl ?_; (· (exact Bool.not_true)))))
      refine TQ_heap (fun w h => h.tail.tail) ?_
      refine TQ_ret1 4 _ rfl rfl ?_
      refine ⟨?_, rfl⟩
      have : ¬ a = b := fun e => by rw [e] at n2; simp at n2
      simp [this]
    | true =>
      repeat ((first | refine TL_q (op_move rfl) rfl ?_ | (refine' TL_q (op_pickT rfl ?_ rfl) rfl ?_; (· (assumption))) | (refine TL_gpre rfl rfl ?_ ?_; (· (with_reducible rfl))) | refine TL_gq2 (op_fld rfl fld_42_2) rfl ?_ | (refine' TL_gq2 (op_ld rfl pl_5 ?_ ?_) rfl ?_; rotate_left 4; (· repeat ((first | exact List.mem_cons_self | apply List.mem_cons_of_mem))); (· (rfl)))))
      refine TG_op (op_call hb_62 rfl (SameAll_S _ _ a.soa b.soa (mono_slice mono_set _ _ _ _ (fun q hq => List.mem_cons_of_mem _ (List.mem_cons_of_mem _ hq)) ha2) (mono_slice mono_set _ _ _ _ (fun q hq => List.mem_cons_of_mem _ (List.mem_cons_of_mem _ hq)) hb2))) rfl ?_
      repeat ((first | with_reducible refine TL_nil ?_ | with_reducible refine TQ_then ?_ | with_reducible refine T_ret ?_ | refine TL_q (op_assign rfl) rfl ?_ | (refine' TL_q (op_pickT rfl ?_ rfl) rfl ?_; (· (with_reducible rfl)))))
      refine TQ_heap (fun w h => h.tail.tail) ?_
      refine TQ_ret1 4 _ rfl rfl ?_
      refine ⟨?_, rfl⟩
      simp only [decide_eq_true_eq] at n2
      rw [beq_iff_eq] at n1
      congr 1
      simp [vd_eq, n1, n2]
end Go.Proofs.Ytdflhdfapnhjjaa
