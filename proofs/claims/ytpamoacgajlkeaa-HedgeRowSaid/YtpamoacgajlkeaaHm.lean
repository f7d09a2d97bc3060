/-
  THE PLAN OF ASKINGS (hedge), as a plain function. No program in sight.
-/
namespace Go.Proofs.Ytpamoacgajlkeaa.Hg
/-- An upstream of the list. -/
structure En where
  up : Int
  asked : Int
  last : Int
  op : Bool
deriving DecidableEq
/-- A plan. -/
structure Pl where
  list : List En
  asked : Nat
  want : Int
  tries : Int
  every : Int
  wait : Int
  start : Int
  now : Int
  reached : Int
  made : Bool
  begins : Bool
deriving DecidableEq
def top : Int := 1099511627776
def seenBad : List Int → List Int → Bool
  | _, [] => false
  | seen, u :: r => decide (u < 0) || decide (9 ≤ u) || seen.contains u || seenBad (u :: seen) r
def newOk (l : List Int) (want every wait tries now : Int) : Bool :=
  decide (l.length ≤ 9) && !seenBad [] l && decide (1 ≤ want ∧ want ≤ 9 ∧ 1 ≤ every ∧ every ≤ 1000 ∧ 1 ≤ wait ∧ wait ≤ 1000 ∧ 1 ≤ tries ∧ tries ≤ 4 ∧ 0 ≤ now ∧ now ≤ top)
def fresh (u : Int) : En := ⟨u, 0, 0, false⟩
def mk (l : List Int) (want every wait tries now : Int) : Pl := ⟨l.map fresh, 0, want, tries, every, wait, now, now, 0, true, false⟩
def advance (p : Pl) (n : Int) : Pl := { p with now := max p.now (min n top) }
/-- The next one is asked (there is one). -/
def askAt (now : Int) (x : En) : En := ⟨x.up, 1, now, true⟩
def next (p : Pl) : Pl := { p with asked := p.asked + 1, list := p.list.modify p.asked (askAt p.now) }
def upAt (p : Pl) (i : Nat) : Int := ((p.list[i]?).map (·.up)).getD 0
/-- So many are asked. -/
def nexts : Nat → Pl → Pl × List Int
  | 0, p => (p, [])
  | k + 1, p => let r := nexts k (next p); (r.1, upAt p p.asked :: r.2)
def begin' (p : Pl) : Pl × List Int :=
  if !p.made || p.begins then (p, []) else nexts (min p.want.toNat (p.list.length - p.asked)) { p with begins := true }
/-- What a tick does with one of the list. -/
def late (now wait : Int) (x : En) : Bool := x.op && decide (wait ≤ now - x.last)
def tickE (now wait tries : Int) (x : En) : En :=
  if late now wait x then (if tries ≤ x.asked then { x with op := false } else { x with asked := x.asked + 1, last := now }) else x
def goneE (now wait tries : Int) (x : En) : List Int := if late now wait x && decide (tries ≤ x.asked) then [x.up] else []
def sendE (now wait tries : Int) (x : En) : List Int := if late now wait x && !decide (tries ≤ x.asked) then [x.up] else []
def examine (p : Pl) : Pl := { p with list := p.list.map (tickE p.now p.wait p.tries) }
def hedged (p : Pl) : Pl × List Int :=
  let k := (p.now - p.start) / p.every
  if p.reached < k then
    let q := { p with reached := k }
    if q.asked < q.list.length then (next q, [upAt q q.asked]) else (q, [])
  else (p, [])
def tick (p : Pl) (n : Int) : Pl × List Int × List Int :=
  if !p.begins then (p, [], []) else
  let q := advance p n
  let r := hedged (examine q)
  (r.1, q.list.flatMap (goneE q.now q.wait q.tries), q.list.flatMap (sendE q.now q.wait q.tries) ++ r.2)
def more (p : Pl) (n : Int) : Pl × Int × Bool :=
  if !p.begins then (p, 0, false) else
  let q := advance p n
  if q.list.length ≤ q.asked then (q, 0, false) else (next q, upAt q q.asked, true)
def isIt (u : Int) (x : En) : Bool := x.up == u && x.op
def closeL (u : Int) : List En → List En
  | [] => []
  | x :: r => if isIt u x then { x with op := false } :: r else x :: closeL u r
def close (p : Pl) (u : Int) : Pl × Bool := ({ p with list := closeL u p.list }, p.list.any (isIt u))
def opens (p : Pl) : Int := ((p.list.filter (·.op)).length : Nat)
def left (p : Pl) : Int := (p.list.length : Int) - (p.asked : Nat)
def askedOf (p : Pl) (u : Int) : Int := ((p.list.find? fun x => x.up == u).map (·.asked)).getD 0
/-- The example. -/
def exA : Pl := (begin' (mk [4, 2, 7] 2 10 15 2 100)).1
theorem ex1 : newOk [4, 2, 7] 2 10 15 2 100 = true ∧ (begin' (mk [4, 2, 7] 2 10 15 2 100)).2 = [4, 2] := by decide
def exB : Pl := (tick exA 110).1
def exC : Pl := (tick exB 115).1
def exD : Pl := (close exC 2).1
def exE : Pl := (tick exD 125).1
def exF : Pl := (tick exE 130).1
def exG : Pl := (tick exF 140).1
theorem ex2 : (tick exA 110).2 = ([], [7]) ∧ (tick exB 115).2 = ([], [4, 2]) ∧ (close exC 2).2 = true ∧ (tick exD 125).2 = ([], [7]) ∧ (tick exE 130).2 = ([4], []) ∧ (tick exF 140).2 = ([7], []) ∧ opens exG = 0 := by decide
end Go.Proofs.Ytpamoacgajlkeaa.Hg
