/- Plain functions that say what the package path computes; no program in sight. -/
import Derived.Test.YtgjlncfhghhaeaaGreatDoorSp
namespace Go.Proofs.YtgjlncfhghhaeaaGreatDoor.Sp
structure Pars where
  has : Bool
  eight : Bool
  size : Nat
deriving DecidableEq
def pars0 : Pars := ⟨false, false, 0⟩
def letB (c : UInt8) : Bool := (decide (97 ≤ c) && decide (c ≤ 122)) || (decide (65 ≤ c) && decide (c ≤ 90)) || digB c || c == 45
def badB (c : UInt8) : Bool := decide (c ≤ 32) || decide (126 < c) || c == 61
/-- Cut at the first byte c: ahead, behind, found. -/
def cutB (c : UInt8) : List UInt8 → List UInt8 × List UInt8 × Bool
  | [] => ([], [], false)
  | x :: xs => if x = c then ([], xs, true) else let r := cutB c xs; (x :: r.1, r.2.1, r.2.2)
/-- parts: name, value, has, is. -/
def parts (s : List UInt8) : List UInt8 × List UInt8 × Bool × Bool :=
  let r := cutB 61 s
  (low r.1, r.2.1, r.2.2, !r.1.isEmpty && r.1.all letB && (!r.2.2 || !r.2.1.isEmpty) && !r.2.1.any badB)
def wSize : List UInt8 := [115, 105, 122, 101]
def wBody : List UInt8 := [98, 111, 100, 121]
def w7 : List UInt8 := [55, 98, 105, 116]
def w8 : List UInt8 := [56, 98, 105, 116, 109, 105, 109, 101]
def saySize (p : Pars) (v : List UInt8) : Pars × Int := let x := number v 9; ({ p with has := true, size := x.1 }, x.2)
def sayBody (p : Pars) (v : List UInt8) : Pars × Int := let e := low v == w8; ({ p with eight := e }, if !e && low v != w7 then 1 else 0)
def say (name : List UInt8) (p : Pars) (v : List UInt8) : Pars × Int := if name = wSize then saySize p v else sayBody p v
def known (name : List UInt8) : Bool := name == wSize || name == wBody
/-- One parameter: none: it is ErrForm. -/
def step (x : Pars × Int × List (List UInt8)) (one : List UInt8) : Option (Pars × Int × List (List UInt8)) :=
  let q := parts one
  let y : Pars × Int :=
    if known q.1 && q.2.2.1 && !(x.2.2.contains q.1) then say q.1 x.1 q.2.1
    else if known q.1 && q.2.2.1 && q.1 == wSize then (x.1, max (saySize pars0 q.2.1).2 1)
    else (x.1, 1)
  if !q.2.2.2 || y.2 == 5 then none else some (y.1, max x.2.1 y.2, x.2.2 ++ [q.1])
def steps : Pars × Int × List (List UInt8) → List (List UInt8) → Option (Pars × Int × List (List UInt8))
  | x, [] => some x
  | x, one :: r => match step x one with
    | none => none
    | some y => steps y r
def parseParams : List UInt8 → Pars × Int
  | [] => (pars0, 0)
  | c :: r => if c ≠ 32 then (pars0, 5) else match steps (pars0, 0, []) (split 32 r) with
    | none => (pars0, 5)
    | some x => if x.2.1 ≠ 0 then (pars0, x.2.1) else (x.1, 0)
/-! ### Addresses and paths -/
abbrev Addr := List UInt8 × List UInt8
/-- local: the word, the rest, whether it is one. -/
def locl (s : List UInt8) : List UInt8 × List UInt8 × Bool :=
  if s.headD 0 = 34 then (let q := quoted s; (q.1, s.drop q.2.1, q.2.2 == 0 && !q.1.isEmpty))
  else (let r := cutB 64 s; if r.2.2 then (r.1, s.drop r.1.length, dotAtom r.1) else ([], s, dotAtom []))
def parseA (s : List UInt8) : Addr × Int :=
  let l := locl s
  let at_ := l.2.1.headD 0 == 64
  let name := if at_ then l.2.1.tail else l.2.1
  let e := domain name
  if !l.2.2 || !at_ || e == 5 then (([], []), 5) else if e ≠ 0 ∨ 64 < l.1.length then (([], []), 3) else ((l.1, name), 0)
structure Path where
  null : Bool
  post : Bool
  route : List (List UInt8)
  addr : Addr
deriving DecidableEq
def path0 : Path := ⟨false, false, [], ([], [])⟩
def routeParts : List (List UInt8) → Option (List (List UInt8))
  | [] => some []
  | p :: r => if p.headD 0 = 64 then (match routeParts r with | none => none | some l => some (p.tail :: l)) else none
/-- route: the domains, the rest, whether it is one. -/
def route (s : List UInt8) : List (List UInt8) × List UInt8 × Bool :=
  if s.headD 0 = 64 then (let r := cutB 58 s; if r.2.2 then (match routeParts (split 44 r.1) with | none => ([], [], false) | some l => (l, r.2.1, true)) else ([], [], false))
  else ([], s, true)
def idxB (c : UInt8) : List UInt8 → Option Nat
  | [] => none
  | x :: r => if x = c then some 0 else (idxB c r).map (· + 1)
def ends (s : List UInt8) : Option Nat :=
  let many := if s.headD 0 = 34 then (let q := quoted s; if q.2.2 = 0 then q.2.1 else 0) else 0
  (idxB 62 (s.drop many)).map (· + many)
/-- domains: what is wrong with a route's. -/
def domains (l : List (List UInt8)) : Int :=
  let es := l.map fun d => (parseA (120 :: 64 :: d)).2
  if es.contains 5 then 5 else if 8 < l.length then 3 else es.foldl max 0
def wPost : List UInt8 := [112, 111, 115, 116, 109, 97, 115, 116, 101, 114]
def parseP : List UInt8 → Path × List UInt8 × Int
  | [] => (path0, [], 5)
  | c :: inner => if c ≠ 60 then (path0, [], 5) else
    let r := route inner
    match r.2.2, ends r.2.1 with
    | true, some k =>
      let one := r.2.1.take k
      let behind := r.2.1.drop (k + 1)
      let wrong := domains r.1
      let x : Option (Path × Int) :=
        if one.isEmpty && r.1.isEmpty then some (⟨true, false, r.1, ([], [])⟩, wrong)
        else if low one == wPost && r.1.isEmpty then some (⟨false, true, r.1, ([], [])⟩, wrong)
        else (let a := parseA one; if a.2 = 5 ∨ wrong = 5 then none else some (⟨false, false, r.1, a.1⟩, max wrong a.2))
      match x with
      | none => (path0, [], 5)
      | some p => if p.2 ≠ 0 ∨ 256 < (c :: inner).length - behind.length then (path0, [], 3) else (p.1, behind, 0)
    | _, _ => (path0, [], 5)
def fromP (s : List UInt8) : Path × Pars × Int :=
  let r := parseP s
  let e := if r.2.2 = 0 ∧ r.1.post then 5 else r.2.2
  if e ≠ 0 then (path0, pars0, e) else
  let q := parseParams r.2.1
  if q.2 ≠ 0 then (path0, pars0, q.2) else (r.1, q.1, 0)
def toP (s : List UInt8) : Path × Int :=
  let r := parseP s
  let e := if r.2.2 = 0 ∧ r.1.null then 5 else r.2.2
  let e := if e = 0 ∧ r.2.1 ≠ [] then (let q := parseParams r.2.1; if q.2 = 0 then 1 else q.2) else e
  if e ≠ 0 then (path0, e) else (r.1, 0)
end Go.Proofs.YtgjlncfhghhaeaaGreatDoor.Sp
