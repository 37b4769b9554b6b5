/- What package tree computes, as plain functions on lists of nodes. No program stands here. -/
import Derived.Test.YtiflfnnnbgmomaaDoorLexS
namespace Go.Proofs.YtiflfnnnbgmomaaDoor
set_option linter.unusedVariables false
set_option linter.unusedSimpArgs false
structure Nd where
  kind : Int
  a : Int
  b : Int
  c : Int
  num : Int
  name : Bs
  x : Bs
  y : Bs
  z : Bs
  pos : Int
  deriving DecidableEq, Repr, Inhabited
structure OpD where
  name : Bs
  src : Int
  dst : Int
  deriving DecidableEq, Repr, Inhabited

/-- how many children a node of a kind has -/
def kidsN (k : Int) : Nat := if k = 3 ∨ k = 9 then 1 else if k = 4 ∨ k = 5 ∨ k = 6 ∨ k = 8 then 2 else if k = 7 ∨ k = 10 then 3 else 0
/-- a node's children's fields -/
def Nd.kids (n : Nd) : List Int := [n.a, n.b, n.c].take (kidsN n.kind)
/-- the places of the fields of a node's names -/
def nameOffs (k : Int) : List Nat := if k = 0 ∨ k = 9 then [5] else if k = 3 ∨ k = 5 then [6] else if k = 6 then [6, 7] else if k = 10 then [5, 6, 7, 8] else []
def Nd.names (n : Nd) : List Bs := if n.kind = 0 ∨ n.kind = 9 then [n.name] else if n.kind = 3 ∨ n.kind = 5 then [n.x] else if n.kind = 6 then [n.x, n.y] else if n.kind = 10 then [n.name, n.x, n.y, n.z] else []
def numbered (k : Int) : Bool := decide (k = 0) || decide (k = 9) || decide (k = 10)
def mostN (k : Int) : Int := if k = 1 then 1073741823 else if k = 2 then 1 else if k = 8 then 5 else -1
/-- without its names -/
def Nd.noNames (n : Nd) : Nd := if n.kind = 0 ∨ n.kind = 9 then { n with name := [] } else if n.kind = 3 ∨ n.kind = 5 then { n with x := [] } else if n.kind = 6 then { n with x := [], y := [] } else if n.kind = 10 then { n with name := [], x := [], y := [], z := [] } else n
def Nd.noKids (n : Nd) : Nd := if kidsN n.kind = 1 then { n with a := 0 } else if kidsN n.kind = 2 then { n with a := 0, b := 0 } else if kidsN n.kind = 3 then { n with a := 0, b := 0, c := 0 } else n
def Nd.bare (n : Nd) : Nd := ⟨n.kind, 0, 0, 0, 0, [], [], [], [], n.pos⟩
def Nd.noNum (n : Nd) (named : Bool) : Nd := if decide (0 ≤ mostN n.kind) || (!named && numbered n.kind) then { n with num := 0 } else n
/-- has a node just the fields that its kind names, such as may be? -/
def mayB (n : Nd) (named : Bool) : Bool :=
  !(decide (n.kind < 0) || decide (10 < n.kind) || decide (n.pos < 0) || decide (4096 < n.pos)) &&
  !(decide (0 ≤ mostN n.kind) && (decide (n.num < 0) || decide (mostN n.kind < n.num))) &&
  (!named || n.names.all nameMay) &&
  decide (((if named then n.noNames else n).noKids).noNum named = n.bare)

/-- where a node's part begins; -1: its children do not stand as they must. 'f': a bound on the steps. -/
def beginKids (g : Int → Int) : List Int → Int → Int
  | [], at_ => at_
  | k :: r, at_ => if at_ - 1 < 0 ∨ k ≠ at_ - 1 then -1 else if g (at_ - 1) < 0 then -1 else beginKids g r (g (at_ - 1))
def beginB (ns : List Nd) : Nat → Int → Int
  | 0, _ => -1
  | f + 1, at_ => beginKids (beginB ns f) ((ns.getD at_.toNat default).kids.reverse) at_
def shapedB (ns : List Nd) (named : Bool) : Bool :=
  !(decide (ns.length < 1) || decide (512 < ns.length)) && ns.all (mayB · named) && decide (beginB ns ns.length ((ns.length : Int) - 1) = 0)
def baseB (k : Int) : Bool := decide (k = 0) || decide (k = 1)
def opBad (o : OpD) : Bool := !nameMay o.name || !baseB o.src || !baseB o.dst
def opsMayB (os : List OpD) : Bool := decide (os.length ≤ 4) && !os.any opBad
structure Pg where
  ops : List OpD
  nodes : List Nd
  deriving DecidableEq, Repr, Inhabited
def Pg.may (p : Pg) : Bool := opsMayB p.ops && shapedB p.nodes true
end Go.Proofs.YtiflfnnnbgmomaaDoor
