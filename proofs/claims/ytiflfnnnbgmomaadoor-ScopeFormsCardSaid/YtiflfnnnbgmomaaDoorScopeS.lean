/- What package scope computes, as plain functions. No program stands here. -/
import Derived.Test.YtiflfnnnbgmomaaDoorTreeS
namespace Go.Proofs.YtiflfnnnbgmomaaDoor
/-- have two operations one name? 'seen': those before. -/
def twiceGo : List Bs → List OpD → Bool
  | _, [] => false
  | seen, o :: r => if seen.contains o.name then true else twiceGo (seen ++ [o.name]) r
def twiceB (os : List OpD) : Bool := twiceGo [] os
/-- how many names a node of a kind binds in each of its children -/
def bindsN (k : Int) : Nat → Nat
  | 0 => if k = 3 then 1 else if k = 6 then 2 else 0
  | 1 => if k = 5 then 1 else if k = 6 then 1 else if k = 10 then 2 else 0
  | 2 => if k = 10 then 1 else 0
  | _ => 0
/-- the names that a node binds in a child, the innermost one last -/
def boundB (n : Nd) (child : Nat) : List Bs := (if n.kind = 10 ∧ child = 2 then [n.z] else [n.x, n.y]).take (bindsN n.kind child)
/-- the first place of a text in a row; -1: nowhere -/
def idxS (l : List Bs) (s : Bs) : Int := match l.findIdx? (fun x => decide (x = s)) with | some i => (i : Int) | none => -1
def idxO (os : List OpD) (s : Bs) : Int := match os.findIdx? (fun o => decide (o.name = s)) with | some i => (i : Int) | none => -1
def Nd.bald (n : Nd) : Nd := { n with name := [], x := [], y := [], z := [] }
/-- the children of a node, one by one, each within its names; the nodes, and the first error -/
def resKids (g : List Nd → Int → List Bs → List Nd × Option (Int × Int)) (x : Nd) (env : List Bs) : Nat → List Int → List Nd → List Nd × Option (Int × Int)
  | _, [], ns => (ns, none)
  | i, k :: r, ns =>
    match g ns k (env ++ boundB x i) with
    | (ns', some e) => (ns', some e)
    | (ns', none) => resKids g x env (i + 1) r ns'
def resB (os : List OpD) : Nat → List Nd → Int → List Bs → List Nd × Option (Int × Int)
  | 0, ns, _, _ => (ns, none)
  | f + 1, ns, at_, env =>
    let x := ns.getD at_.toNat default
    let num := if x.kind = 0 then idxS env.reverse x.name else if x.kind = 9 ∨ x.kind = 10 then idxO os x.name else x.num
    let ns' := ns.set at_.toNat { x.bald with num := num }
    if x.kind = 0 ∧ num < 0 then (ns', some (x.pos, 601))
    else if (x.kind = 9 ∨ x.kind = 10) ∧ num < 0 then (ns', some (x.pos, 602))
    else resKids (resB os f) x env 0 x.kids ns'
/-- a program resolved, or a place and an error's number -/
def resolveB (p : Pg) : Except (Int × Int) Pg :=
  if !p.may then .error (0, 600)
  else if twiceB p.ops then .error (0, 602)
  else match resB p.ops p.nodes.length p.nodes ((p.nodes.length : Int) - 1) [] with
    | (_, some e) => .error e
    | (ns, none) => .ok ⟨p.ops, ns⟩
/-- are a node's numbers such as may be, within so many names? -/
def withinKids (g : Int → Nat → Bool) (x : Nd) (names : Nat) : Nat → List Int → Bool
  | _, [] => true
  | i, k :: r => if g k (names + bindsN x.kind i) then withinKids g x names (i + 1) r else false
def withinB (p : Pg) : Nat → Int → Nat → Bool
  | 0, _, _ => true
  | f + 1, at_, names =>
    let x := p.nodes.getD at_.toNat default
    let most : Int := if x.kind = 0 then names else p.ops.length
    if numbered x.kind && (decide (x.num < 0) || decide (most ≤ x.num)) then false
    else withinKids (withinB p f) x names 0 x.kids
def scopeMayB (p : Pg) : Bool := opsMayB p.ops && !twiceB p.ops && shapedB p.nodes false && withinB p p.nodes.length ((p.nodes.length : Int) - 1) 0
end Go.Proofs.YtiflfnnnbgmomaaDoor
