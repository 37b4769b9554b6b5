/- What package parse computes, as plain functions. No program stands here. -/
import Derived.Test.YtiflfnnnbgmomaaDoorTreeS
namespace Go.Proofs.YtiflfnnnbgmomaaDoor
set_option linter.unusedVariables false
set_option linter.unusedSimpArgs false
/-- a parser: what is left of the tokens, where the text ends, operations, nodes, the first error -/
structure PS where
  ts : List Tok
  fin : Int
  ops : List OpD
  ns : List Nd
  err : Option (Int × Int)
  deriving DecidableEq, Repr, Inhabited
def PS.here (p : PS) : Int := match p.ts with | [] => p.fin | t :: _ => t.pos
def PS.fail (p : PS) (c : Int) : PS := match p.err with | some _ => p | none => { p with err := some (p.here, c) }
def PS.next (p : PS) : Option Tok := match p.err with | some _ => none | none => p.ts.head?
def PS.is (p : PS) (s : Bs) : Bool := match p.next with | some t => (decide (t.kind = 3) || decide (t.kind = 2)) && decide (t.text = s) | none => false
def PS.pop (p : PS) : PS := { p with ts := p.ts.tail }
def PS.take (p : PS) (s : Bs) : PS := if p.is s then p.pop else p
def PS.must (p : PS) (s : Bs) : PS := if p.is s then p.pop else p.fail 403
def PS.isName (p : PS) : Bool := match p.next with | some t => decide (t.kind = 0) | none => false
def PS.name (p : PS) : Bs × PS := if p.isName then ((p.ts.headD default).text, p.pop) else ([], p.fail 403)
def PS.bad (p : PS) : Bool := p.err.isSome
def PS.full (p : PS) : PS := if p.ns.length = 512 then p.fail 402 else p
def PS.put (p : PS) (x : Nd) : Int × PS := if p.full.bad then (0, p.full) else ((p.ns.length : Int), { p with ns := p.ns ++ [x] })
def wInt : Bs := [105, 110, 116]
def wBool : Bs := [98, 111, 111, 108]
def wOp : Bs := [111, 112]
def wColon : Bs := [58]
def wArrow : Bs := [45, 62]
def wSemi : Bs := [59]
def wFun : Bs := [102, 117, 110]
def wLet : Bs := [108, 101, 116]
def wRec : Bs := [114, 101, 99]
def wIs : Bs := [61]
def wIn : Bs := [105, 110]
def wIf : Bs := [105, 102]
def wThen : Bs := [116, 104, 101, 110]
def wElse : Bs := [101, 108, 115, 101]
def wDo : Bs := [100, 111]
def wTrue : Bs := [116, 114, 117, 101]
def wFalse : Bs := [102, 97, 108, 115, 101]
def wOpen : Bs := [40]
def wShut : Bs := [41]
def wHandle : Bs := [104, 97, 110, 100, 108, 101]
def wWith : Bs := [119, 105, 116, 104]
def wReturn : Bs := [114, 101, 116, 117, 114, 110]
def wEnd : Bs := [101, 110, 100]
def PS.base (p : PS) : Int × PS := if p.is wInt then (0, p.pop) else (1, p.must wBool)
def PS.op (p : PS) : PS :=
  if p.ops.length = 4 then p.fail 402 else
    let (n, p) := (p.must wOp).name
    let (a, p) := (p.must wColon).base
    let (b, p) := (p.must wArrow).base
    let p := p.must wSemi
    { p with ops := p.ops ++ [⟨n, a, b⟩] }
def PS.opsGo : Nat → PS → PS
  | 0, p => p
  | n + 1, p => if p.is wOp then p.op.opsGo n else p
abbrev Inner := PS → Int × PS
def thenB (inner : Inner) (p : PS) (s : Bs) : Int × PS := inner (p.must s)
def starts (p : PS) : Bool := match p.next with
  | none => false
  | some t => decide (t.kind = 0) || decide (t.kind = 1) || p.is wTrue || p.is wFalse || p.is wOpen || p.is wHandle
def nd0 (pos : Int) : Nd := ⟨0, 0, 0, 0, 0, [], [], [], [], pos⟩
def handleB (inner : Inner) (p : PS) (x : Nd) : Nd × PS :=
  let (a, p) := inner p
  let (nm, p) := (p.must wWith).name
  let (x1, p) := p.name
  let (x2, p) := p.name
  let (b, p) := thenB inner p wArrow
  let (x3, p) := (p.must wReturn).name
  let (c, p) := thenB inner p wArrow
  ({ x with kind := 10, a := a, name := nm, x := x1, y := x2, b := b, z := x3, c := c }, p.must wEnd)
def atomB (inner : Inner) (p : PS) : Int × PS :=
  if !starts p then (0, p.fail 403) else
  let x := nd0 p.here
  let t := p.ts.headD default
  if t.kind = 0 then p.pop.put { x with name := t.text }
  else if t.kind = 1 then p.pop.put { x with kind := 1, num := (t.num : Int) }
  else if p.is wOpen then
    let (a, p) := inner p.pop
    (a, p.must wShut)
  else if p.is wHandle then
    let (y, p) := handleB inner p.pop x
    p.put y
  else if p.is wTrue then p.pop.put { x with kind := 2, num := 1 }
  else (p.take wFalse).put { x with kind := 2 }
def applyGo (inner : Inner) (at_ : Int) : Nat → Int → PS → Int × PS
  | 0, a, p => (a, p)
  | n + 1, a, p => if starts p then
      let (b, p) := atomB inner p
      let (a, p) := p.put { nd0 at_ with kind := 4, a := a, b := b }
      applyGo inner at_ n a p
    else (a, p)
def headB (inner : Inner) (p : PS) : Int × PS :=
  if p.is wDo then
    let (nm, q) := p.pop.name
    let (a, q) := atomB inner q
    q.put { nd0 p.here with kind := 9, name := nm, a := a }
  else atomB inner p
def applyB (inner : Inner) (p : PS) : Int × PS :=
  let (a, q) := headB inner p
  applyGo inner p.here q.ts.length a q
def primsL : List Bs := [[43], [45], [42], [47], [61, 61], [60]]
def levelL : Nat → List Nat
  | 0 => [4, 5]
  | 1 => [0, 1]
  | 2 => [2, 3]
  | _ => []
def primB (p : PS) (l : Nat) : Option Nat := (levelL l).find? fun i => p.is (primsL.getD i [])
def levelGo (up : Inner) (l : Nat) : Nat → Int → PS → Int × PS
  | 0, a, p => (a, p)
  | n + 1, a, p => match primB p l with
    | none => (a, p)
    | some k =>
      let (b, q) := up p.pop
      let (a, q) := q.put { nd0 p.here with kind := 8, num := (k : Int), a := a, b := b }
      if l = 0 then (a, q) else levelGo up l n a q
def levelUp (up : Inner) (l : Nat) (p : PS) : Int × PS :=
  let (a, q) := up p
  levelGo up l q.ts.length a q
def level0 (inner : Inner) : Inner := levelUp (levelUp (levelUp (applyB inner) 2) 1) 0
def funB (inner : Inner) (p : PS) : Int × PS :=
  let (nm, q) := p.pop.name
  let (a, q) := thenB inner q wArrow
  q.put { nd0 p.here with kind := 3, x := nm, a := a }
def letB (inner : Inner) (p : PS) : Int × PS :=
  let q := p.pop
  let r := q.is wRec
  let q := q.take wRec
  let (x, q) := q.name
  let (y, q) := if r then q.name else ([], q)
  let (a, q) := thenB inner q wIs
  let (b, q) := thenB inner q wIn
  q.put { nd0 p.here with kind := if r then 6 else 5, x := x, y := y, a := a, b := b }
def ifB (inner : Inner) (p : PS) : Int × PS :=
  let (a, q) := inner p.pop
  let (b, q) := thenB inner q wThen
  let (c, q) := thenB inner q wElse
  q.put { nd0 p.here with kind := 7, a := a, b := b, c := c }
def exprB (inner : Inner) (p : PS) : Int × PS :=
  if p.is wFun then funB inner p
  else if p.is wLet then letB inner p
  else if p.is wIf then ifB inner p
  else level0 inner p
def innerB : Nat → PS → Int × PS
  | 0, p => (0, p.fail 401)
  | d + 1, p => if p.bad then (0, p) else exprB (innerB d) p
/-- behind the operations -/
def progB (p : PS) : PS :=
  let (_, p) := innerB 40 p
  if p.next.isSome then p.fail 403 else p
def parseTs (ts : List Tok) (n : Nat) : Except (Int × Int) Pg :=
  let p := progB ((⟨ts, (n : Int), [], [], none⟩ : PS).opsGo 6)
  match p.err with
  | some e => .error e
  | none => .ok ⟨p.ops, p.ns⟩
def parseB (s : Bs) : Except (Int × Int) Pg :=
  match lexB s with
  | .error (at_, _) => .error ((at_ : Int), 400)
  | .ok ts => parseTs ts s.length
end Go.Proofs.YtiflfnnnbgmomaaDoor
