/- What package lex and package source compute, as plain functions on lists of bytes. No program stands here. -/
namespace Go.Proofs.YtiflfnnnbgmomaaDoor
set_option linter.unusedVariables false
set_option linter.unusedSimpArgs false
abbrev Bs := List UInt8
def tl (s : ByteArray) : Bs := s.data.toList
def ba (l : Bs) : ByteArray := ⟨l.toArray⟩
@[simp] theorem tl_ba (l : Bs) : tl (ba l) = l := by simp [tl, ba]
@[simp] theorem ba_tl (s : ByteArray) : ba (tl s) = s := by simp [tl, ba]
theorem tl_length (s : ByteArray) : (tl s).length = s.size := by simp [tl]
theorem tl_inj {s t : ByteArray} (h : tl s = tl t) : s = t := by rw [← ba_tl s, h, ba_tl]
theorem ba_inj {s t : Bs} (h : ba s = ba t) : s = t := by rw [← tl_ba s, h, tl_ba]
theorem ba_size (l : Bs) : (ba l).size = l.length := by rw [← tl_length, tl_ba]

def lettersL : Bs := [97,98,99,100,101,102,103,104,105,106,107,108,109,110,111,112,113,114,115,116,117,118,119,120,121,122]
def digitsL : Bs := [48,49,50,51,52,53,54,55,56,57]
def moreL : Bs := lettersL ++ digitsL ++ [95]
def signsL : Bs := [40,41,61,43,45,42,47,60,59,58]
def blanksL : Bs := [32,9,10]
def kwL : List Bs := [[102,117,110],[108,101,116],[114,101,99],[105,110],[105,102],[116,104,101,110],[101,108,115,101],[104,97,110,100,108,101],[119,105,116,104],[114,101,116,117,114,110],[101,110,100],[100,111],[111,112],[116,114,117,101],[102,97,108,115,101],[105,110,116],[98,111,111,108]]

/-- is a byte one of some? -/
def ofB (c : UInt8) (some : Bs) : Bool := some.contains c
/-- the longest beginning that is of some bytes -/
def runB (s some : Bs) : Bs := s.takeWhile fun c => ofB c some
def kwB (s : Bs) : Bool := kwL.contains s
def headIn (s some : Bs) : Bool := match s with | [] => false | c :: _ => ofB c some
def nameMay (s : Bs) : Bool := !s.isEmpty && decide (s.length ≤ 16) && headIn s lettersL && (runB s moreL == s) && !kwB s
def numGo : Nat → Bs → Option Nat
  | x, [] => some x
  | x, c :: r => if 10 * x + (c.toNat - 48) > 1073741823 then none else numGo (10 * x + (c.toNat - 48)) r
def numB (s : Bs) : Option Nat :=
  if runB s digitsL != s || (decide (s.length > 1) && headIn s [48]) then none else numGo 0 s

structure Tok where
  kind : Nat
  text : Bs
  num : Nat
  pos : Nat
  deriving DecidableEq, Repr, Inhabited

/-- the token that a text begins with, and how many bytes it has; or the error's number -/
def tokenB (s : Bs) : Except Nat (Tok × Nat) :=
  let w := runB s moreL
  if w.isEmpty || headIn w [95] then
    let n := if [45, 62].isPrefixOf s || [61, 61].isPrefixOf s then 2 else 1
    if headIn s signsL then .ok (⟨3, s.take n, 0, 0⟩, n) else .error 201
  else if headIn w digitsL then
    match numB w with
    | none => .error 202
    | some x => .ok (⟨1, [], x, 0⟩, w.length)
  else if kwB w then .ok (⟨2, w, 0, 0⟩, w.length)
  else if nameMay w then .ok (⟨0, w, 0, 0⟩, w.length)
  else .error 201

/-- what stands from a place on, its tokens behind those that were read; or a place and an error's number -/
def lexGo : Nat → Bs → Nat → List Tok → Except (Nat × Nat) (List Tok)
  | 0, _, _, acc => .ok acc
  | _ + 1, [], _, acc => .ok acc
  | f + 1, c :: r, at_, acc =>
    if ofB c blanksL then lexGo f r (at_ + 1) acc
    else if c == 35 then lexGo f ((c :: r).dropWhile (· != 10)) (at_ + ((c :: r).takeWhile (· != 10)).length) acc
    else match tokenB (c :: r) with
      | .error e => .error (at_, e)
      | .ok (t, n) => lexGo f ((c :: r).drop n) (at_ + n) (acc ++ [{ t with pos := at_ }])

/-- of a first byte: how many bytes its sign has, and what the second one may be -/
def leadN (b : Nat) : Nat × Nat × Nat :=
  if b < 128 then (1, 0, 0)
  else if b < 194 ∨ 244 < b then (0, 0, 0)
  else if b < 224 then (2, 128, 191)
  else if b = 224 then (3, 160, 191)
  else if b < 237 then (3, 128, 191)
  else if b = 237 then (3, 128, 159)
  else if b < 240 then (3, 128, 191)
  else if b = 240 then (4, 144, 191)
  else if b = 244 then (4, 128, 143)
  else (4, 128, 191)
def leadB (b : UInt8) : Nat × Nat × Nat := leadN b.toNat
def tailB (b : UInt8) : Bool := decide (128 ≤ b.toNat) && decide (b.toNat ≤ 191)
def goodB (n lo hi : Nat) (s : Bs) : Bool :=
  (n != 4 || tailB (s.getD 3 0)) && (n < 3 || tailB (s.getD 2 0)) && (n < 2 || (decide (lo ≤ (s.getD 1 0).toNat) && decide ((s.getD 1 0).toNat ≤ hi)))
def widthB (s : Bs) : Nat :=
  match s with
  | [] => 0
  | c :: _ => if s.length < (leadB c).1 then 0 else if goodB (leadB c).1 (leadB c).2.1 (leadB c).2.2 s then (leadB c).1 else 0
/-- where a text is no UTF-8 -/
def validGo : Nat → Bs → Nat → Option Nat
  | 0, _, _ => none
  | _ + 1, [], _ => none
  | f + 1, c :: r, at_ => if widthB (c :: r) = 0 then some at_ else validGo f ((c :: r).drop (widthB (c :: r))) (at_ + widthB (c :: r))
def validB (s : Bs) : Option Nat := validGo s.length s 0

def lexB (s : Bs) : Except (Nat × Nat) (List Tok) :=
  if s.length > 4096 then .error (0, 200)
  else match validB s with
    | some at_ => .error (at_, 200)
    | none => lexGo s.length s 0 []
end Go.Proofs.YtiflfnnnbgmomaaDoor
