/- Words for the walks of package parse: a variable of the caller's beside a parser. -/
import Derived.Test.YtiflfnnnbgmomaaDoorParseE
namespace Go.Proofs.YtiflfnnnbgmomaaDoor
set_option linter.unusedVariables false
set_option linter.unusedSimpArgs false
open Go.RowKit
set_option maxRecDepth 100000

/-- since w0: a parser, and a block of the caller's that holds cs -/
structure Loc (w0 w : World) (pb : Nat) (p : PS) (deep : Int) (L : Nat → Prop) (bx : Nat) (t : TypeId) (cs : Array Value) : Prop where
  at_ : PAt w pb p deep (More L bx)
  blk : Blk w bx t cs
  keep : KeepOn L w0 w
  fresh : ¬ L bx
  gt : pb < bx
section
variable {w0 w w' : World} {pb : Nat} {p p' : PS} {deep : Int} {L : Nat → Prop} {bx : Nat} {t : TypeId} {cs : Array Value}
theorem Loc.start (h : PAt w pb p deep L) (k : KeepOn L w0 w) (h0 : ∀ k, L k → k < w0.heap.size) (cs : Array Value) (t : TypeId) : Loc w0 (w.alloc (.cells cs t)) pb p deep L w.heap.size t cs :=
  ⟨h.more _, Blk.new w t cs, k.alloc h0 _, fun hL => by have := (h.loc hL).1; omega, h.lt⟩
theorem Loc.call (h : Loc w0 w pb p deep L bx t cs) (h' : PAt w' pb p' deep (More L bx)) (k : KeepOn (More L bx) w w') : Loc w0 w' pb p' deep L bx t cs :=
  ⟨h', k.blk .new h.blk, h.keep.trans (k.sub fun _ hk => .inl hk), h.fresh, h.gt⟩
theorem Loc.set (h : Loc w0 w pb p deep L bx t cs) (i : Nat) (v : Value) : Loc w0 (w.setCell ⟨bx, i, none⟩ v) pb p deep L bx t (cs.setIfInBounds i v) :=
  ⟨h.at_.local_ (a := ⟨bx, i, none⟩) .new h.gt v, h.blk.set_ i v, h.keep.setCell (p := ⟨bx, i, none⟩) h.fresh v, h.fresh, h.gt⟩
theorem Loc.drew (h : Loc w0 w pb p deep L bx t cs) : Loc w0 w.drew pb p deep L bx t cs := ⟨h.at_.drew, h.blk.drew, h.keep.drew, h.fresh, h.gt⟩
theorem Loc.alloc (h : Loc w0 w pb p deep L bx t cs) (h0 : ∀ k, L k → k < w0.heap.size) (o : Obj) : Loc w0 (w.alloc o) pb p deep L bx t cs :=
  ⟨h.at_.alloc o, h.blk.alloc o, h.keep.alloc h0 o, h.fresh, h.gt⟩
theorem Loc.done (h : Loc w0 w pb p deep L bx t cs) (hl : ∀ k, k < pb → L k) : PAt w pb p deep L ∧ KeepOn L w0 w := ⟨h.at_.less hl, h.keep⟩
end
/-- .. the block holds a node -/
abbrev LocN (w0 w : World) (pb : Nat) (p : PS) (deep : Int) (L : Nat → Prop) (bx : Nat) (x : Nd) : Prop := Loc w0 w pb p deep L bx 24 (ndArr x)
section
variable {w0 w w' : World} {pb : Nat} {p p' : PS} {deep : Int} {L : Nat → Prop} {bx : Nat} {x : Nd}
theorem LocN.kind_ (h : LocN w0 w pb p deep L bx x) (v : Int) : LocN w0 (w.setCell ⟨bx, 0, none⟩ (.int .i64 v)) pb p deep L bx { x with kind := v } := Loc.set h 0 _
theorem LocN.a_ (h : LocN w0 w pb p deep L bx x) (v : Int) : LocN w0 (w.setCell ⟨bx, 1, none⟩ (.int .i64 v)) pb p deep L bx { x with a := v } := Loc.set h 1 _
theorem LocN.b_ (h : LocN w0 w pb p deep L bx x) (v : Int) : LocN w0 (w.setCell ⟨bx, 2, none⟩ (.int .i64 v)) pb p deep L bx { x with b := v } := Loc.set h 2 _
theorem LocN.c_ (h : LocN w0 w pb p deep L bx x) (v : Int) : LocN w0 (w.setCell ⟨bx, 3, none⟩ (.int .i64 v)) pb p deep L bx { x with c := v } := Loc.set h 3 _
theorem LocN.num_ (h : LocN w0 w pb p deep L bx x) (v : Int) : LocN w0 (w.setCell ⟨bx, 4, none⟩ (.int .i64 v)) pb p deep L bx { x with num := v } := Loc.set h 4 _
theorem LocN.name_ (h : LocN w0 w pb p deep L bx x) (v : Bs) : LocN w0 (w.setCell ⟨bx, 5, none⟩ (.string (ba v))) pb p deep L bx { x with name := v } := Loc.set h 5 _
theorem LocN.x_ (h : LocN w0 w pb p deep L bx x) (v : Bs) : LocN w0 (w.setCell ⟨bx, 6, none⟩ (.string (ba v))) pb p deep L bx { x with x := v } := Loc.set h 6 _
theorem LocN.y_ (h : LocN w0 w pb p deep L bx x) (v : Bs) : LocN w0 (w.setCell ⟨bx, 7, none⟩ (.string (ba v))) pb p deep L bx { x with y := v } := Loc.set h 7 _
theorem LocN.z_ (h : LocN w0 w pb p deep L bx x) (v : Bs) : LocN w0 (w.setCell ⟨bx, 8, none⟩ (.string (ba v))) pb p deep L bx { x with z := v } := Loc.set h 8 _
end
end Go.Proofs.YtiflfnnnbgmomaaDoor
