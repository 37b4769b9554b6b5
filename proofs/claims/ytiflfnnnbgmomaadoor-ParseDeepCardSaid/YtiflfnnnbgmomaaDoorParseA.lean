/- Words for the walks of package parse: a parser in memory, what a caller keeps. -/
import Derived.Test.YtiflfnnnbgmomaaDoorTreeK
import Derived.Test.YtiflfnnnbgmomaaDoorRowIs
import Derived.Test.YtiflfnnnbgmomaaDoorParseS
namespace Go.Proofs.YtiflfnnnbgmomaaDoor
set_option linter.unusedVariables false
set_option linter.unusedSimpArgs false
open Go.RowKit
set_option maxRecDepth 100000

/-- the blocks of L are as they were -/
structure KeepOn (L : Nat → Prop) (w w' : World) : Prop where
  os : w'.os = w.os
  tape : w'.tape = w.tape
  output : w'.output = w.output
  size : w.heap.size ≤ w'.heap.size
  block : ∀ k, L k → w'.heap[k]? = w.heap[k]?
theorem KeepOn.refl (L : Nat → Prop) (w : World) : KeepOn L w w := ⟨rfl, rfl, rfl, Nat.le_refl _, fun _ _ => rfl⟩
theorem KeepOn.trans {L : Nat → Prop} {a b c : World} (h : KeepOn L a b) (k : KeepOn L b c) : KeepOn L a c :=
  ⟨k.os.trans h.os, k.tape.trans h.tape, k.output.trans h.output, Nat.le_trans h.size k.size, fun i hi => (k.block i hi).trans (h.block i hi)⟩
theorem KeepOn.sub {L L' : Nat → Prop} {a b : World} (h : KeepOn L a b) (hs : ∀ k, L' k → L k) : KeepOn L' a b := ⟨h.os, h.tape, h.output, h.size, fun k hk => h.block k (hs k hk)⟩
theorem KeepOn.alloc {L : Nat → Prop} {a b : World} (h : KeepOn L a b) (hL : ∀ k, L k → k < a.heap.size) (o : Obj) : KeepOn L a (b.alloc o) :=
  ⟨h.os, h.tape, h.output, Nat.le_trans h.size (by simp), fun k hk => (Below.heap_alloc b o k (Nat.lt_of_lt_of_le (hL k hk) h.size)).trans (h.block k hk)⟩
theorem KeepOn.setCell {L : Nat → Prop} {a b : World} (h : KeepOn L a b) {p : Addr} (hp : ¬ L p.block) (v : Value) : KeepOn L a (b.setCell p v) :=
  ⟨h.os, h.tape, h.output, by simpa [World.setCell] using h.size, fun k hk => (Below.heap_setCell b p v k (fun e => hp (e ▸ hk))).trans (h.block k hk)⟩
theorem KeepOn.drew {L : Nat → Prop} {a b : World} (h : KeepOn L a b) : KeepOn L a b.drew := ⟨h.os, h.tape, h.output, h.size, h.block⟩
theorem KeepOn.drewN {L : Nat → Prop} {a b : World} (h : KeepOn L a b) (n : Nat) : KeepOn L a (b.drewN n) := ⟨h.os, h.tape, h.output, h.size, h.block⟩
theorem KeepOn.blk {L : Nat → Prop} {a b : World} (h : KeepOn L a b) {k : Nat} (hk : L k) {t : TypeId} {cs : Array Value} (hb : Blk a k t cs) : Blk b k t cs := (h.block k hk).trans hb
theorem KeepOn.cell {L : Nat → Prop} {a b : World} (h : KeepOn L a b) {p : Addr} (hk : L p.block) : b.cell? p = a.cell? p := World.cell?_of_block (h.block _ hk)
theorem KeepOn.of_grown {L : Nat → Prop} {a b : World} {row : Option Nat} (h : a.grownBy b row) (hL : ∀ k, L k → k < a.heap.size ∧ some k ≠ row) : KeepOn L a b :=
  ⟨h.os, h.tape, h.output, h.size, fun k hk => h.block k (hL k hk).1 (hL k hk).2⟩
theorem KeepOn.below {L : Nat → Prop} {a b : World} {B : Nat} (h : KeepOn L a b) (hL : ∀ k, k < B → L k) : Below B a b := ⟨h.os, h.tape, h.output, h.size, fun k hk => h.block k (hL k hk)⟩
theorem KeepOn.of_below {L : Nat → Prop} {a b : World} (h : Below a.heap.size a b) (hL : ∀ k, L k → k < a.heap.size) : KeepOn L a b := ⟨h.os, h.tape, h.output, h.size, fun k hk => h.block k (hL k hk)⟩

/-- the error that a parser has noted -/
def ErrV (w : World) (pb : Nat) (L : Nat → Prop) (o : Option (Int × Int)) (v : Value) : Prop :=
  match o with
  | none => v = .nilIface
  | some (a, c) => ∃ g e, v = .iface 91 (.pointer (some ⟨g, 0, none⟩)) ∧ pb < g ∧ ¬ L g ∧ Blk w g 96 #[.int .i64 a, e] ∧ ErrIs e c
/-- what a parser's fields lead to -/
structure PRest (w : World) (pb : Nat) (p : PS) (L : Nat → Prop) (A : Option Addr) (cap : Nat) (ov nv ev : Value) : Prop where
  toks : RowIs tokCells 4 w pb A p.ts
  capl : p.ts.length ≤ cap
  small : p.ts.length ≤ 1000000
  ops : w.ownsRow (pb + 1) 36 3 ov p.ops.length (p.ops.flatMap opCells)
  nds : w.ownsRow (pb + 1) 24 10 nv p.ns.length (p.ns.flatMap ndCells)
  opl : p.ops.length ≤ 4
  ndl : p.ns.length ≤ 512
  err : ErrV w pb L p.err ev
  loc : ∀ k, L k → k < w.heap.size ∧ k ≠ pb ∧ nv.ownBlock ≠ some k ∧ ov.ownBlock ≠ some k
  low : ∀ k, k < pb → L k
  lt : pb < w.heap.size
/-- a parser's fields -/
def pFields (p : PS) (deep : Int) (A : Option Addr) (cap : Nat) (ov nv ev : Value) : Array Value := #[.slice A p.ts.length cap, .int .i64 p.fin, ov, nv, ev, .int .i64 deep]
def PIn (w : World) (pb : Nat) (p : PS) (deep : Int) (L : Nat → Prop) (A : Option Addr) (cap : Nat) (ov nv ev : Value) : Prop :=
  Blk w pb 79 (pFields p deep A cap ov nv ev) ∧ PRest w pb p L A cap ov nv ev
/-- a parser in memory; L: the blocks that it does not write -/
def PAt (w : World) (pb : Nat) (p : PS) (deep : Int) (L : Nat → Prop) : Prop := ∃ A cap ov nv ev, PIn w pb p deep L A cap ov nv ev

theorem Blk.c6 {w : World} {g : Nat} {t : TypeId} {a b c d e f : Value} (h : Blk w g t #[a, b, c, d, e, f]) :
    w.cell? ⟨g, 0, none⟩ = some a ∧ w.cell? ⟨g, 1, none⟩ = some b ∧ w.cell? ⟨g, 2, none⟩ = some c ∧ w.cell? ⟨g, 3, none⟩ = some d ∧ w.cell? ⟨g, 4, none⟩ = some e ∧ w.cell? ⟨g, 5, none⟩ = some f ∧ ∀ i, w.frozen? ⟨g, i, none⟩ = false :=
  ⟨by rw [h.cell]; rfl, by rw [h.cell]; rfl, by rw [h.cell]; rfl, by rw [h.cell]; rfl, by rw [h.cell]; rfl, by rw [h.cell]; rfl, h.frozen⟩
section
variable {w w' : World} {pb : Nat} {p q : PS} {deep : Int} {L : Nat → Prop} {A : Option Addr} {cap : Nat} {ov nv ev : Value}
theorem ErrV.keep {o : Option (Int × Int)} {v : Value} (h : ErrV w pb L o v) {row : Option Nat} (hk : w.grownBy w' row) (hr : ∀ g, row = some g → g ≤ pb) : ErrV w' pb L o v := by
  cases o with
  | none => exact h
  | some x =>
    obtain ⟨g, e, hv, hg, hL, hB, hE⟩ := h
    exact ⟨g, e, hv, hg, hL, hB.grown hk (fun e => by have := hr g e.symm; omega), hE⟩
theorem ErrV.kept {o : Option (Int × Int)} {v : Value} (h : ErrV w pb L o v) {row : Option Nat} (hk : w.grownBy w' row) (hr : ∀ g a e, Blk w g 96 #[.int .i64 a, e] → row ≠ some g) : ErrV w' pb L o v := by
  cases o with
  | none => exact h
  | some x =>
    obtain ⟨g, e, hv, hg, hL, hB, hE⟩ := h
    exact ⟨g, e, hv, hg, hL, hB.grown hk (Ne.symm (hr g _ _ hB)), hE⟩
theorem ErrV.sub {L' : Nat → Prop} {o : Option (Int × Int)} {v : Value} (h : ErrV w pb L o v) (hs : ∀ k, k < w.heap.size → L' k → L k) : ErrV w pb L' o v := by
  cases o with
  | none => exact h
  | some x =>
    obtain ⟨g, e, hv, hg, hL, hB, hE⟩ := h
    exact ⟨g, e, hv, hg, fun h => hL (hs g hB.lt h), hB, hE⟩
theorem ownBlock_ge {base e size n : Nat} {v : Value} {xs : List Value} (h : w.ownsRow (pb + 1) e size v n xs) : v.ownBlock ≠ some pb := by
  intro he
  have := own_ge h pb he
  omega
theorem ownBlock_ge' {e size n : Nat} {v : Value} {xs : List Value} (h : w.ownsRow (pb + 1) e size v n xs) : v.ownBlock ≠ some pb := by
  intro he
  have := own_ge h pb he
  omega
/-- only the parser's own block has turned, and what is new -/
theorem PRest.keep (h : PRest w pb p L A cap ov nv ev) (hk : w.grownBy w' (some pb)) : PRest w' pb p L A cap ov nv ev :=
  ⟨h.toks.keep fun a ha => World.cell?_of_block (hk.block _ (Nat.lt_trans ha h.lt) (fun e => by injection e with e; omega)), h.capl, h.small,
   h.ops.kept hk (.inr (ownBlock_ge' h.ops)), h.nds.kept hk (.inr (ownBlock_ge' h.nds)), h.opl, h.ndl, h.err.keep hk (fun g e => by injection e with e; omega),
   fun k hL => ⟨Nat.lt_of_lt_of_le (h.loc k hL).1 hk.size, (h.loc k hL).2⟩, h.low, Nat.lt_of_lt_of_le h.lt hk.size⟩
theorem PAt.lt (h : PAt w pb p deep L) : pb < w.heap.size := by obtain ⟨A, cap, ov, nv, ev, hB, hR⟩ := h; exact hR.lt
theorem PAt.loc (h : PAt w pb p deep L) {k : Nat} (hk : L k) : k < w.heap.size ∧ k ≠ pb := by obtain ⟨A, cap, ov, nv, ev, hB, hR⟩ := h; exact ⟨(hR.loc k hk).1, (hR.loc k hk).2.1⟩
theorem PAt.low (h : PAt w pb p deep L) {k : Nat} (hk : k < pb) : L k := by obtain ⟨A, cap, ov, nv, ev, hB, hR⟩ := h; exact hR.low k hk
theorem PAt.drew (h : PAt w pb p deep L) : PAt w.drew pb p deep L := by
  obtain ⟨A, cap, ov, nv, ev, hB, hR⟩ := h
  exact ⟨A, cap, ov, nv, ev, hB.drew, hR.keep (only_drew (World.grownBy.refl _ _))⟩
/-- a block more that the parser does not write -/
def More (L : Nat → Prop) (b : Nat) : Nat → Prop := fun k => L k ∨ k = b
theorem More.new {L : Nat → Prop} {b : Nat} : More L b b := .inr rfl
theorem More.old {L : Nat → Prop} {b k : Nat} (h : L k) : More L b k := .inl h
theorem PRest.more (h : PRest w pb p L A cap ov nv ev) (o : Obj) : PRest (w.alloc o) pb p (More L w.heap.size) A cap ov nv ev := by
  have h1 := h.keep (w' := w.alloc o) (only_alloc (World.grownBy.refl _ _) o)
  refine ⟨h1.toks, h1.capl, h1.small, h1.ops, h1.nds, h1.opl, h1.ndl, ErrV.kept (w := w) (h.err.sub fun k hk hm => ?_) (only_alloc (World.grownBy.refl w none) o) (fun g a e _ h => by cases h), fun k hk => ?_, fun k hk => .inl (h.low k hk), h1.lt⟩
  · rcases hm with hm | rfl
    · exact hm
    · omega
  · rcases hk with hk | rfl
    · exact h1.loc k hk
    · refine ⟨by simp, fun e => by have := h.lt; omega, fun e => ?_, fun e => ?_⟩
      · have := own_lt h.nds _ e; omega
      · have := own_lt h.ops _ e; omega
theorem PAt.more (h : PAt w pb p deep L) (o : Obj) : PAt (w.alloc o) pb p deep (More L w.heap.size) := by
  obtain ⟨A, cap, ov, nv, ev, hB, hR⟩ := h
  exact ⟨A, cap, ov, nv, ev, hB.alloc o, hR.more o⟩
theorem PRest.sub {L' : Nat → Prop} (h : PRest w pb p L A cap ov nv ev) (hs : ∀ k, L' k → L k) (hl : ∀ k, k < pb → L' k) : PRest w pb p L' A cap ov nv ev :=
  ⟨h.toks, h.capl, h.small, h.ops, h.nds, h.opl, h.ndl, h.err.sub fun k _ => hs k, fun k hk => h.loc k (hs k hk), hl, h.lt⟩
theorem PAt.sub {L' : Nat → Prop} (h : PAt w pb p deep L) (hs : ∀ k, L' k → L k) (hl : ∀ k, k < pb → L' k) : PAt w pb p deep L' := by
  obtain ⟨A, cap, ov, nv, ev, hB, hR⟩ := h
  exact ⟨A, cap, ov, nv, ev, hB, hR.sub hs hl⟩
theorem PAt.less {b : Nat} (h : PAt w pb p deep (More L b)) (hl : ∀ k, k < pb → L k) : PAt w pb p deep L := h.sub (fun _ hk => .inl hk) hl
theorem PAt.alloc (h : PAt w pb p deep L) (o : Obj) : PAt (w.alloc o) pb p deep L := (h.more o).less fun _ hk => h.low hk
/-- a store into a block that the parser does not write -/
theorem PRest.local_ (h : PRest w pb p L A cap ov nv ev) {a : Addr} (hL : L a.block) (hb : pb < a.block) (v : Value) : PRest (w.setCell a v) pb p L A cap ov nv ev := by
  have hk : w.grownBy (w.setCell a v) (some a.block) := only_setCell (World.grownBy.refl _ _) (.inl rfl) v
  refine ⟨h.toks.keep fun q hq => World.cell?_of_block (hk.block _ (Nat.lt_trans hq h.lt) (fun e => by injection e with e; omega)), h.capl, h.small,
    h.ops.kept hk (.inr (h.loc _ hL).2.2.2), h.nds.kept hk (.inr (h.loc _ hL).2.2.1), h.opl, h.ndl, ?_,
    fun k hL => ⟨Nat.lt_of_lt_of_le (h.loc k hL).1 hk.size, (h.loc k hL).2⟩, h.low, Nat.lt_of_lt_of_le h.lt hk.size⟩
  have he := h.err
  cases ho : p.err with
  | none => rw [ho] at he; exact he
  | some x =>
    rw [ho] at he
    obtain ⟨g, e, hv, hg, hLg, hB, hE⟩ := he
    exact ⟨g, e, hv, hg, hLg, hB.far (fun e => hLg (by rw [e]; exact hL)) v, hE⟩
theorem PAt.local_ (h : PAt w pb p deep L) {a : Addr} (hL : L a.block) (hb : pb < a.block) (v : Value) : PAt (w.setCell a v) pb p deep L := by
  obtain ⟨A, cap, ov, nv, ev, hB, hR⟩ := h
  exact ⟨A, cap, ov, nv, ev, hB.far (fun e => by omega) v, hR.local_ hL hb v⟩
/-- the frame of a store into the parser itself -/
theorem PAt.own_store (h : PAt w pb p deep L) (i : Nat) (v : Value) : KeepOn L w (w.setCell ⟨pb, i, none⟩ v) :=
  (KeepOn.refl L w).setCell (fun hk => (h.loc hk).2 rfl) v

/-- the next token is behind -/
theorem PRest.pop {t : Tok} {r : List Tok} (h : PRest w pb p L A cap ov nv ev) (ht : p.ts = t :: r) : ∃ b off, A = some ⟨b, off, none⟩ ∧ b < pb ∧ PRest w pb p.pop L (if cap = 1 then A else some ⟨b, off + 4, none⟩) (cap - 1) ov nv ev := by
  obtain ⟨b, off, hA, hb, hc⟩ := h.toks (by rw [ht]; simp)
  refine ⟨b, off, hA, hb, ?_, ?_, ?_, h.ops, h.nds, h.opl, h.ndl, h.err, h.loc, h.low, h.lt⟩
  · show RowIs tokCells 4 w pb _ p.ts.tail
    intro h0
    have hc1 : cap ≠ 1 := by
      have := h.capl
      rw [ht] at this h0
      simp at this h0
      omega
    rw [if_neg hc1]
    refine ⟨b, off + 4, rfl, hb, fun i hi s u hu => ?_⟩
    have hi' : i + 1 < p.ts.length := by rw [ht] at hi ⊢; simpa using hi
    have := hc (i + 1) hi' s u (by
      have e : p.ts[i + 1] = p.ts.tail[i] := by simp
      rw [e]; exact hu)
    rwa [show off + 4 + i * 4 + s = off + (i + 1) * 4 + s by omega]
  · show p.ts.tail.length ≤ cap - 1
    have := h.capl
    rw [ht] at this ⊢
    simp at this ⊢
    omega
  · show p.ts.tail.length ≤ 1000000
    have := h.small
    rw [ht] at this ⊢
    simp at this ⊢
    omega
theorem PRest.head {t : Tok} {r : List Tok} (h : PRest w pb p L A cap ov nv ev) (ht : p.ts = t :: r) : ∃ b off, A = some ⟨b, off, none⟩ ∧ b < pb ∧
    w.cell? ⟨b, off, none⟩ = some (.int .i64 (t.kind : Int)) ∧ w.cell? ⟨b, off + 1, none⟩ = some (.string (ba t.text)) ∧ w.cell? ⟨b, off + 2, none⟩ = some (.int .i64 (t.num : Int)) ∧ w.cell? ⟨b, off + 3, none⟩ = some (.int .i64 (t.pos : Int)) := by
  obtain ⟨b, off, hA, hb, hc⟩ := h.toks (by rw [ht]; simp)
  have h0 : 0 < p.ts.length := by rw [ht]; simp
  have e : p.ts[0] = t := by simp [ht]
  have g : ∀ s u, (tokCells t)[s]? = some u → w.cell? ⟨b, off + s, none⟩ = some u := fun s u hu => by
    have := hc 0 h0 s u (by rw [e]; exact hu)
    simpa using this
  exact ⟨b, off, hA, hb, g 0 _ rfl, g 1 _ rfl, g 2 _ rfl, g 3 _ rfl⟩
end
end Go.Proofs.YtiflfnnnbgmomaaDoor
