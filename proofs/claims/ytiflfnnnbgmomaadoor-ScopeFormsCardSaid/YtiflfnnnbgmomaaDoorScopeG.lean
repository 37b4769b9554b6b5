/- Parts of the walk of resolver.node. -/
import Derived.Test.YtiflfnnnbgmomaaDoorScopeF
import Derived.Deep.RegionWith
namespace Go.Proofs.YtiflfnnnbgmomaaDoor
open Go.RowKit
set_option maxHeartbeats 2000000
set_option maxRecDepth 100000

/-- what comes back of resolver.node -/
def ErrAt (w' : World) (nb : Nat) (o : Option (Int × Int)) (v : Value) : Prop :=
  match o with
  | none => v = .nilIface
  | some (p, x) => ∃ g, v = .iface 91 (.pointer (some ⟨g, 0, none⟩)) ∧ nb < g ∧ Blk w' g 96 #[.int .i64 p, .iface 32 (.int .i64 x)]
def NodePost (os : List OpD) (f nb : Nat) (ns : List Nd) (a : Int) (env : List Bs) (w : World) (e : Ending) (w' : World) : Prop :=
  ∃ v, e = .returned v ∧ ErrAt w' nb (resB os f ns a env).2 v ∧ NRow w' nb (resB os f ns a env).1 ∧ w.grownBy w' (some nb)
/-- while a node is resolved: its row, the copy of the node; all else as it was -/
structure Mid (w0 : World) (nb : Nat) (x : Nd) (ns1 : List Nd) (w : World) : Prop where
  row : NRow w nb ns1
  cpy : Blk w w0.heap.size 24 (ndArr x)
  own : w0.grownBy w (some nb)
theorem grown_then {w0 w w' : World} {row : Option Nat} (h : w0.grownBy w row) (hb : Below w.heap.size w w') : w0.grownBy w' row :=
  ⟨hb.os.trans h.os, hb.tape.trans h.tape, hb.output.trans h.output, Nat.le_trans h.size hb.size, fun k hk hne => (hb.block k (Nat.lt_of_lt_of_le hk h.size)).trans (h.block k hk hne)⟩
theorem Mid.below {w0 w w' : World} {nb : Nat} {x : Nd} {ns1 : List Nd} (h : Mid w0 nb x ns1 w) (hb : Below w.heap.size w w') : Mid w0 nb x ns1 w' :=
  ⟨h.row.below hb h.row.lt, h.cpy.below hb h.cpy.lt, grown_then h.own hb⟩
theorem Mid.belowB {w0 w w' : World} {nb B : Nat} {x : Nd} {ns1 : List Nd} (h : Mid w0 nb x ns1 w) (hb : Below B w w') (hB : w0.heap.size < B) (hn : nb < B) : Mid w0 nb x ns1 w' :=
  ⟨h.row.below hb hn, h.cpy.below hb hB, ⟨hb.os.trans h.own.os, hb.tape.trans h.own.tape, hb.output.trans h.own.output, Nat.le_trans h.own.size hb.size, fun k hk hne => (hb.block k (Nat.lt_trans hk hB)).trans (h.own.block k hk hne)⟩⟩
theorem Mid.drew {w0 w : World} {nb : Nat} {x : Nd} {ns1 : List Nd} (h : Mid w0 nb x ns1 w) : Mid w0 nb x ns1 w.drew := ⟨h.row, h.cpy, only_drew h.own⟩
theorem ne_of_alloc {w : World} {O : Obj} {nb b : Nat} (h : (w.alloc O).heap.size ≤ b) (h2 : nb < w.heap.size) : b ≠ nb := by
  simp at h; omega
theorem Mid.called {w0 w w' : World} {nb : Nat} {x : Nd} {ns1 ns2 : List Nd} (h : Mid w0 nb x ns1 w) (hr : NRow w' nb ns2) (hg : w.grownBy w' (some nb)) (hne : w0.heap.size ≠ nb) : Mid w0 nb x ns2 w' :=
  ⟨hr, h.cpy.grown hg (by intro h; injection h with h; exact hne h), ⟨hg.os.trans h.own.os, hg.tape.trans h.own.tape, hg.output.trans h.own.output, Nat.le_trans h.own.size hg.size, fun k hk hk2 => (hg.block k (Nat.lt_of_lt_of_le hk h.own.size) hk2).trans (h.own.block k hk hk2)⟩⟩
theorem Mid.num {w0 w : World} {nb : Nat} {x : Nd} {ns : List Nd} {a : Nat} (h : Mid w0 nb x (ns.set a x.bald) w) (ha : a < ns.length) (hne : w0.heap.size ≠ nb) (num : Int) :
    Mid w0 nb x (ns.set a { x.bald with num := num }) (w.setCell ⟨nb, a * 10 + 4, none⟩ (.int .i64 num)) := by
  have h1 := h.row.set a (by simpa using ha) 4 (by omega) (.int .i64 num) { x.bald with num := num } (by rw [List.getElem_set_self]; rfl)
  rw [List.set_set] at h1
  exact ⟨h1, h.cpy.far hne _, only_setCell h.own (.inl rfl) _⟩
theorem grown_cell {w W : World} {row : Option Nat} (h : w.grownBy W row) {p : Addr} (hp : p.block < w.heap.size) (hr : some p.block ≠ row) : W.cell? p = w.cell? p := World.cell?_of_block (h.block p.block hp hr)
theorem StrsAt.own {w W : World} {nb : Nat} {E : Option Addr} {env : List Bs} (hE : StrsAt w w.heap.size E env) (h : w.grownBy W (some nb)) (hEn : ∀ p, E = some p → p.block ≠ nb) : StrsAt W W.heap.size E env := fun h0 => by
  obtain ⟨b, off, e, hb, hc⟩ := hE h0
  refine ⟨b, off, e, Nat.lt_of_lt_of_le hb h.size, fun i hi r u hu => ?_⟩
  have hne := hEn _ e
  rw [grown_cell h (p := ⟨b, off + i * 1 + r, none⟩) hb (by intro h'; injection h' with h'; exact hne h')]
  exact hc i hi r u hu
theorem StrsAt.more {w : World} {B B' : Nat} {A : Option Addr} {ss : List Bs} (h : StrsAt w B A ss) (hB : B ≤ B') : StrsAt w B' A ss := fun h0 => by
  obtain ⟨b, off, e, hb, hc⟩ := h h0
  exact ⟨b, off, e, Nat.lt_of_lt_of_le hb hB, hc⟩
structure Stored (w0 : World) (nb : Nat) (ns1 : List Nd) (w : World) : Prop where
  row : NRow w nb ns1
  own : w0.grownBy w (some nb)
  sz : w.heap.size = w0.heap.size
theorem Stored.set {w0 w : World} {nb : Nat} {y z : Nd} {ns : List Nd} {a : Nat} (h : Stored w0 nb (ns.set a y) w) (ha : a < ns.length) (r : Nat) (hr : r < 10) (u : Value) (hz : ndCells z = (ndCells y).set r u) :
    Stored w0 nb (ns.set a z) (w.setCell ⟨nb, a * 10 + r, none⟩ u) := by
  have h1 := h.row.set a (by simpa using ha) r hr u z (by rw [List.getElem_set_self]; exact hz)
  rw [List.set_set] at h1
  exact ⟨h1, only_setCell h.own (.inl rfl) _, by rw [← h.sz]; simp⟩
theorem Stored.copy {w0 w : World} {nb : Nat} {x : Nd} {ns1 : List Nd} (h : Stored w0 nb ns1 w) : Mid w0 nb x ns1 (w.alloc (.cells (ndArr x) 24)) := by
  have hb := Below.alloc (Below.refl w.heap.size w) (Nat.le_refl _) (.cells (ndArr x) 24)
  refine ⟨h.row.below hb h.row.lt, ?_, grown_then h.own hb⟩
  rw [← h.sz]
  exact Blk.new w 24 (ndArr x)
theorem mid_start {w : World} {nb : Nat} {x : Nd} {ns : List Nd} {a : Nat} (h : NRow w nb ns) (ha : a < ns.length) (hx : ns[a] = x) :
    Mid w nb x (ns.set a x.bald) (((((w.setCell ⟨nb, a * 10 + 5, none⟩ (.string { data := #[] })).setCell ⟨nb, a * 10 + 6, none⟩ (.string { data := #[] })).setCell ⟨nb, a * 10 + 7, none⟩ (.string { data := #[] })).setCell ⟨nb, a * 10 + 8, none⟩ (.string { data := #[] })).alloc (.cells (ndArr x) 24)) := by
  have h0 : Stored w nb (ns.set a x) w := ⟨by rw [← hx, List.set_getElem_self]; exact h, World.grownBy.refl w _, rfl⟩
  have h1 := h0.set ha 5 (by omega) (.string { data := #[] }) (z := { x with name := [] }) rfl
  have h2 := h1.set ha 6 (by omega) (.string { data := #[] }) (z := { x with name := [], x := [] }) rfl
  have h3 := h2.set ha 7 (by omega) (.string { data := #[] }) (z := { x with name := [], x := [], y := [] }) rfl
  have h4 := h3.set ha 8 (by omega) (.string { data := #[] }) (z := x.bald) rfl
  exact h4.copy
theorem err_new {w w1 : World} {nb : Nat} {x : Nd} {ns1 : List Nd} {r : List Nd × Option (Int × Int)} {p n : Int} (hr : r = (ns1, some (p, n))) (h : Mid w nb x ns1 w1) {g : Nat} (hg : w1.heap.size = g) :
    ErrAt (w1.alloc (.cells #[.int .i64 p, .iface 32 (.int .i64 n)] 96)) nb r.2 (.iface 91 (.pointer (some ⟨g, 0, none⟩))) := by
  subst hr hg
  exact ⟨_, rfl, h.row.lt, Blk.new w1 _ _⟩
theorem row_new {w w1 : World} {nb : Nat} {x : Nd} {ns1 : List Nd} {r : List Nd × Option (Int × Int)} {o : Option (Int × Int)} {O : Obj} (hr : r = (ns1, o)) (h : Mid w nb x ns1 w1) : NRow (w1.alloc O) nb r.1 := by
  subst hr
  exact h.row.below ((Below.refl _ _).alloc (Nat.le_refl _) _) h.row.lt
theorem RowAt.le {w : World} {B B' T b : Nat} {A : Option Addr} {offs : List Nat} (h : RowAt w B T A b offs) (hB : B' ≤ B) : RowAt w B' T A b offs := fun h0 => by
  obtain ⟨g, e, hg, hb⟩ := h h0
  exact ⟨g, e, Nat.le_trans hB hg, hb⟩
theorem kid_at0 (n : Nd) (i : Nat) (h : i < (kidOffs n.kind).length) (h' : i < n.kids.length) : (ndArr n)[(kidOffs n.kind)[i]]? = some (.int .i64 n.kids[i]) := by
  have hc : kidsN n.kind = 0 ∨ kidsN n.kind = 1 ∨ kidsN n.kind = 2 ∨ kidsN n.kind = 3 := by
    unfold kidsN
    repeat' split
    all_goals simp
  unfold Nd.kids at h' ⊢
  unfold kidOffs at h ⊢
  rcases hc with hc | hc | hc | hc <;> simp only [hc, List.take, List.length_cons, List.length_nil] at h h' ⊢
  · omega
  · match i, h with
    | 0, _ => rfl
  · match i, h with
    | 0, _ => rfl
    | 1, _ => rfl
  · match i, h with
    | 0, _ => rfl
    | 1, _ => rfl
    | 2, _ => rfl
/-- the law of resolver.node, so many levels deep -/
def NodeLaw (os : List OpD) (A : Option Addr) (c rb nb cn : Nat) (f : Nat) : Prop := ∀ (ns : List Nd) (a : Nat) (env : List Bs) (E : Option Addr) (ce : Nat) (w : World),
    Fits ns f a → ns.length ≤ 1000000 → env.length + 2 * f ≤ 1000000 → Blk w rb 54 #[.slice A os.length c, .slice (some ⟨nb, 0, none⟩) ns.length cn] → NRow w nb ns → OpsAt w nb A os →
    StrsAt w w.heap.size E env → (∀ p, E = some p → p.block ≠ nb) →
    Calls Tryd.prog 27 #[.pointer (some ⟨rb, 0, none⟩), .int .i64 a, .slice E env.length ce] w (NodePost os f nb ns a env w)
end Go.Proofs.YtiflfnnnbgmomaaDoor
