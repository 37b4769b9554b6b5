/- The law ScopeForms: its data. -/
import Derived.Test.YtiflfnnnbgmomaaDoorScopeM
namespace Go.Proofs.YtiflfnnnbgmomaaDoor
open Go.RowKit
set_option maxRecDepth 100000

/-- objects laid one behind the other -/
def allocs : World → List Obj → World
  | w, [] => w
  | w, o :: r => allocs (w.alloc o) r
theorem allocs_below : ∀ (L : List Obj) (w : World) (B : Nat), B ≤ w.heap.size → Below B w (allocs w L)
  | [], w, B, _ => Below.refl _ _
  | o :: r, w, B, h => (((Below.refl B w).alloc h o)).trans (allocs_below r (w.alloc o) B (by simp; omega))
theorem blk_allocs : ∀ (L : List Obj) (w : World) (i : Nat) (cs : Array Value) (t : TypeId), L[i]? = some (.cells cs t) → Blk (allocs w L) (w.heap.size + i) t cs
  | [], w, i, cs, t, h => by simp at h
  | o :: r, w, 0, cs, t, h => by
    simp only [List.getElem?_cons_zero, Option.some.injEq] at h
    subst h
    exact (Blk.new w t cs).below (allocs_below r (w.alloc (.cells cs t)) (w.alloc (.cells cs t)).heap.size (Nat.le_refl _)) (by simp)
  | o :: r, w, i + 1, cs, t, h => by
    have := blk_allocs r (w.alloc o) i cs t (by simpa using h)
    show Blk (allocs (w.alloc o) r) _ t cs
    simpa [Nat.add_assoc, Nat.add_comm 1 i] using this
theorem allocs_size : ∀ (L : List Obj) (w : World), (allocs w L).heap.size = w.heap.size + L.length
  | [], w => rfl
  | o :: r, w => by
    show (allocs (w.alloc o) r).heap.size = _
    rw [allocs_size r, List.length_cons]
    simp; omega
theorem ok_of {R : Except (Int × Int) Pg} (h : (match R with | .ok q => decide (0 < q.nodes.length) | .error _ => false) = true) : ∃ q, R = .ok q ∧ 0 < q.nodes.length := by
  cases R with
  | ok q => exact ⟨q, rfl, of_decide_eq_true h⟩
  | error e => cases h
theorem err_of {R : Except (Int × Int) Pg} {n : Int} (h : (match R with | .error (_, m) => decide (m = n) | .ok _ => false) = true) : ∃ a, R = .error (a, n) := by
  cases R with
  | ok q => cases h
  | error e => obtain ⟨a, m⟩ := e; exact ⟨a, by rw [of_decide_eq_true h]⟩
def fN0 : List Nd := [⟨0, 0, 0, 0, 0, [120], [], [], [], 0⟩, ⟨3, 0, 0, 0, 0, [], [120], [], [], 0⟩]
def fN1 : List Nd := [⟨0, 0, 0, 0, 0, [120], [], [], [], 0⟩, ⟨3, 0, 0, 0, 0, [], [121], [], [], 0⟩]
def fN2 : List Nd := [⟨0, 0, 0, 0, 0, [120], [], [], [], 0⟩, ⟨1, 0, 0, 0, 1, [], [], [], [], 0⟩, ⟨5, 0, 1, 0, 0, [], [120], [], [], 0⟩]
def fN3 : List Nd := [⟨1, 0, 0, 0, 1, [], [], [], [], 0⟩, ⟨0, 0, 0, 0, 0, [120], [], [], [], 0⟩, ⟨5, 0, 1, 0, 0, [], [120], [], [], 0⟩]
def fN4 : List Nd := [⟨0, 0, 0, 0, 0, [120], [], [], [], 0⟩, ⟨1, 0, 0, 0, 1, [], [], [], [], 0⟩, ⟨6, 0, 1, 0, 0, [], [120], [122], [], 0⟩]
def fN5 : List Nd := [⟨0, 0, 0, 0, 0, [120], [], [], [], 0⟩, ⟨1, 0, 0, 0, 1, [], [], [], [], 0⟩, ⟨6, 0, 1, 0, 0, [], [122], [120], [], 0⟩]
def fN6 : List Nd := [⟨1, 0, 0, 0, 1, [], [], [], [], 0⟩, ⟨0, 0, 0, 0, 0, [120], [], [], [], 0⟩, ⟨6, 0, 1, 0, 0, [], [122], [120], [], 0⟩]
def fN7 : List Nd := [⟨1, 0, 0, 0, 1, [], [], [], [], 0⟩, ⟨0, 0, 0, 0, 0, [120], [], [], [], 0⟩, ⟨0, 0, 0, 0, 0, [121], [], [], [], 0⟩, ⟨10, 0, 1, 2, 0, [97], [120], [122], [121], 0⟩]
def fN8 : List Nd := [⟨0, 0, 0, 0, 0, [120], [], [], [], 0⟩, ⟨1, 0, 0, 0, 1, [], [], [], [], 0⟩, ⟨1, 0, 0, 0, 1, [], [], [], [], 0⟩, ⟨10, 0, 1, 2, 0, [97], [120], [120], [120], 0⟩]
def fN9 : List Nd := [⟨1, 0, 0, 0, 1, [], [], [], [], 0⟩, ⟨1, 0, 0, 0, 1, [], [], [], [], 0⟩, ⟨0, 0, 0, 0, 0, [120], [], [], [], 0⟩, ⟨10, 0, 1, 2, 0, [97], [120], [120], [121], 0⟩]
def fN10 : List Nd := [⟨1, 0, 0, 0, 1, [], [], [], [], 0⟩, ⟨0, 0, 0, 0, 0, [120], [], [], [], 0⟩, ⟨1, 0, 0, 0, 1, [], [], [], [], 0⟩, ⟨10, 0, 1, 2, 0, [98], [120], [120], [121], 0⟩]
def fN11 : List Nd := [⟨1, 0, 0, 0, 1, [], [], [], [], 0⟩, ⟨9, 0, 0, 0, 0, [98], [], [], [], 0⟩]
def fRow (s : Nat) : Array Value := #[.slice (some ⟨s + 1 + 1 + 1, 0, none⟩) 2 2, .slice (some ⟨s + 1 + 1 + 1 + 1, 0, none⟩) 2 2, .slice (some ⟨s + 1 + 1 + 1 + 1 + 1, 0, none⟩) 3 3, .slice (some ⟨s + 1 + 1 + 1 + 1 + 1 + 1, 0, none⟩) 3 3, .slice (some ⟨s + 1 + 1 + 1 + 1 + 1 + 1 + 1, 0, none⟩) 3 3, .slice (some ⟨s + 1 + 1 + 1 + 1 + 1 + 1 + 1 + 1, 0, none⟩) 3 3, .slice (some ⟨s + 1 + 1 + 1 + 1 + 1 + 1 + 1 + 1 + 1, 0, none⟩) 3 3, .slice (some ⟨s + 1 + 1 + 1 + 1 + 1 + 1 + 1 + 1 + 1 + 1, 0, none⟩) 4 4, .slice (some ⟨s + 1 + 1 + 1 + 1 + 1 + 1 + 1 + 1 + 1 + 1 + 1, 0, none⟩) 4 4, .slice (some ⟨s + 1 + 1 + 1 + 1 + 1 + 1 + 1 + 1 + 1 + 1 + 1 + 1, 0, none⟩) 4 4, .slice (some ⟨s + 1 + 1 + 1 + 1 + 1 + 1 + 1 + 1 + 1 + 1 + 1 + 1 + 1, 0, none⟩) 4 4, .slice (some ⟨s + 1 + 1 + 1 + 1 + 1 + 1 + 1 + 1 + 1 + 1 + 1 + 1 + 1 + 1, 0, none⟩) 2 2]
def fWant : Array Value := #[.int .i64 0, .int .i64 601, .int .i64 601, .int .i64 0, .int .i64 0, .int .i64 0, .int .i64 601, .int .i64 0, .int .i64 601, .int .i64 601, .int .i64 602, .int .i64 602]
def fObjs (s : Nat) : List Obj := [.cells (([⟨0, 0, 0, 0, 0, [120], [], [], [], 0⟩] : List Nd).flatMap ndCells).toArray 24, .cells (([⟨0, 0, 0, 0, 0, [121], [], [], [], 0⟩] : List Nd).flatMap ndCells).toArray 24, .cells (([⟨1, 0, 0, 0, 1, [], [], [], [], 0⟩] : List Nd).flatMap ndCells).toArray 24,
  .cells (fN0.flatMap ndCells).toArray 24, .cells (fN1.flatMap ndCells).toArray 24, .cells (fN2.flatMap ndCells).toArray 24, .cells (fN3.flatMap ndCells).toArray 24, .cells (fN4.flatMap ndCells).toArray 24, .cells (fN5.flatMap ndCells).toArray 24, .cells (fN6.flatMap ndCells).toArray 24, .cells (fN7.flatMap ndCells).toArray 24, .cells (fN8.flatMap ndCells).toArray 24, .cells (fN9.flatMap ndCells).toArray 24, .cells (fN10.flatMap ndCells).toArray 24, .cells (fN11.flatMap ndCells).toArray 24,
  .cells (fRow s) 25, .cells fWant 3]
def fOps : List OpD := [⟨[97], 0, 0⟩]
def fOps2 : List OpD := [⟨[97], 0, 0⟩, ⟨[97], 0, 0⟩]
theorem fRes0 : ∃ q, resolveB ⟨fOps, fN0⟩ = .ok q ∧ 0 < q.nodes.length := ok_of (by kernel_rfl)
theorem fOk0 : PgOk ⟨fOps, fN0⟩ := Pg.small.ok (by decide)
theorem fRes1 : ∃ a, resolveB ⟨fOps, fN1⟩ = .error (a, 601) := err_of (by kernel_rfl)
theorem fOk1 : PgOk ⟨fOps, fN1⟩ := Pg.small.ok (by decide)
theorem fRes2 : ∃ a, resolveB ⟨fOps, fN2⟩ = .error (a, 601) := err_of (by kernel_rfl)
theorem fOk2 : PgOk ⟨fOps, fN2⟩ := Pg.small.ok (by decide)
theorem fRes3 : ∃ q, resolveB ⟨fOps, fN3⟩ = .ok q ∧ 0 < q.nodes.length := ok_of (by kernel_rfl)
theorem fOk3 : PgOk ⟨fOps, fN3⟩ := Pg.small.ok (by decide)
theorem fRes4 : ∃ q, resolveB ⟨fOps, fN4⟩ = .ok q ∧ 0 < q.nodes.length := ok_of (by kernel_rfl)
theorem fOk4 : PgOk ⟨fOps, fN4⟩ := Pg.small.ok (by decide)
theorem fRes5 : ∃ q, resolveB ⟨fOps, fN5⟩ = .ok q ∧ 0 < q.nodes.length := ok_of (by kernel_rfl)
theorem fOk5 : PgOk ⟨fOps, fN5⟩ := Pg.small.ok (by decide)
theorem fRes6 : ∃ a, resolveB ⟨fOps, fN6⟩ = .error (a, 601) := err_of (by kernel_rfl)
theorem fOk6 : PgOk ⟨fOps, fN6⟩ := Pg.small.ok (by decide)
theorem fRes7 : ∃ q, resolveB ⟨fOps, fN7⟩ = .ok q ∧ 0 < q.nodes.length := ok_of (by kernel_rfl)
theorem fOk7 : PgOk ⟨fOps, fN7⟩ := Pg.small.ok (by decide)
theorem fRes8 : ∃ a, resolveB ⟨fOps, fN8⟩ = .error (a, 601) := err_of (by kernel_rfl)
theorem fOk8 : PgOk ⟨fOps, fN8⟩ := Pg.small.ok (by decide)
theorem fRes9 : ∃ a, resolveB ⟨fOps, fN9⟩ = .error (a, 601) := err_of (by kernel_rfl)
theorem fOk9 : PgOk ⟨fOps, fN9⟩ := Pg.small.ok (by decide)
theorem fRes10 : ∃ a, resolveB ⟨fOps, fN10⟩ = .error (a, 602) := err_of (by kernel_rfl)
theorem fOk10 : PgOk ⟨fOps, fN10⟩ := Pg.small.ok (by decide)
theorem fRes11 : ∃ a, resolveB ⟨fOps, fN11⟩ = .error (a, 602) := err_of (by kernel_rfl)
theorem fOk11 : PgOk ⟨fOps, fN11⟩ := Pg.small.ok (by decide)
theorem fRes : resolveB ⟨fOps2, fN0⟩ = .error (0, 602) := by kernel_rfl
theorem fOk : PgOk ⟨fOps2, fN0⟩ := Pg.small.ok (by decide)
end Go.Proofs.YtiflfnnnbgmomaaDoor
