/- The walk of tree.may. -/
import Derived.Test.YtiflfnnnbgmomaaDoorTreeC
namespace Go.Proofs.YtiflfnnnbgmomaaDoor
set_option linter.unusedVariables false
set_option linter.unusedSimpArgs false
open Go.RowKit
set_option maxHeartbeats 1000000
set_option maxRecDepth 100000

/-- a node's texts are no longer than a text in memory is -/
def NdOk (n : Nd) : Prop := ∀ s ∈ [n.name, n.x, n.y, n.z], s.length ≤ maxLen
theorem names_mem (n : Nd) : ∀ s ∈ n.names, s ∈ [n.name, n.x, n.y, n.z] := by
  unfold Nd.names
  repeat' split
  all_goals simp
abbrev ndV (n : Nd) : Value := .agg #[.int .i64 n.kind, .int .i64 n.a, .int .i64 n.b, .int .i64 n.c, .int .i64 n.num, .string (ba n.name), .string (ba n.x), .string (ba n.y), .string (ba n.z), .int .i64 n.pos]
theorem ptrs_at (b : Nat) (offs : List Nat) (i : Nat) (h : i < offs.length) : (ptrs b offs).toArray[i]? = some (.pointer (some ⟨b, offs[i], none⟩)) := by
  simp [ptrs, List.getElem?_eq_getElem h]

/-- a row of pointers that was laid behind w (or nil, of none) -/
def RowAt (w' : World) (B T : Nat) (A : Option Addr) (b : Nat) (offs : List Nat) : Prop :=
  0 < offs.length → ∃ g, A = some ⟨g, 0, none⟩ ∧ B ≤ g ∧ Blk w' g T (ptrs b offs).toArray
theorem row_of {T b : Nat} {offs : List Nat} {w : World} {e : Ending} {w' : World} (h : rowPost T b offs w e w') :
    ∃ A, e = .returned (.slice A offs.length offs.length) ∧ RowAt w' w.heap.size T A b offs ∧ Below w.heap.size w w' := by
  rcases h with ⟨h0, rfl, rfl⟩ | ⟨h0, rfl, m, rfl⟩
  · subst h0
    exact ⟨none, rfl, fun h => absurd h (by simp), Below.refl _ _⟩
  · exact ⟨_, rfl, fun _ => ⟨_, rfl, Nat.le_refl _, (Blk.new w T _).drewN m⟩, below_drewN ((Below.refl _ _).alloc (Nat.le_refl _) _) m⟩
theorem kids_row (k : Int) (b : Nat) (w : World) (hk : w.cell? ⟨b, 0, none⟩ = some (.int .i64 k)) :
    Calls Tryd.prog 49 #[.pointer (some ⟨b, 0, none⟩)] w fun e w' => ∃ A, e = .returned (.slice A (kidOffs k).length (kidOffs k).length) ∧ RowAt w' w.heap.size 104 A b (kidOffs k) ∧ Below w.heap.size w w' :=
  (kids_any k b w hk).mono fun _ _ h => row_of h
theorem names_row (k : Int) (b : Nat) (w : World) (hk : w.cell? ⟨b, 0, none⟩ = some (.int .i64 k)) :
    Calls Tryd.prog 94 #[.pointer (some ⟨b, 0, none⟩)] w fun e w' => ∃ A, e = .returned (.slice A (nameOffs k).length (nameOffs k).length) ∧ RowAt w' w.heap.size 153 A b (nameOffs k) ∧ Below w.heap.size w w' :=
  (names_any k b w hk).mono fun _ _ h => row_of h
theorem bare_same (n : Nd) (named : Bool) : (((if named then n.noNames else n).noKids).noNum named).bare = n.bare := by
  have h1 : ∀ (m : Nd), (m.noNum named).bare = m.bare := by intro m; unfold Nd.noNum; split <;> rfl
  rw [h1]
  unfold Nd.bare
  rw [noKids_kind, noKids_pos]
  cases named
  · rfl
  · simp only [if_true, noNames_kind, noNames_pos]
theorem mayB_eq (n : Nd) (named : Bool) (k1 : ¬ n.kind < 0) (k2 : ¬ 10 < n.kind) (k3 : ¬ n.pos < 0) (k4 : ¬ 4096 < n.pos) :
    mayB n named = (!(decide (0 ≤ mostN n.kind) && (decide (n.num < 0) || decide (mostN n.kind < n.num))) &&
      (!named || n.names.all nameMay) && isBare (((if named then n.noNames else n).noKids).noNum named)) := by
  unfold mayB isBare
  have : (decide (n.kind < 0) || decide (10 < n.kind) || decide (n.pos < 0) || decide (4096 < n.pos)) = false := by
    simp only [Bool.or_eq_false_iff, decide_eq_false_iff_not]; omega
  rw [this, bare_same]
  simp only [Bool.not_false, Bool.true_and]
theorem nd10 {w : World} {g : Nat} {n : Nd} (h : Blk w g 24 (ndArr n)) :
    w.cell? ⟨g, 0, none⟩ = some (.int .i64 n.kind) ∧ w.cell? ⟨g, 1, none⟩ = some (.int .i64 n.a) ∧ w.cell? ⟨g, 2, none⟩ = some (.int .i64 n.b) ∧ w.cell? ⟨g, 3, none⟩ = some (.int .i64 n.c) ∧ w.cell? ⟨g, 4, none⟩ = some (.int .i64 n.num) ∧
    w.cell? ⟨g, 5, none⟩ = some (.string (ba n.name)) ∧ w.cell? ⟨g, 6, none⟩ = some (.string (ba n.x)) ∧ w.cell? ⟨g, 7, none⟩ = some (.string (ba n.y)) ∧ w.cell? ⟨g, 8, none⟩ = some (.string (ba n.z)) ∧ w.cell? ⟨g, 9, none⟩ = some (.int .i64 n.pos) ∧ ∀ i, w.frozen? ⟨g, i, none⟩ = false :=
  ⟨by rw [h.cell]; rfl, by rw [h.cell]; rfl, by rw [h.cell]; rfl, by rw [h.cell]; rfl, by rw [h.cell]; rfl, by rw [h.cell]; rfl, by rw [h.cell]; rfl, by rw [h.cell]; rfl, by rw [h.cell]; rfl, by rw [h.cell]; rfl, h.frozen⟩

end Go.Proofs.YtiflfnnnbgmomaaDoor
