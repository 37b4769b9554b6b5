/- Rows of nodes, operations, texts: what the program's types say of them. -/
import Derived.Test.YtiflfnnnbgmomaaDoorRowIs
namespace Go.Proofs.YtiflfnnnbgmomaaDoor
set_option linter.unusedVariables false
set_option linter.unusedSimpArgs false
open Go.RowKit
set_option maxRecDepth 100000
theorem ndInfo : (Tryd.prog.info? 24).map (fun i => (i.zero, i.size, i.bytes)) = some (some (.agg #[.int .i64 0, .int .i64 0, .int .i64 0, .int .i64 0, .int .i64 0, .string ⟨#[]⟩, .string ⟨#[]⟩, .string ⟨#[]⟩, .string ⟨#[]⟩, .int .i64 0]), 10, 112) := by kernel_rfl
theorem opInfo : (Tryd.prog.info? 36).map (fun i => (i.zero, i.size, i.bytes)) = some (some (.agg #[.string ⟨#[]⟩, .int .i64 0, .int .i64 0]), 3, 32) := by kernel_rfl
theorem strInfo : (Tryd.prog.info? 9).map (fun i => (i.zero, i.size, i.bytes)) = some (some (.string ⟨#[]⟩), 1, 16) := by kernel_rfl
theorem one_nd (n : Nd) : ∀ u ∈ ndCells n, u.oneCell' = true := by intro u hu; simp [ndCells] at hu; rcases hu with rfl | rfl | rfl | rfl | rfl | rfl | rfl | rfl | rfl | rfl <;> rfl
theorem one_op (o : OpD) : ∀ u ∈ opCells o, u.oneCell' = true := by intro u hu; simp [opCells] at hu; rcases hu with rfl | rfl | rfl <;> rfl
theorem one_str (s : Bs) : ∀ u ∈ strCells s, u.oneCell' = true := by intro u hu; simp [strCells] at hu; rw [hu]; rfl
theorem one_flat {α : Type} {f : α → List Value} (h : ∀ x, ∀ u ∈ f x, u.oneCell' = true) (xs : List α) : ∀ u ∈ xs.flatMap f, u.oneCell' = true := by
  intro u hu
  obtain ⟨x, _, hx⟩ := List.mem_flatMap.1 hu
  exact h x u hx
end Go.Proofs.YtiflfnnnbgmomaaDoor
