/- The walk of slices.Reverse at a row of at most three pointers. -/
import Derived.Test.YtiflfnnnbgmomaaDoorTreeA
import Derived.BigRegion
namespace Go.Proofs.YtiflfnnnbgmomaaDoor
set_option linter.unusedVariables false
set_option linter.unusedSimpArgs false
open Go.RowKit
set_option maxHeartbeats 400000
set_option maxRecDepth 100000
theorem Blk.c3 {w : World} {g : Nat} {t : TypeId} {a b c : Value} (h : Blk w g t #[a, b, c]) : w.cell? ⟨g, 0, none⟩ = some a ∧ w.cell? ⟨g, 1, none⟩ = some b ∧ w.cell? ⟨g, 2, none⟩ = some c ∧ ∀ i, w.frozen? ⟨g, i, none⟩ = false :=
  ⟨by rw [h.cell]; rfl, by rw [h.cell]; rfl, by rw [h.cell]; rfl, h.frozen⟩

theorem rev_nil (w : World) :
    Calls Tryd.prog 95 #[.slice none 0 0] w fun e w' => e = .returned (.tuple #[]) ∧ w' = w := by
  go_enter Tryd.func95, Tryd.ntmps95
  go_wp2
  refine wp_loop_rounds 1 ?_
  rw [rounds_succ]
  go_wp2
  go_end0
  exact ⟨rfl, rfl⟩
theorem rev_one (g : Nat) (w : World) :
    Calls Tryd.prog 95 #[.slice (some ⟨g, 0, none⟩) 1 1] w fun e w' => e = .returned (.tuple #[]) ∧ w' = w := by
  go_enter Tryd.func95, Tryd.ntmps95
  go_wp2
  refine wp_loop_rounds 1 ?_
  rw [rounds_succ]
  go_wp2
  go_end0
  exact ⟨rfl, rfl⟩
theorem rev_two (g : Nat) (p q : Addr) (w : World) (hB : Blk w g 104 #[.pointer (some p), .pointer (some q)]) :
    Calls Tryd.prog 95 #[.slice (some ⟨g, 0, none⟩) 2 2] w fun e w' => e = .returned (.tuple #[]) ∧ Blk w' g 104 #[.pointer (some q), .pointer (some p)] ∧ Below g w w' := by
  obtain ⟨c0, c1, hf⟩ := hB.c2
  go_enter Tryd.func95, Tryd.ntmps95
  go_wp2
  refine wp_loop_rounds 2 ?_
  rw [rounds_succ]
  go_wp2
  go_region
  all_goals
    go_wp2
    rw [rounds_succ]
    go_wp2
    go_end0
    exact ⟨rfl, ((hB.set_ 0 _).set_ 1 _), (((Below.refl g w).setCell (p := ⟨g, 0, none⟩) (Nat.le_refl g) _).setCell (p := ⟨g, 1, none⟩) (Nat.le_refl g) _).drew⟩
theorem rev_three (g : Nat) (p q r : Addr) (w : World) (hB : Blk w g 104 #[.pointer (some p), .pointer (some q), .pointer (some r)]) :
    Calls Tryd.prog 95 #[.slice (some ⟨g, 0, none⟩) 3 3] w fun e w' => e = .returned (.tuple #[]) ∧ Blk w' g 104 #[.pointer (some r), .pointer (some q), .pointer (some p)] ∧ Below g w w' := by
  obtain ⟨c0, c1, c2, hf⟩ := hB.c3
  go_enter Tryd.func95, Tryd.ntmps95
  go_wp2
  refine wp_loop_rounds 2 ?_
  rw [rounds_succ]
  go_wp2
  go_region
  all_goals
    go_wp2
    rw [rounds_succ]
    go_wp2
    go_end0
    exact ⟨rfl, ((hB.set_ 0 _).set_ 2 _), (((Below.refl g w).setCell (p := ⟨g, 0, none⟩) (Nat.le_refl g) _).setCell (p := ⟨g, 2, none⟩) (Nat.le_refl g) _).drew⟩
/-- .. at any of these rows -/
theorem rev_any (g b n : Nat) (offs : List Nat) (hn : offs.length = n) (h0 : 0 < n) (h3 : n ≤ 3) (w : World) (hB : Blk w g 104 (ptrs b offs).toArray) :
    Calls Tryd.prog 95 #[.slice (some ⟨g, 0, none⟩) n n] w fun e w' => e = .returned (.tuple #[]) ∧ Blk w' g 104 (ptrs b offs.reverse).toArray ∧ Below g w w' := by
  subst hn
  match offs, h0, h3 with
  | [o], _, _ =>
    refine (rev_one g w).mono ?_
    rintro e w' ⟨rfl, rfl⟩
    exact ⟨rfl, hB, Below.refl _ _⟩
  | [o, o'], _, _ => exact rev_two g _ _ w hB
  | [o, o', o''], _, _ => exact rev_three g _ _ _ w hB
end Go.Proofs.YtiflfnnnbgmomaaDoor
