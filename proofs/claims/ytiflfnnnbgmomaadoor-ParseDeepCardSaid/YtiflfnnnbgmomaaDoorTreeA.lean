/- The walks of package tree, first part: most, Numbered, base, names, Kids. -/
import Derived.Test.YtiflfnnnbgmomaaDoorNode
namespace Go.Proofs.YtiflfnnnbgmomaaDoor
set_option linter.unusedVariables false
set_option linter.unusedSimpArgs false
open Go.RowKit
set_option maxHeartbeats 400000
set_option maxRecDepth 100000

theorem most_any (k : Int) (w : World) :
    Calls Tryd.prog 93 #[.int .i64 k] w fun e w' => e = .returned (.int .i64 (mostN k)) ∧ w' = w := by
  by_cases h1 : k = 1
  · subst h1; go_enter Tryd.func93, Tryd.ntmps93; go_wp2; go_ret; exact ⟨rfl, rfl⟩
  have g1 : (k == 1) = false := by simpa using h1
  by_cases h2 : k = 2
  · subst h2; go_enter Tryd.func93, Tryd.ntmps93; go_wp2; go_ret; exact ⟨rfl, rfl⟩
  have g2 : (k == 2) = false := by simpa using h2
  by_cases h3 : k = 8
  · subst h3; go_enter Tryd.func93, Tryd.ntmps93; go_wp2; go_ret; exact ⟨rfl, rfl⟩
  have g3 : (k == 8) = false := by simpa using h3
  have HM := Lib.hid (show mostN k = -1 by simp [mostN, h1, h2, h3])
  go_enter Tryd.func93, Tryd.ntmps93
  go_wp2
  go_ret
  exact ⟨ret_int (by rw [HM.out]), rfl⟩

theorem numbered_any (k : Int) (w : World) :
    Calls Tryd.prog 67 #[.int .i64 k] w fun e w' => e = .returned (.bool (numbered k)) ∧ w' = w := by
  by_cases h1 : k = 0
  · subst h1; go_enter Tryd.func67, Tryd.ntmps67; go_wp2; go_ret; exact ⟨rfl, rfl⟩
  have g1 : (k == 0) = false := by simpa using h1
  by_cases h2 : k = 9
  · subst h2; go_enter Tryd.func67, Tryd.ntmps67; go_wp2; go_ret; exact ⟨rfl, rfl⟩
  have g2 : (k == 9) = false := by simpa using h2
  go_enter Tryd.func67, Tryd.ntmps67
  go_wp2
  go_ret
  refine ⟨ret_bool ?_, rfl⟩
  simp [numbered, h1, h2]
  rfl

theorem base_any (k : Int) (w : World) :
    Calls Tryd.prog 63 #[.int .i64 k] w fun e w' => e = .returned (.bool (baseB k)) ∧ w' = w := by
  by_cases h1 : k = 0
  · subst h1; go_enter Tryd.func63, Tryd.ntmps63; go_wp2; go_ret; exact ⟨rfl, rfl⟩
  have g1 : (k == 0) = false := by simpa using h1
  go_enter Tryd.func63, Tryd.ntmps63
  go_wp2
  go_ret
  refine ⟨ret_bool ?_, rfl⟩
  simp [baseB, h1]
  rfl

/-- a row of pointers into a block -/
def ptrs (b : Nat) (offs : List Nat) : List Value := offs.map fun o => .pointer (some ⟨b, o, none⟩)
/-- what a function hands back that lays a row of pointers: nil where there are none -/
def rowPost (T b : Nat) (offs : List Nat) (w : World) (e : Ending) (w' : World) : Prop :=
  (offs = [] ∧ e = .returned (.slice none 0 0) ∧ w' = w) ∨
  (offs ≠ [] ∧ e = .returned (.slice (some ⟨w.heap.size, 0, none⟩) offs.length offs.length) ∧ ∃ m, w' = (w.alloc (.cells (ptrs b offs).toArray T)).drewN m)

theorem kids_any (k : Int) (b : Nat) (w : World) (hk : w.cell? ⟨b, 0, none⟩ = some (.int .i64 k)) :
    Calls Tryd.prog 49 #[.pointer (some ⟨b, 0, none⟩)] w (rowPost 104 b ([1, 2, 3].take (kidsN k)) w) := by
  by_cases h1 : k = 3 ∨ k = 9
  · rw [show kidsN k = 1 by simp [kidsN, h1]]
    rcases h1 with rfl | rfl
    all_goals
      go_enter Tryd.func49, Tryd.ntmps49
      go_wp2
      go_ret
      exact .inr ⟨by simp, rfl, 0, rfl⟩
  by_cases h2 : k = 4 ∨ k = 5 ∨ k = 6 ∨ k = 8
  · rw [show kidsN k = 2 by simp [kidsN, h1, h2]]
    rcases h2 with rfl | rfl | rfl | rfl
    all_goals
      go_enter Tryd.func49, Tryd.ntmps49
      go_wp2
      go_region
      all_goals
        go_wp2
        go_ret
        exact .inr ⟨by simp, rfl, 1, rfl⟩
  by_cases h3 : k = 7 ∨ k = 10
  · rw [show kidsN k = 3 by simp [kidsN, h1, h2, h3]]
    rcases h3 with rfl | rfl
    all_goals
      go_enter Tryd.func49, Tryd.ntmps49
      go_wp2
      go_region
      all_goals
        go_wp2
        go_ret
        exact .inr ⟨by simp, rfl, 1, rfl⟩
  · rw [show kidsN k = 0 by simp [kidsN, h1, h2, h3]]
    have g3 : (k == 3) = false := by simp; omega
    have g4 : (k == 4) = false := by simp; omega
    have g5 : (k == 5) = false := by simp; omega
    have g6 : (k == 6) = false := by simp; omega
    have g7 : (k == 7) = false := by simp; omega
    have g8 : (k == 8) = false := by simp; omega
    have g9 : (k == 9) = false := by simp; omega
    have g10 : (k == 10) = false := by simp; omega
    clear h1 h2 h3
    go_enter Tryd.func49, Tryd.ntmps49
    go_wp2
    go_ret
    exact .inl ⟨rfl, rfl, rfl⟩

theorem names_any (k : Int) (b : Nat) (w : World) (hk : w.cell? ⟨b, 0, none⟩ = some (.int .i64 k)) :
    Calls Tryd.prog 94 #[.pointer (some ⟨b, 0, none⟩)] w (rowPost 153 b (nameOffs k) w) := by
  by_cases h1 : k = 0 ∨ k = 9
  · rw [show nameOffs k = [5] by simp [nameOffs, h1]]
    rcases h1 with rfl | rfl
    all_goals
      go_enter Tryd.func94, Tryd.ntmps94
      go_wp2
      go_ret
      exact .inr ⟨by simp, rfl, 0, rfl⟩
  by_cases h2 : k = 3 ∨ k = 5
  · rw [show nameOffs k = [6] by simp [nameOffs, h1, h2]]
    rcases h2 with rfl | rfl
    all_goals
      go_enter Tryd.func94, Tryd.ntmps94
      go_wp2
      go_ret
      exact .inr ⟨by simp, rfl, 0, rfl⟩
  by_cases h3 : k = 6
  · subst h3
    rw [show nameOffs 6 = [6, 7] by decide]
    go_enter Tryd.func94, Tryd.ntmps94
    go_wp2
    go_region
    all_goals
      go_wp2
      go_ret
      exact .inr ⟨by simp, rfl, 1, rfl⟩
  by_cases h4 : k = 10
  · subst h4
    rw [show nameOffs 10 = [5, 6, 7, 8] by decide]
    go_enter Tryd.func94, Tryd.ntmps94
    go_wp2
    go_region
    all_goals
      go_wp2
      go_ret
      exact .inr ⟨by simp, rfl, 1, rfl⟩
  · rw [show nameOffs k = [] by simp [nameOffs, h1, h2, h3, h4]]
    have g0 : (k == 0) = false := by simp; omega
    have g3 : (k == 3) = false := by simp; omega
    have g5 : (k == 5) = false := by simp; omega
    have g6 : (k == 6) = false := by simp; omega
    have g9 : (k == 9) = false := by simp; omega
    have g10 : (k == 10) = false := by simp; omega
    clear h1 h2 h3
    go_enter Tryd.func94, Tryd.ntmps94
    go_wp2
    go_ret
    exact .inl ⟨rfl, rfl, rfl⟩
end Go.Proofs.YtiflfnnnbgmomaaDoor
