/- The walks of tree.may (all ways), Begin, Shaped. -/
import Derived.Test.YtiflfnnnbgmomaaDoorTreeE
namespace Go.Proofs.YtiflfnnnbgmomaaDoor
set_option linter.unusedVariables false
set_option linter.unusedSimpArgs false
open Go.RowKit
set_option maxHeartbeats 1000000
set_option maxRecDepth 100000

theorem may_any (n : Nd) (named : Bool) (hok : NdOk n) (w : World) (hg : G w) :
    Calls Tryd.prog 65 #[ndV n, .bool named] w fun e w' => e = .returned (.bool (mayB n named)) ∧ Below w.heap.size w w' := by
  by_cases hbad : n.kind < 0 ∨ 10 < n.kind ∨ n.pos < 0 ∨ 4096 < n.pos
  · have HM := Lib.hid (show mayB n named = false by
      unfold mayB
      have : (decide (n.kind < 0) || decide (10 < n.kind) || decide (n.pos < 0) || decide (4096 < n.pos)) = true := by
        simp only [Bool.or_eq_true, decide_eq_true_eq]; omega
      rw [this]; rfl)
    rw [HM.out]
    by_cases h1 : n.kind < 0
    · go_enter Tryd.func65, Tryd.ntmps65
      go_wp2_with fail
      go_ret
      exact ⟨rfl, (Below.refl _ _).alloc (Nat.le_refl _) _⟩
    by_cases h2 : 10 < n.kind
    · go_enter Tryd.func65, Tryd.ntmps65
      go_wp2_with fail
      go_ret
      exact ⟨rfl, (Below.refl _ _).alloc (Nat.le_refl _) _⟩
    by_cases h3 : n.pos < 0
    · go_enter Tryd.func65, Tryd.ntmps65
      go_wp2_with fail
      go_ret
      exact ⟨rfl, (Below.refl _ _).alloc (Nat.le_refl _) _⟩
    · go_enter Tryd.func65, Tryd.ntmps65
      go_wp2_with fail
      go_ret
      exact ⟨rfl, (Below.refl _ _).alloc (Nat.le_refl _) _⟩
  obtain ⟨k1, k2, k3, k4⟩ : ¬ n.kind < 0 ∧ ¬ 10 < n.kind ∧ ¬ n.pos < 0 ∧ ¬ 4096 < n.pos := by omega
  have HM := Lib.hid (mayB_eq n named k1 k2 k3 k4)
  clear hbad
  by_cases hbad2 : 0 ≤ mostN n.kind ∧ (n.num < 0 ∨ mostN n.kind < n.num)
  · obtain ⟨m0, m1⟩ := hbad2
    have HF := Lib.hid (show mayB n named = false by
      rw [HM.out]
      have : (decide (n.num < 0) || decide (mostN n.kind < n.num)) = true := by
        simp only [Bool.or_eq_true, decide_eq_true_eq]; exact m1
      rw [this, decide_eq_true m0]; rfl)
    rw [HF.out]
    by_cases m2 : n.num < 0
    all_goals
      go_enter Tryd.func65, Tryd.ntmps65
      go_wp2_with (go_at_call 93; refine (most_any _ _).mono ?_; rintro e w2 ⟨rfl, hw2⟩; obtain rfl := hw2)
      go_ret
      exact ⟨rfl, (Below.refl _ _).alloc (Nat.le_refl _) _⟩
  · have HN := Lib.hid (show (!(decide (0 ≤ mostN n.kind) && (decide (n.num < 0) || decide (mostN n.kind < n.num)))) = true by
      by_cases m0 : 0 ≤ mostN n.kind
      · have : ¬ n.num < 0 ∧ ¬ mostN n.kind < n.num := by omega
        simp [this.1, this.2]
      · simp [m0])
    rw [HN.out, Bool.true_and] at HM
    by_cases m0 : 0 ≤ mostN n.kind
    · obtain ⟨m1, m2⟩ : ¬ n.num < 0 ∧ ¬ mostN n.kind < n.num := by omega
      cases named with
      | false => exact may_u1 n w hg k1 k2 k3 k4 m0 m1 m2 HM
      | true => exact may_n1 n hok w hg k1 k2 k3 k4 m0 m1 m2 HM
    · cases named with
      | false => exact may_u0 n w hg k1 k2 k3 k4 m0 HM
      | true => exact may_n0 n hok w hg k1 k2 k3 k4 m0 HM
end Go.Proofs.YtiflfnnnbgmomaaDoor
