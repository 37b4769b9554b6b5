/- Grow and Concat at texts. -/
import Derived.Test.YtiflfnnnbgmomaaDoorScopeD
namespace Go.Proofs.YtiflfnnnbgmomaaDoor
open Go.RowKit
set_option maxHeartbeats 1000000
set_option maxRecDepth 100000

theorem grow_strs (n : Nat) (hn : n ≤ 2000000) (w : World) :
    Calls Tryd.prog 75 #[.slice none 0 0, .int .i64 n] w fun e w' => ∃ v, e = .returned v ∧ w'.ownsRow w.heap.size 9 1 v 0 [] ∧ Below w.heap.size w w' := by
  rcases Nat.eq_zero_or_pos n with h0 | h0
  · subst h0
    refine (Any8.slices_Grow_room Tryd.growS none 0 0 0 w (by omega) (by omega) (by omega) (by omega)).mono ?_
    rintro e w' ⟨rfl, rfl⟩
    exact ⟨_, rfl, World.ownsRow_nil _ _ _ _, Below.refl _ _⟩
  · obtain ⟨i0, hi0, hz0, hz1, hz2⟩ := info_parts strInfo
    refine (Any8.slices_Grow_grow Tryd.growS i0 (.string ⟨#[]⟩) hi0 hz0 (by omega) none 0 0 n [] w (by omega) (by omega) (by rw [hz2]; omega) (by omega) (by simp) (fun _ => rfl) (fun a h => nomatch h)).mono ?_
    rintro e w' ⟨rfl, rfl⟩
    refine ⟨_, rfl, ⟨by simp, .inr ⟨_, _, _, rfl, Nat.le_refl _, heap_alloc_new w.drew _, by omega, ?_, ?_, by simp⟩⟩, ((Below.refl _ _).drew).alloc (Nat.le_refl _) _⟩
    · exact grownCap_le_maxLen w _ _ _ (by unfold maxLen; omega)
    · have := grownCap_ge w (0 + n) 0 9
      simp only [Array.size_append, size_zeroCells, List.size_toArray, List.length_nil]
      show 0 + (0 + n - 0) * 1 + (grownCap w (0 + n) 0 9 - (0 + n)) * 1 = _
      show _ = grownCap w (0 + n) 0 9 * 1
      omega
theorem concat_any (A1 A2 : Option Addr) (k1 k2 : Nat) (ss tt : List Bs) (b : Nat) (c : Nat) (w : World) (hlen : ss.length + tt.length ≤ 1000000) (hB : Blk w b 45 #[.slice A1 ss.length k1, .slice A2 tt.length k2]) (h1 : StrsAt w w.heap.size A1 ss) (h2 : StrsAt w w.heap.size A2 tt) :
    Calls Tryd.prog 50 #[.slice (some ⟨b, 0, none⟩) 2 c] w fun e w' => ∃ A cap, e = .returned (.slice A (ss ++ tt).length cap) ∧ StrsAt w' w'.heap.size A (ss ++ tt) ∧ (∀ p, A = some p → w.heap.size ≤ p.block) ∧ Below w.heap.size w w' := by
  obtain ⟨c0, c1⟩ := hB.c2
  have hlt := hB.lt
  have F1 := hB.frozen 0
  have F2 := hB.frozen 1
  clear hB
  have H1 := Lib.hid (h1.reads (by omega) strCells_len)
  have H2 := Lib.hid (h2.reads (by omega) strCells_len)
  clear h1 h2
  obtain ⟨i0, hi0, hz0, hz1, hz2⟩ := info_parts strInfo
  have GR : ∀ w : World, Calls Tryd.prog 75 #[.slice none 0 0, .int .i64 ((ss.length : Int) + (tt.length : Int))] w fun e w' => ∃ v, e = .returned v ∧ w'.ownsRow w.heap.size 9 1 v 0 [] ∧ Below w.heap.size w w' := by
    intro w
    have := grow_strs (ss.length + tt.length) (by omega) w
    rwa [show ((ss.length + tt.length : Nat) : Int) = (ss.length : Int) + (tt.length : Int) by omega] at this
  have HLEN := Lib.hid hlen
  have l1 : (ss.length : Int) ≤ 1000000 := by omega
  have l2 : (tt.length : Int) ≤ 1000000 := by omega
  have l3 : 0 ≤ (ss.length : Int) := by omega
  have l4 : 0 ≤ (tt.length : Int) := by omega
  go_enter Tryd.func50, Tryd.ntmps50
  go_wp2_with fail
  refine wp_loop_rounds 3 ?_
  rw [rounds_succ]
  go_wp2_with fail
  rw [rounds_succ]
  go_wp2_with fail
  rw [rounds_succ]
  go_wp2_with (go_at_call 75; refine (GR _).mono ?_; rintro e w1 ⟨v1, rfl, hown1, hb1⟩)
  have d0 := (hb1.cell (p := ⟨b, 0, none⟩) hlt).trans c0
  have d1 := (hb1.cell (p := ⟨b, 1, none⟩) hlt).trans c1.1
  have hlt1 : b < w1.heap.size := Nat.lt_of_lt_of_le hlt hb1.size
  have HR1 := Lib.hid (H1.out.below hb1)
  have HR2 := Lib.hid (H2.out.below hb1)
  have HO1 := Lib.hid hown1
  have HS1 := Lib.hid hb1.size
  clear hown1
  refine wp_loop_rounds 3 ?_
  rw [rounds_succ]
  go_wp2_with (at_builtin; refine wpList_append_any _ rfl (.tmp 31) (.tmp 32) _ rfl w.heap.size 9 i0 _ 1 16 Tryd.underlying45 hi0 hz0 hz1 hz2 rfl (by omega) _ 0 [] rfl HO1.out _ _ ss.length k1 _ rfl HR1.out ?c1 ?c2 ?c3 ?c4 ?_)
  case c1 => exact one_flat one_str ss
  case c2 => simp only [maxLen]; omega
  case c3 => omega
  case c4 => exact HS1.out
  · intro v2 w2 hown2 hg2 hat2
    have hb2 := hb1.grown hg2 HS1.out (fun k hk => own_ge HO1.out k hk)
    have e0 := (hb2.cell (p := ⟨b, 0, none⟩) hlt).trans c0
    have e1 := (hb2.cell (p := ⟨b, 1, none⟩) hlt).trans c1.1
    have HQ2 := Lib.hid (H2.out.below hb2)
    have HO2 := Lib.hid (show w2.ownsRow w.heap.size 9 1 v2 ss.length (ss.flatMap strCells) by simpa using hown2)
    have HS2 := Lib.hid hb2.size
    have HB2 := Lib.hid hb2
    clear hown2 hg2 hat2 hb2
    go_wp2_with fail
    rw [rounds_succ]
    go_wp2_with (at_builtin; refine wpList_append_any _ rfl (.tmp 31) (.tmp 32) _ rfl w.heap.size 9 i0 _ 1 16 Tryd.underlying45 hi0 hz0 hz1 hz2 rfl (by omega) _ ss.length (ss.flatMap strCells) rfl HO2.out _ _ tt.length k2 _ rfl HQ2.out ?c1 ?c2 ?c3 ?c4 ?_)
    case c1 => exact one_flat one_str tt
    case c2 => simp only [maxLen]; omega
    case c3 => omega
    case c4 => exact HS2.out
    · intro v3 w3 hown3 hg3 hat3
      have hb3 := HB2.out.grown hg3 HS2.out (fun k hk => own_ge HO2.out k hk)
      have HO3 := Lib.hid hown3
      have HB3 := Lib.hid hb3
      clear hown3 hg3 hat3 hb3
      go_wp2_with fail
      rw [rounds_succ]
      go_wp2_with fail
      go_ret
      have HW : w3.ownsRow w.heap.size 9 1 v3 (ss ++ tt).length ((ss ++ tt).flatMap strCells) := by
        have := HO3.out
        simpa using this
      obtain ⟨A, cap, rfl, hA⟩ := RowIs.of_own strCells_len HW
      exact ⟨A, cap, rfl, hA, fun p hp => own_ge HW p.block (by rw [hp]; rfl), HB3.out⟩
end Go.Proofs.YtiflfnnnbgmomaaDoor
