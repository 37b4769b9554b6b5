/- The walks of package source. -/
import Derived.Test.YtiflfnnnbgmomaaDoorLexA
namespace Go.Proofs.YtiflfnnnbgmomaaDoor
set_option linter.unusedVariables false
set_option linter.unusedSimpArgs false
open Go.RowKit
set_option maxHeartbeats 400000
set_option maxRecDepth 100000

def leadV (x : Nat × Nat × Nat) : Value := .tuple #[.int .i64 (x.1 : Int), .int .u8 (x.2.1 : Int), .int .u8 (x.2.2 : Int)]
theorem lead_any (b : Nat) (hb : b ≤ 255) (w : World) :
    Calls Tryd.prog 114 #[.int .u8 b] w fun e w' => e = .returned (leadV (leadN b)) ∧ w' = w := by
  by_cases h1 : b < 128
  · go_enter Tryd.func114, Tryd.ntmps114
    go_wp2
    go_ret3
    rw [leadN, if_pos h1]
    exact ⟨rfl, rfl⟩
  by_cases h2 : b < 194
  · go_enter Tryd.func114, Tryd.ntmps114
    go_wp2
    go_ret3
    rw [leadN, if_neg h1, if_pos (by omega)]
    exact ⟨rfl, rfl⟩
  by_cases h2' : 244 < b
  · go_enter Tryd.func114, Tryd.ntmps114
    go_wp2
    go_ret3
    rw [leadN, if_neg h1, if_pos (by omega)]
    exact ⟨rfl, rfl⟩
  by_cases h3 : b < 224
  · go_enter Tryd.func114, Tryd.ntmps114
    go_wp2
    go_ret3
    rw [leadN, if_neg h1, if_neg (by omega), if_pos h3]
    exact ⟨rfl, rfl⟩
  by_cases h4 : b = 224
  · subst h4
    go_enter Tryd.func114, Tryd.ntmps114
    go_wp2
    go_ret3
    exact ⟨rfl, rfl⟩
  by_cases h5 : b < 237
  · have g4 : ((b : Int) == 224) = false := by simp; omega
    go_enter Tryd.func114, Tryd.ntmps114
    go_wp2
    go_ret3
    rw [leadN, if_neg h1, if_neg (by omega), if_neg h3, if_neg h4, if_pos h5]
    exact ⟨rfl, rfl⟩
  by_cases h6 : b = 237
  · subst h6
    go_enter Tryd.func114, Tryd.ntmps114
    go_wp2
    go_ret3
    exact ⟨rfl, rfl⟩
  have g4 : ((b : Int) == 224) = false := by simp; omega
  have g6 : ((b : Int) == 237) = false := by simp; omega
  by_cases h7 : b < 240
  · go_enter Tryd.func114, Tryd.ntmps114
    go_wp2
    go_ret3
    rw [leadN, if_neg h1, if_neg (by omega), if_neg h3, if_neg h4, if_neg h5, if_neg h6, if_pos h7]
    exact ⟨rfl, rfl⟩
  by_cases h8 : b = 240
  · subst h8
    go_enter Tryd.func114, Tryd.ntmps114
    go_wp2
    go_ret3
    exact ⟨rfl, rfl⟩
  by_cases h9 : b = 244
  · subst h9
    go_enter Tryd.func114, Tryd.ntmps114
    go_wp2
    go_ret3
    exact ⟨rfl, rfl⟩
  have g8 : ((b : Int) == 240) = false := by simp; omega
  have g9 : ((b : Int) == 244) = false := by simp; omega
  go_enter Tryd.func114, Tryd.ntmps114
  go_wp2
  go_ret3
  rw [leadN, if_neg h1, if_neg (by omega), if_neg h3, if_neg h4, if_neg h5, if_neg h6, if_neg h7, if_neg h8, if_neg h9]
  exact ⟨rfl, rfl⟩

theorem tail_any (b : UInt8) (w : World) :
    Calls Tryd.prog 115 #[.int .u8 b.toNat] w fun e w' => e = .returned (.bool (tailB b)) ∧ w' = w := by
  by_cases h : 128 ≤ b.toNat
  · go_enter Tryd.func115, Tryd.ntmps115
    go_wp2
    go_ret
    refine ⟨ret_bool ?_, rfl⟩
    simp [tailB, h]
    omega
  · go_enter Tryd.func115, Tryd.ntmps115
    go_wp2
    go_ret
    refine ⟨ret_bool ?_, rfl⟩
    simp [tailB, h]

theorem leadN_range (b : Nat) : (leadN b).1 ≤ 4 ∧ (leadN b).2.1 ≤ 255 ∧ (leadN b).2.2 ≤ 255 := by
  unfold leadN
  repeat' split
  all_goals simp
theorem lead_at (c : UInt8) (n lo hi : Nat) (h : leadB c = (n, lo, hi)) (w : World) :
    Calls Tryd.prog 114 #[.int .u8 c.toNat] w fun e w' => e = .returned (.tuple #[.int .i64 (n : Int), .int .u8 (lo : Int), .int .u8 (hi : Int)]) ∧ w' = w := by
  have := lead_any c.toNat (by have := c.toNat_lt; omega) w
  rw [show leadN c.toNat = (n, lo, hi) from h] at this
  exact this
theorem getD_tl (s : ByteArray) (k : Nat) (h : k < s.size) : (tl s).getD k 0 = s[k] := by
  rw [List.getD_eq_getElem?_getD, List.getElem?_eq_getElem (by rw [tl_length]; exact h)]; rfl
theorem widthB_at (s : ByteArray) (h : 0 < s.size) (n lo hi : Nat) (hl : leadB s[0] = (n, lo, hi)) : widthB (tl s) = if s.size < n then 0 else if goodB n lo hi (tl s) then n else 0 := by
  have h1 := tl_head s h
  unfold widthB
  split
  · rename_i h2; rw [h2] at h1; cases h1
  · rename_i c r h2
    rw [h2] at h1
    injection h1 with h3 h4
    subst h3
    rw [hl, tl_length]
theorem width_any (s : ByteArray) (hs : s.size ≤ maxLen) (w : World) :
    Calls Tryd.prog 103 #[.string s] w fun e w' => e = .returned (.int .i64 (widthB (tl s) : Int)) ∧ w' = w := by
  have hs' := hs
  unfold maxLen at hs'
  by_cases h0 : 0 < s.size
  · have hne := nonempty_tl s h0
    have hne' := nonempty_tl' s h0
    obtain ⟨n, lo, hi, hl⟩ : ∃ n lo hi, leadB s[0] = (n, lo, hi) := ⟨_, _, _, rfl⟩
    have hr := leadN_range s[0].toNat
    rw [show leadN s[0].toNat = (n, lo, hi) from hl] at hr
    obtain ⟨r1, r2, r3⟩ := hr
    have r1 : n ≤ 4 := r1
    have r2 : lo ≤ 255 := r2
    have r3 : hi ≤ 255 := r3
    have HW := Lib.hid (widthB_at s h0 n lo hi hl)
    have HL := Lib.hid hl
    clear hl
    by_cases hbig : s.size < n
    · go_enter Tryd.func103, Tryd.ntmps103
      go_wp2_with (go_at_call 114; refine (lead_at _ n lo hi HL.out _).mono ?_; rintro e w2 ⟨rfl, rfl⟩)
      go_ret
      exact ⟨ret_int (by rw [HW.out, if_pos hbig]; rfl), rfl⟩
    · rw [if_neg hbig] at HW
      have hn : n = 0 ∨ n = 1 ∨ n = 2 ∨ n = 3 ∨ n = 4 := by omega
      rcases hn with rfl | rfl | rfl | rfl | rfl
      · go_enter Tryd.func103, Tryd.ntmps103
        go_wp2_with (go_at_call 114; refine (lead_at _ _ lo hi HL.out _).mono ?_; rintro e w2 ⟨rfl, rfl⟩)
        go_ret
        exact ⟨ret_int (by rw [HW.out]; simp), rfl⟩
      · go_enter Tryd.func103, Tryd.ntmps103
        go_wp2_with (go_at_call 114; refine (lead_at _ _ lo hi HL.out _).mono ?_; rintro e w2 ⟨rfl, rfl⟩)
        go_ret
        exact ⟨ret_int (by rw [HW.out]; simp [goodB]), rfl⟩
      · have HG := Lib.hid (show goodB 2 lo hi (tl s) = (decide (lo ≤ s[1].toNat) && decide (s[1].toNat ≤ hi)) by simp only [goodB, getD_tl s 1 (by omega)]; simp)
        go_enter Tryd.func103, Tryd.ntmps103
        go_wp2_with (first
          | (go_at_call 114; refine (lead_at _ _ lo hi HL.out _).mono ?_; rintro e w2 ⟨rfl, rfl⟩)
          | (go_at_call 115; refine (tail_any _ _).mono ?_; rintro e w3 ⟨rfl, rfl⟩))
        all_goals
          rw [HG.out] at HW
          go_ret
          refine ⟨ret_int ?_, rfl⟩
          rw [HW.out]
          clear HW HG HL
          first | (simp [*]; done) | (rename_i hz; simp only [Bool.not_eq_true', Bool.not_eq_false', decide_eq_false_iff_not, decide_eq_true_eq] at hz; simp [*]; done)
      · have HG := Lib.hid (show goodB 3 lo hi (tl s) = (tailB s[2] && (decide (lo ≤ s[1].toNat) && decide (s[1].toNat ≤ hi))) by simp only [goodB, getD_tl s 1 (by omega), getD_tl s 2 (by omega)]; simp)
        go_enter Tryd.func103, Tryd.ntmps103
        go_wp2_with (first
          | (go_at_call 114; refine (lead_at _ _ lo hi HL.out _).mono ?_; rintro e w2 ⟨rfl, rfl⟩)
          | (go_at_call 115; refine (tail_any _ _).mono ?_; rintro e w3 ⟨rfl, rfl⟩))
        all_goals
          rw [HG.out] at HW
          go_ret
          refine ⟨ret_int ?_, rfl⟩
          rw [HW.out]
          clear HW HG HL
          first | (simp [*]; done) | (rename_i hz; simp only [Bool.not_eq_true', Bool.not_eq_false', decide_eq_false_iff_not, decide_eq_true_eq] at hz; simp [*]; done)
      · have HG := Lib.hid (show goodB 4 lo hi (tl s) = (tailB s[3] && tailB s[2] && (decide (lo ≤ s[1].toNat) && decide (s[1].toNat ≤ hi))) by simp only [goodB, getD_tl s 1 (by omega), getD_tl s 2 (by omega), getD_tl s 3 (by omega)]; simp)
        go_enter Tryd.func103, Tryd.ntmps103
        go_wp2_with (first
          | (go_at_call 114; refine (lead_at _ _ lo hi HL.out _).mono ?_; rintro e w2 ⟨rfl, rfl⟩)
          | (go_at_call 115; refine (tail_any _ _).mono ?_; rintro e w3 ⟨rfl, rfl⟩))
        all_goals
          rw [HG.out] at HW
          go_ret
          refine ⟨ret_int ?_, rfl⟩
          rw [HW.out]
          clear HW HG HL
          first | (simp [*]; done) | (rename_i hz; simp only [Bool.not_eq_true', Bool.not_eq_false', decide_eq_false_iff_not, decide_eq_true_eq] at hz; simp [*]; done)
  · have hne := empty_tl s h0
    go_enter Tryd.func103, Tryd.ntmps103
    go_wp2
    go_ret
    refine ⟨ret_int ?_, rfl⟩
    rw [← toList_tl, hne]
    rfl

theorem validGo_step (s : ByteArray) (k f : Nat) (h : k < s.size) {R : Option Nat} (hr : R = validGo f ((tl s).drop k) k) (hf : s.size ≤ k + f) :
    (widthB ((tl s).drop k) = 0 → R = some k) ∧ (widthB ((tl s).drop k) ≠ 0 → R = validGo (f - 1) ((tl s).drop (k + widthB ((tl s).drop k))) (k + widthB ((tl s).drop k))) := by
  obtain ⟨f, rfl⟩ : ∃ g, f = g + 1 := ⟨f - 1, by omega⟩
  subst hr
  rw [drop_tl s k h]
  constructor
  · intro hc; rw [validGo, if_pos hc]
  · intro hc
    rw [validGo, if_neg hc, ← drop_tl s k h, List.drop_drop]
    simp
theorem widthB_le (s : Bs) : widthB s ≤ s.length := by
  unfold widthB
  split
  · exact Nat.zero_le _
  · split
    · exact Nat.zero_le _
    · split
      · rename_i h _; omega
      · exact Nat.zero_le _
theorem valid_end (s : ByteArray) (k f : Nat) (h : ¬ k < s.size) {R : Option Nat} (hr : R = validGo f ((tl s).drop k) k) : R = none := by
  rw [hr, List.drop_of_length_le (by rw [tl_length]; omega)]
  cases f <;> rfl
def validV : Option Nat → Value
  | none => .tuple #[.int .i64 0, .bool true]
  | some k => .tuple #[.int .i64 (k : Int), .bool false]
theorem valid_any (s : ByteArray) (hs : s.size ≤ maxLen) (w : World) :
    Calls Tryd.prog 83 #[.string s] w fun e w' => e = .returned (validV (validB (tl s))) ∧ w' = w := by
  have hs' := hs
  unfold maxLen at hs'
  go_enter Tryd.func83, Tryd.ntmps83
  go_wp2
  go_loop [4] (fun i => ∃ k f : Nat, k ≤ s.size ∧ s.size ≤ k + f ∧ i = .int .i64 k ∧ validB (tl s) = validGo f ((tl s).drop k) k) (fun i => s.size - (intOf i).toNat)
  case atStart => exact ⟨0, s.size, by omega, by omega, rfl, by rw [validB, tl_length]; rfl⟩
  case round =>
    obtain ⟨k, f, hk, hf, rfl, hr⟩ := hrel
    by_cases hlt : k < s.size
    · have HR := Lib.hid (validGo_step s k f hlt hr hf)
      clear hr
      have hwl := widthB_le ((tl s).drop k)
      rw [List.length_drop, tl_length] at hwl
      have hws : (s.extract k s.size).size ≤ maxLen := by simp [maxLen]; omega
      have HE := Lib.hid (tl_extract_from s k)
      by_cases hz : widthB ((tl s).drop k) = 0
      · have HZ := Lib.hid hz
        clear hz
        go_wp2_with (go_at_call 103; refine (width_any _ hws _).mono ?_; rintro e w3 ⟨rfl, rfl⟩; rw [HE.out, HZ.out])
        go_ret2
        rw [HR.out.1 HZ.out]
        exact ⟨rfl, rfl⟩
      · have hz' : ((widthB ((tl s).drop k) : Int) == 0) = false := by simp; omega
        go_wp2_with (go_at_call 103; refine (width_any _ hws _).mono ?_; rintro e w3 ⟨rfl, rfl⟩; rw [HE.out])
        go_round
        case rel => exact ⟨k + widthB ((tl s).drop k), f - 1, by omega, by omega, by go_num, HR.out.2 hz⟩
        case measure => simp [intOf]; omega
    · have HR := Lib.hid (valid_end s k f hlt hr)
      clear hr
      go_wp2
      go_ret2
      rw [HR.out]
      exact ⟨rfl, rfl⟩
end Go.Proofs.YtiflfnnnbgmomaaDoor
