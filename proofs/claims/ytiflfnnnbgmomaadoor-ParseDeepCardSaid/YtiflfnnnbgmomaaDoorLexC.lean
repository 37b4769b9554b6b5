/- The walks of package lex, second part: token, tokens. -/
import Derived.Test.YtiflfnnnbgmomaaDoorLexB
namespace Go.Proofs.YtiflfnnnbgmomaaDoor
set_option linter.unusedVariables false
set_option linter.unusedSimpArgs false
open Go.RowKit
set_option maxHeartbeats 400000
set_option maxRecDepth 100000

def tokCells (t : Tok) : List Value := [.int .i64 (t.kind : Int), .string (ba t.text), .int .i64 (t.num : Int), .int .i64 (t.pos : Int)]
/-- an error that is one of the program's own numbers -/
def errV (e : Nat) : Value := .iface 32 (.int .i64 (e : Int))
def tokenV : Except Nat (Tok × Nat) → Value
  | .ok (t, n) => .tuple #[.agg (tokCells t).toArray, .int .i64 (n : Int), .nilIface]
  | .error e => .tuple #[.agg (tokCells ⟨0, [], 0, 0⟩).toArray, .int .i64 0, errV e]

def signN (s : Bs) : Nat := if Lib.hasPrefix s [45, 62] || Lib.hasPrefix s [61, 61] then 2 else 1
theorem tokenB_sign (s : Bs) (hw : ((runB s moreL).isEmpty || headIn (runB s moreL) [95]) = true) :
    tokenB s = if headIn s signsL then .ok (⟨3, s.take (signN s), 0, 0⟩, signN s) else .error 201 := by
  unfold tokenB
  simp only [hw, if_true]
  rfl
theorem tokenB_num (s : Bs) (hw : ((runB s moreL).isEmpty || headIn (runB s moreL) [95]) = false) (hd : headIn (runB s moreL) digitsL = true) :
    tokenB s = match numB (runB s moreL) with | none => .error 202 | some x => .ok (⟨1, [], x, 0⟩, (runB s moreL).length) := by
  unfold tokenB
  simp only [hw, hd, if_true, Bool.false_eq_true, if_false]
  rfl
theorem tokenB_word (s : Bs) (hw : ((runB s moreL).isEmpty || headIn (runB s moreL) [95]) = false) (hd : headIn (runB s moreL) digitsL = false) :
    tokenB s = if kwB (runB s moreL) then .ok (⟨2, runB s moreL, 0, 0⟩, (runB s moreL).length) else if nameMay (runB s moreL) then .ok (⟨0, runB s moreL, 0, 0⟩, (runB s moreL).length) else .error 201 := by
  unfold tokenB
  simp only [hw, hd, Bool.false_eq_true, if_false]

theorem run_is (t : Bs) (s some v : ByteArray) (h : tl some = t) (hs : s.size ≤ maxLen) (hv : tl v = runB (tl s) t) (w : World) :
    Calls Tryd.prog 91 #[.string s, .string some] w fun e w' => e = .returned (.string v) ∧ w' = w := by
  have := run_at t s some h hs w
  rwa [← hv, ba_tl] at this
theorem hasPrefix_at (t : Bs) (s p : ByteArray) (h : tl p = t) (w : World) :
    Calls Tryd.prog 106 #[.string s, .string p] w fun e w' => e = .returned (.bool (Lib.hasPrefix (tl s) t)) ∧ w' = w := by
  subst h; exact Tryd.strings_HasPrefix s p w

theorem ba_take (s : ByteArray) (n : Nat) : ba ((tl s).take n) = s.extract 0 n := tl_inj (by rw [tl_ba, tl_extract_to])
theorem token_sign (s : ByteArray) (h0 : 0 < s.size) (hs : s.size ≤ maxLen) (v : ByteArray) (hv : tl v = runB (tl s) moreL) (hw : v.toList = [] ∨ (0 < v.size ∧ ∃ h : 0 < v.size, ((v[0].toNat : Int) == 95) = true)) (w : World) :
    Calls Tryd.prog 86 #[.string s] w fun e w' => e = .returned (tokenV (tokenB (tl s))) ∧ Below w.heap.size w w' := by
  have hs' := hs
  unfold maxLen at hs'
  have HV := Lib.hid hv
  have HT := Lib.hid (show tokenB (tl s) = if ofB s[0] signsL then .ok (⟨3, (tl s).take (signN (tl s)), 0, 0⟩, signN (tl s)) else .error 201 by
    rw [tokenB_sign, headIn_tl s h0]
    rw [← hv]
    rcases hw with hw | ⟨h, h', hw⟩
    · rw [← toList_tl, hw]; rfl
    · rw [headIn_tl v h]
      have e : v[0] = 95 := by rw [← UInt8.toNat_inj]; simp at hw; show v[0].toNat = 95; omega
      rw [e]; simp [ofB])
  clear hv
  have h2 : 2 ≤ s.size ∨ (Lib.hasPrefix (tl s) [45, 62] = false ∧ Lib.hasPrefix (tl s) [61, 61] = false) := by
    by_cases h : 2 ≤ s.size
    · exact .inl h
    · have hl : (tl s).length = 1 := by rw [tl_length]; omega
      match htl : tl s, hl with
      | [c], _ => exact .inr ⟨by simp only [Lib.hasPrefix, List.isPrefixOf]; simp, by simp only [Lib.hasPrefix, List.isPrefixOf]; simp⟩
  rcases hw with hw | ⟨hv0, h', hw⟩ <;> rcases h2 with h2 | ⟨p1, p2⟩
  all_goals
    go_enter Tryd.func86, Tryd.ntmps86
    go_wp2_with (first
      | (go_at_call 91; refine (run_is moreL _ _ v (by kernel_rfl) hs HV.out _).mono ?_; rintro e w2 ⟨rfl, rfl⟩)
      | (go_at_call 84; refine (of_at signsL _ _ (by kernel_rfl) _).mono ?_; rintro e w2 ⟨rfl, rfl⟩)
      | (go_at_call 106; refine (hasPrefix_at [45, 62] _ _ rfl _).mono ?_; rintro e w2 ⟨rfl, rfl⟩)
      | (go_at_call 106; refine (hasPrefix_at [61, 61] _ _ rfl _).mono ?_; rintro e w2 ⟨rfl, rfl⟩))
  all_goals
    refine bodyPost_ret (v := tokenV (tokenB (tl s))) ?_ rfl ⟨rfl, (Below.refl _ _).alloc (Nat.le_refl _) _⟩
    rw [HT.out]
  all_goals
    simp only [Bool.not_eq_true', Bool.not_eq_false'] at *
    simp [results, Tryd.results86, go_sem, tokenV, tokCells, errV, signN, ba_take, *]
  all_goals rfl

end Go.Proofs.YtiflfnnnbgmomaaDoor
