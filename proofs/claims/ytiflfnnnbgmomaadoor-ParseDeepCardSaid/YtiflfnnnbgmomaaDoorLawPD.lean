/- The law ParseMany: its walk. -/
import Derived.Test.YtiflfnnnbgmomaaDoorLawPA
import Derived.Test.YtiflfnnnbgmomaaDoorManyS
import Derived.Laws.BitsLemmas
import Derived.BigQuiet
import Derived.Deep.QuietTactic
namespace Go.Proofs.YtiflfnnnbgmomaaDoor
set_option linter.unusedVariables false
set_option linter.unusedSimpArgs false
open Go.RowKit
set_option maxHeartbeats 2000000
set_option maxRecDepth 100000

theorem and_small (x : Int) (m : Nat) (hm : m < 1000) : ∃ n : Nat, n ≤ m ∧ bits .and .i64 x (m : Int) = (n : Int) := by
  have hm2 : (BitVec.ofInt 64 (m : Int)).toNat = m := by rw [BitVec.ofInt_natCast, BitVec.toNat_ofNat]; exact Nat.mod_eq_of_lt (by omega)
  have hle : ((BitVec.ofInt 64 x).toNat &&& m) ≤ m := Nat.and_le_right
  refine ⟨(BitVec.ofInt 64 x).toNat &&& m, hle, ?_⟩
  show IntKind.i64.wrap ((BitVec.ofInt 64 x &&& BitVec.ofInt 64 (m : Int)).toNat : Int) = _
  rw [BitVec.toNat_and, hm2, IntKind.wrap_i64]
  omega
theorem ba_app (a b : Bs) : ba a ++ ba b = ba (a ++ b) := by
  apply ByteArray.ext
  simp [ba]
theorem parseMany_any (x : Int) (w : World) (hg : GE w) :
    Calls Tryd.prog 8 #[.int .i64 x] w fun e w' => e = .returned (.bool true) ∧ Below w.heap.size w w' := by
  obtain ⟨N, hN, hb0⟩ := and_small x 127 (by decide)
  have hb : bits .and .i64 x 127 = (N : Int) := hb0
  clear hb0
  have hpm := Lib.hid (parse_many (200 + N) (by omega))
  have hszm := many_len (200 + N)
  go_enter Tryd.func8, Tryd.ntmps8
  go_wp2_with fail
  refine (parseAwake_any w hg).mono ?_
  rintro e w1 ⟨rfl, hb1⟩
  have hg1 := hg.below hb1
  go_wp2_with fail
  go_loopw [4, 5] (fun tv iv wr => ∃ j : Nat, j ≤ 200 + N ∧ tv = .string (ba (manyText j)) ∧ iv = .int .i64 (j : Int) ∧ wr = w1) (fun _ iv _ => 200 + N - (intOf iv).toNat)
  case atStart => exact ⟨0, Nat.zero_le _, rfl, rfl, rfl⟩
  case round =>
    obtain ⟨j, hj, rfl, rfl, hwr⟩ := hrel
    subst hwr
    by_cases hlt : j < 200 + N
    · have hlti : (j : Int) < 200 + (N : Int) := by omega
      have happ : ba (manyText j) ++ { data := #[32, 43, 32, 49] } = ba (manyText (j + 1)) := by
        show ba (manyText j) ++ ba [32, 43, 32, 49] = _
        rw [ba_app]
        unfold manyText
        rw [rep_succ]
        rfl
      have hsj : (ba (manyText j)).size ≤ 2000 := by rw [ba_size, many_len]; omega
      go_wp2_with fail
      go_roundw
      case rel => exact ⟨j + 1, by omega, rfl, by go_num, trivial⟩
      case measure => simp [intOf]; omega
    · obtain rfl : j = 200 + N := by omega
      obtain ⟨sv, hsv⟩ : ∃ sv, ba (manyText (200 + N)) = sv := ⟨_, rfl⟩
      have hsz : sv.size = 4 * (200 + N) + 1 := by rw [← hsv, ba_size, many_len]
      have htl : tl sv = manyText (200 + N) := by rw [← hsv, tl_ba]
      rw [← htl] at hpm
      rw [hsv]
      clear hsv htl
      go_wp2_with fail
      refine (parse_any _ (by unfold maxLen; omega) _ hg1).mono ?_
      rcases hpm.out with ⟨hl, p, hp, hn⟩ | ⟨hl, a, hp, h3, h4⟩
      · rw [hp]
        have hl' : 2 * (200 + (N : Int)) + 1 ≤ 512 := by omega
        have hn' : ((p.nodes.length : Int)) = 2 * (200 + (N : Int)) + 1 := by omega
        rintro e w2 ⟨A1, c1, A1', c1', rfl, _, _, _, hb2⟩
        go_wp2_with (go_at_call 13; refine (numP_any _ _).mono ?_; rintro e w10 ⟨rfl, hw10⟩; obtain rfl := hw10)
        go_ret
        exact ⟨rfl, (hb1.trans (hb2.mono hb1.size)).alloc (Nat.le_trans hb1.size hb2.size) _⟩
      · rw [hp]
        have hl' : 2 * (200 + (N : Int)) + 1 > 512 := by omega
        have h3' : a > 0 := h3
        have h4' : a ≤ 4 * (200 + (N : Int)) + 1 := by omega
        rintro e w2 ⟨rfl, hb2⟩
        go_wp2_with (go_at_call 13; refine (numP_any _ _).mono ?_; rintro e w10 ⟨rfl, hw10⟩; obtain rfl := hw10)
        go_ret
        exact ⟨rfl, (hb1.trans (hb2.mono hb1.size)).alloc (Nat.le_trans hb1.size hb2.size) _⟩
end Go.Proofs.YtiflfnnnbgmomaaDoor
