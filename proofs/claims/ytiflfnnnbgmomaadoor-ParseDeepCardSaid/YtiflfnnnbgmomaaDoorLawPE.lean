/- The law ParseDeep: its walk. -/
import Derived.Test.YtiflfnnnbgmomaaDoorLawPD
namespace Go.Proofs.YtiflfnnnbgmomaaDoor
set_option linter.unusedVariables false
set_option linter.unusedSimpArgs false
open Go.RowKit
set_option maxHeartbeats 2000000
set_option maxRecDepth 100000

theorem parseDeep_0 (x y : Int) (hk : bits .and .i64 x 3 = 0) (N : Nat) (hN : N ≤ 63) (hb : bits .and .i64 y 63 = (N : Int)) (w : World) (hg : GE w) :
    Calls Tryd.prog 7 #[.int .i64 x, .int .i64 y] w fun e w' => e = .returned (.bool true) ∧ Below w.heap.size w w' := by
  have hpm := Lib.hid (deep_parse 0 N (by decide) (by omega))
  have hszm := deep_len 0 N (by decide)
  have hopl : (rep N (opener 0)).length = N * 1 := by rw [rep_len]; rfl
  go_enter Tryd.func7, Tryd.ntmps7
  go_wp2_with fail
  refine (parseAwake_any w hg).mono ?_
  rintro e w1 ⟨rfl, hb1⟩
  have hg1 := hg.below hb1
  go_wp2_with fail
  go_loopw [6, 7, 8] (fun tv uv iv wr => ∃ j : Nat, j ≤ N ∧ tv = .string (ba (rep j (opener 0))) ∧ uv = .string (ba (49 :: rep j (closer 0))) ∧ iv = .int .i64 ((j : Int) + 1) ∧ wr = w1) (fun _ _ iv _ => N + 1 - (intOf iv).toNat)
  case atStart => exact ⟨0, Nat.zero_le _, rfl, rfl, rfl, rfl⟩
  case round =>
    obtain ⟨j, hj, rfl, rfl, rfl, hwr⟩ := hrel
    subst hwr
    by_cases hlt : j < N
    · have hlti : (j : Int) + 1 < 1 + (N : Int) := by omega
      have happ : ba (rep j (opener 0)) ++ { data := #[40] } = ba (rep (j + 1) (opener 0)) := by
        show ba (rep j (opener 0)) ++ ba (opener 0) = _
        rw [ba_app, rep_succ]
      have happ2 : ba (49 :: rep j (closer 0)) ++ { data := #[41] } = ba (49 :: rep (j + 1) (closer 0)) := by
        show ba (49 :: rep j (closer 0)) ++ ba (closer 0) = _
        rw [ba_app, rep_succ]
        rfl
      have hsj : (ba (rep j (opener 0))).size ≤ 2000 := by rw [ba_size, rep_len, show (opener 0).length = 1 from rfl]; omega
      have hsk : (ba (49 :: rep j (closer 0))).size ≤ 2000 := by rw [ba_size, List.length_cons, rep_close, rep_len]; unfold closeN; simp <;> omega
      go_wp2_with fail
      go_roundw
      case rel => exact ⟨j + 1, by omega, rfl, rfl, by go_num, trivial⟩
      case measure => simp [intOf]; omega
    · obtain rfl : j = N := by omega
      have happ : ba (rep j (opener 0)) ++ ba (49 :: rep j (closer 0)) = ba (deepText 0 j) := ba_app _ _
      obtain ⟨sv, hsv⟩ : ∃ sv, ba (deepText 0 j) = sv := ⟨_, rfl⟩
      have hsz : sv.size = j * opLen 0 + (closeN 0 j + 1) := by rw [← hsv, ba_size, hszm]
      have hcl : closeN 0 j ≤ j := by unfold closeN; split <;> omega
      have htl : tl sv = deepText 0 j := by rw [← hsv, tl_ba]
      have hso : (ba (rep j (opener 0))).size = j * 1 := by rw [ba_size, hopl]
      have hsk : (ba (49 :: rep j (closer 0))).size ≤ 2000 := by rw [ba_size, List.length_cons, rep_close, rep_len]; unfold closeN; simp <;> omega
      have hol : opLen 0 = 1 := rfl
      rw [hol] at hsz
      rw [← htl] at hpm
      rw [hsv] at happ
      clear hsv htl hszm hopl
      go_wp2_with fail
      refine (parse_any _ (by unfold maxLen; omega) _ hg1).mono ?_
      rcases hpm.out with ⟨hl, p, hp, hn, _⟩ | ⟨hl, a, hp, h3, h4⟩
      · rw [hp]
        have hl' : ¬ (1 + (j : Int) > 40) := by omega
        have hn' : ((p.nodes.length : Int)) > 0 := by omega
        rintro e w2 ⟨A1, c1, A1', c1', rfl, _, _, _, hb2⟩
        go_wp2_with (go_at_call 13; refine (numP_any _ _).mono ?_; rintro e w10 ⟨rfl, hw10⟩; obtain rfl := hw10)
        go_ret
        exact ⟨rfl, (hb1.trans (hb2.mono hb1.size)).alloc (Nat.le_trans hb1.size hb2.size) _⟩
      · rw [hp]
        rw [hol] at h4
        have hl' : 1 + (j : Int) > 40 := by omega
        have h3' : a > 0 := h3
        have h4' : a ≤ (j : Int) := by omega
        rintro e w2 ⟨rfl, hb2⟩
        go_wp2_with (go_at_call 13; refine (numP_any _ _).mono ?_; rintro e w10 ⟨rfl, hw10⟩; obtain rfl := hw10)
        go_ret
        exact ⟨rfl, (hb1.trans (hb2.mono hb1.size)).alloc (Nat.le_trans hb1.size hb2.size) _⟩
theorem parseDeep_1 (x y : Int) (hk : bits .and .i64 x 3 = 1) (N : Nat) (hN : N ≤ 63) (hb : bits .and .i64 y 63 = (N : Int)) (w : World) (hg : GE w) :
    Calls Tryd.prog 7 #[.int .i64 x, .int .i64 y] w fun e w' => e = .returned (.bool true) ∧ Below w.heap.size w w' := by
  have hpm := Lib.hid (deep_parse 1 N (by decide) (by omega))
  have hszm := deep_len 1 N (by decide)
  have hopl : (rep N (opener 1)).length = N * 9 := by rw [rep_len]; rfl
  go_enter Tryd.func7, Tryd.ntmps7
  go_wp2_with fail
  refine (parseAwake_any w hg).mono ?_
  rintro e w1 ⟨rfl, hb1⟩
  have hg1 := hg.below hb1
  go_wp2_with fail
  go_loopw [6, 7, 8] (fun tv uv iv wr => ∃ j : Nat, j ≤ N ∧ tv = .string (ba (rep j (opener 1))) ∧ uv = .string (ba (49 :: rep j (closer 1))) ∧ iv = .int .i64 ((j : Int) + 1) ∧ wr = w1) (fun _ _ iv _ => N + 1 - (intOf iv).toNat)
  case atStart => exact ⟨0, Nat.zero_le _, rfl, rfl, rfl, rfl⟩
  case round =>
    obtain ⟨j, hj, rfl, rfl, rfl, hwr⟩ := hrel
    subst hwr
    by_cases hlt : j < N
    · have hlti : (j : Int) + 1 < 1 + (N : Int) := by omega
      have happ : ba (rep j (opener 1)) ++ { data := #[102, 117, 110, 32, 120, 32, 45, 62, 32] } = ba (rep (j + 1) (opener 1)) := by
        show ba (rep j (opener 1)) ++ ba (opener 1) = _
        rw [ba_app, rep_succ]
      have hcl : rep (j + 1) (closer 1) = rep j (closer 1) := by rw [show closer 1 = [] from rfl, rep_nil, rep_nil]
      have hsj : (ba (rep j (opener 1))).size ≤ 2000 := by rw [ba_size, rep_len, show (opener 1).length = 9 from rfl]; omega
      have hsk : (ba (49 :: rep j (closer 1))).size ≤ 2000 := by rw [ba_size, List.length_cons, rep_close, rep_len]; unfold closeN; simp <;> omega
      go_wp2_with fail
      go_roundw
      case rel => exact ⟨j + 1, by omega, rfl, by rw [hcl], by go_num, trivial⟩
      case measure => simp [intOf]; omega
    · obtain rfl : j = N := by omega
      have happ : ba (rep j (opener 1)) ++ ba (49 :: rep j (closer 1)) = ba (deepText 1 j) := ba_app _ _
      obtain ⟨sv, hsv⟩ : ∃ sv, ba (deepText 1 j) = sv := ⟨_, rfl⟩
      have hsz : sv.size = j * opLen 1 + (closeN 1 j + 1) := by rw [← hsv, ba_size, hszm]
      have hcl : closeN 1 j ≤ j := by unfold closeN; split <;> omega
      have htl : tl sv = deepText 1 j := by rw [← hsv, tl_ba]
      have hso : (ba (rep j (opener 1))).size = j * 9 := by rw [ba_size, hopl]
      have hsk : (ba (49 :: rep j (closer 1))).size ≤ 2000 := by rw [ba_size, List.length_cons, rep_close, rep_len]; unfold closeN; simp <;> omega
      have hol : opLen 1 = 9 := rfl
      rw [hol] at hsz
      rw [← htl] at hpm
      rw [hsv] at happ
      clear hsv htl hszm hopl
      go_wp2_with fail
      refine (parse_any _ (by unfold maxLen; omega) _ hg1).mono ?_
      rcases hpm.out with ⟨hl, p, hp, hn, _⟩ | ⟨hl, a, hp, h3, h4⟩
      · rw [hp]
        have hl' : ¬ (1 + (j : Int) > 40) := by omega
        have hn' : ((p.nodes.length : Int)) > 0 := by omega
        rintro e w2 ⟨A1, c1, A1', c1', rfl, _, _, _, hb2⟩
        go_wp2_with (go_at_call 13; refine (numP_any _ _).mono ?_; rintro e w10 ⟨rfl, hw10⟩; obtain rfl := hw10)
        go_ret
        exact ⟨rfl, (hb1.trans (hb2.mono hb1.size)).alloc (Nat.le_trans hb1.size hb2.size) _⟩
      · rw [hp]
        rw [hol] at h4
        have hl' : 1 + (j : Int) > 40 := by omega
        have h3' : a > 0 := h3
        have h4' : a ≤ (j : Int) * 9 := by omega
        rintro e w2 ⟨rfl, hb2⟩
        go_wp2_with (go_at_call 13; refine (numP_any _ _).mono ?_; rintro e w10 ⟨rfl, hw10⟩; obtain rfl := hw10)
        go_ret
        exact ⟨rfl, (hb1.trans (hb2.mono hb1.size)).alloc (Nat.le_trans hb1.size hb2.size) _⟩
theorem parseDeep_2 (x y : Int) (hk : bits .and .i64 x 3 = 2) (N : Nat) (hN : N ≤ 63) (hb : bits .and .i64 y 63 = (N : Int)) (w : World) (hg : GE w) :
    Calls Tryd.prog 7 #[.int .i64 x, .int .i64 y] w fun e w' => e = .returned (.bool true) ∧ Below w.heap.size w w' := by
  have hpm := Lib.hid (deep_parse 2 N (by decide) (by omega))
  have hszm := deep_len 2 N (by decide)
  have hopl : (rep N (opener 2)).length = N * 17 := by rw [rep_len]; rfl
  go_enter Tryd.func7, Tryd.ntmps7
  go_wp2_with fail
  refine (parseAwake_any w hg).mono ?_
  rintro e w1 ⟨rfl, hb1⟩
  have hg1 := hg.below hb1
  go_wp2_with fail
  go_loopw [6, 7, 8] (fun tv uv iv wr => ∃ j : Nat, j ≤ N ∧ tv = .string (ba (rep j (opener 2))) ∧ uv = .string (ba (49 :: rep j (closer 2))) ∧ iv = .int .i64 ((j : Int) + 1) ∧ wr = w1) (fun _ _ iv _ => N + 1 - (intOf iv).toNat)
  case atStart => exact ⟨0, Nat.zero_le _, rfl, rfl, rfl, rfl⟩
  case round =>
    obtain ⟨j, hj, rfl, rfl, rfl, hwr⟩ := hrel
    subst hwr
    by_cases hlt : j < N
    · have hlti : (j : Int) + 1 < 1 + (N : Int) := by omega
      have happ : ba (rep j (opener 2)) ++ { data := #[105, 102, 32, 97, 32, 116, 104, 101, 110, 32, 98, 32, 101, 108, 115, 101, 32] } = ba (rep (j + 1) (opener 2)) := by
        show ba (rep j (opener 2)) ++ ba (opener 2) = _
        rw [ba_app, rep_succ]
      have hcl : rep (j + 1) (closer 2) = rep j (closer 2) := by rw [show closer 2 = [] from rfl, rep_nil, rep_nil]
      have hsj : (ba (rep j (opener 2))).size ≤ 2000 := by rw [ba_size, rep_len, show (opener 2).length = 17 from rfl]; omega
      have hsk : (ba (49 :: rep j (closer 2))).size ≤ 2000 := by rw [ba_size, List.length_cons, rep_close, rep_len]; unfold closeN; simp <;> omega
      go_wp2_with fail
      go_roundw
      case rel => exact ⟨j + 1, by omega, rfl, by rw [hcl], by go_num, trivial⟩
      case measure => simp [intOf]; omega
    · obtain rfl : j = N := by omega
      have happ : ba (rep j (opener 2)) ++ ba (49 :: rep j (closer 2)) = ba (deepText 2 j) := ba_app _ _
      obtain ⟨sv, hsv⟩ : ∃ sv, ba (deepText 2 j) = sv := ⟨_, rfl⟩
      have hsz : sv.size = j * opLen 2 + (closeN 2 j + 1) := by rw [← hsv, ba_size, hszm]
      have hcl : closeN 2 j ≤ j := by unfold closeN; split <;> omega
      have htl : tl sv = deepText 2 j := by rw [← hsv, tl_ba]
      have hso : (ba (rep j (opener 2))).size = j * 17 := by rw [ba_size, hopl]
      have hsk : (ba (49 :: rep j (closer 2))).size ≤ 2000 := by rw [ba_size, List.length_cons, rep_close, rep_len]; unfold closeN; simp <;> omega
      have hol : opLen 2 = 17 := rfl
      rw [hol] at hsz
      rw [← htl] at hpm
      rw [hsv] at happ
      clear hsv htl hszm hopl
      go_wp2_with fail
      refine (parse_any _ (by unfold maxLen; omega) _ hg1).mono ?_
      rcases hpm.out with ⟨hl, p, hp, hn, _⟩ | ⟨hl, a, hp, h3, h4⟩
      · rw [hp]
        have hl' : ¬ (1 + (j : Int) > 40) := by omega
        have hn' : ((p.nodes.length : Int)) > 0 := by omega
        rintro e w2 ⟨A1, c1, A1', c1', rfl, _, _, _, hb2⟩
        go_wp2_with (go_at_call 13; refine (numP_any _ _).mono ?_; rintro e w10 ⟨rfl, hw10⟩; obtain rfl := hw10)
        go_ret
        exact ⟨rfl, (hb1.trans (hb2.mono hb1.size)).alloc (Nat.le_trans hb1.size hb2.size) _⟩
      · rw [hp]
        rw [hol] at h4
        have hl' : 1 + (j : Int) > 40 := by omega
        have h3' : a > 0 := h3
        have h4' : a ≤ (j : Int) * 17 := by omega
        rintro e w2 ⟨rfl, hb2⟩
        go_wp2_with (go_at_call 13; refine (numP_any _ _).mono ?_; rintro e w10 ⟨rfl, hw10⟩; obtain rfl := hw10)
        go_ret
        exact ⟨rfl, (hb1.trans (hb2.mono hb1.size)).alloc (Nat.le_trans hb1.size hb2.size) _⟩
theorem parseDeep_3 (x y : Int) (hk : bits .and .i64 x 3 = 3) (N : Nat) (hN : N ≤ 63) (hb : bits .and .i64 y 63 = (N : Int)) (w : World) (hg : GE w) :
    Calls Tryd.prog 7 #[.int .i64 x, .int .i64 y] w fun e w' => e = .returned (.bool true) ∧ Below w.heap.size w w' := by
  have hpm := Lib.hid (deep_parse 3 N (by decide) (by omega))
  have hszm := deep_len 3 N (by decide)
  have hopl : (rep N (opener 3)).length = N * 13 := by rw [rep_len]; rfl
  go_enter Tryd.func7, Tryd.ntmps7
  go_wp2_with fail
  refine (parseAwake_any w hg).mono ?_
  rintro e w1 ⟨rfl, hb1⟩
  have hg1 := hg.below hb1
  go_wp2_with fail
  go_loopw [6, 7, 8] (fun tv uv iv wr => ∃ j : Nat, j ≤ N ∧ tv = .string (ba (rep j (opener 3))) ∧ uv = .string (ba (49 :: rep j (closer 3))) ∧ iv = .int .i64 ((j : Int) + 1) ∧ wr = w1) (fun _ _ iv _ => N + 1 - (intOf iv).toNat)
  case atStart => exact ⟨0, Nat.zero_le _, rfl, rfl, rfl, rfl⟩
  case round =>
    obtain ⟨j, hj, rfl, rfl, rfl, hwr⟩ := hrel
    subst hwr
    by_cases hlt : j < N
    · have hlti : (j : Int) + 1 < 1 + (N : Int) := by omega
      have happ : ba (rep j (opener 3)) ++ { data := #[108, 101, 116, 32, 120, 32, 61, 32, 49, 32, 105, 110, 32] } = ba (rep (j + 1) (opener 3)) := by
        show ba (rep j (opener 3)) ++ ba (opener 3) = _
        rw [ba_app, rep_succ]
      have hcl : rep (j + 1) (closer 3) = rep j (closer 3) := by rw [show closer 3 = [] from rfl, rep_nil, rep_nil]
      have hsj : (ba (rep j (opener 3))).size ≤ 2000 := by rw [ba_size, rep_len, show (opener 3).length = 13 from rfl]; omega
      have hsk : (ba (49 :: rep j (closer 3))).size ≤ 2000 := by rw [ba_size, List.length_cons, rep_close, rep_len]; unfold closeN; simp <;> omega
      go_wp2_with fail
      go_roundw
      case rel => exact ⟨j + 1, by omega, rfl, by rw [hcl], by go_num, trivial⟩
      case measure => simp [intOf]; omega
    · obtain rfl : j = N := by omega
      have happ : ba (rep j (opener 3)) ++ ba (49 :: rep j (closer 3)) = ba (deepText 3 j) := ba_app _ _
      obtain ⟨sv, hsv⟩ : ∃ sv, ba (deepText 3 j) = sv := ⟨_, rfl⟩
      have hsz : sv.size = j * opLen 3 + (closeN 3 j + 1) := by rw [← hsv, ba_size, hszm]
      have hcl : closeN 3 j ≤ j := by unfold closeN; split <;> omega
      have htl : tl sv = deepText 3 j := by rw [← hsv, tl_ba]
      have hso : (ba (rep j (opener 3))).size = j * 13 := by rw [ba_size, hopl]
      have hsk : (ba (49 :: rep j (closer 3))).size ≤ 2000 := by rw [ba_size, List.length_cons, rep_close, rep_len]; unfold closeN; simp <;> omega
      have hol : opLen 3 = 13 := rfl
      rw [hol] at hsz
      rw [← htl] at hpm
      rw [hsv] at happ
      clear hsv htl hszm hopl
      go_wp2_with fail
      refine (parse_any _ (by unfold maxLen; omega) _ hg1).mono ?_
      rcases hpm.out with ⟨hl, p, hp, hn, _⟩ | ⟨hl, a, hp, h3, h4⟩
      · rw [hp]
        have hl' : ¬ (1 + (j : Int) > 40) := by omega
        have hn' : ((p.nodes.length : Int)) > 0 := by omega
        rintro e w2 ⟨A1, c1, A1', c1', rfl, _, _, _, hb2⟩
        go_wp2_with (go_at_call 13; refine (numP_any _ _).mono ?_; rintro e w10 ⟨rfl, hw10⟩; obtain rfl := hw10)
        go_ret
        exact ⟨rfl, (hb1.trans (hb2.mono hb1.size)).alloc (Nat.le_trans hb1.size hb2.size) _⟩
      · rw [hp]
        rw [hol] at h4
        have hl' : 1 + (j : Int) > 40 := by omega
        have h3' : a > 0 := h3
        have h4' : a ≤ (j : Int) * 13 := by omega
        rintro e w2 ⟨rfl, hb2⟩
        go_wp2_with (go_at_call 13; refine (numP_any _ _).mono ?_; rintro e w10 ⟨rfl, hw10⟩; obtain rfl := hw10)
        go_ret
        exact ⟨rfl, (hb1.trans (hb2.mono hb1.size)).alloc (Nat.le_trans hb1.size hb2.size) _⟩
theorem parseDeep_any (x y : Int) (w : World) (hg : GE w) :
    Calls Tryd.prog 7 #[.int .i64 x, .int .i64 y] w fun e w' => e = .returned (.bool true) ∧ Below w.heap.size w w' := by
  obtain ⟨K, hK, hk⟩ := and_small x 3 (by decide)
  obtain ⟨N, hN, hb⟩ := and_small y 63 (by decide)
  match K, hK, hk with
  | 0, _, hk => exact parseDeep_0 x y hk N hN hb w hg
  | 1, _, hk => exact parseDeep_1 x y hk N hN hb w hg
  | 2, _, hk => exact parseDeep_2 x y hk N hN hb w hg
  | 3, _, hk => exact parseDeep_3 x y hk N hN hb w hg
end Go.Proofs.YtiflfnnnbgmomaaDoor
