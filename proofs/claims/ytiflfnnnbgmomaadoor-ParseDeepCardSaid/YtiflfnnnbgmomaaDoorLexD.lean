/- The walks of package lex, third part: token's other ways. -/
import Derived.Test.YtiflfnnnbgmomaaDoorLexC
namespace Go.Proofs.YtiflfnnnbgmomaaDoor
set_option linter.unusedVariables false
set_option linter.unusedSimpArgs false
open Go.RowKit
set_option maxHeartbeats 400000
set_option maxRecDepth 100000
theorem runB_le (s t : Bs) : (runB s t).length ≤ s.length := by
  unfold runB
  induction s with
  | nil => simp
  | cons c r ih =>
    rw [List.takeWhile_cons]
    split
    · simp; exact ih
    · simp
/-- a text's first token is a word, a number, a name: what is read of it -/
theorem token_rest (s : ByteArray) (h0 : 0 < s.size) (hs : s.size ≤ maxLen) (v : ByteArray) (hv : tl v = runB (tl s) moreL) (hv0 : 0 < v.size) (h' : ((v[0].toNat : Int) == 95) = false) (w : World) (hg : G w) :
    Calls Tryd.prog 86 #[.string s] w fun e w' => e = .returned (tokenV (tokenB (tl s))) ∧ Below w.heap.size w w' := by
  have hs' := hs
  unfold maxLen at hs'
  have hvl : v.size ≤ s.size := by
    rw [← tl_length, ← tl_length, hv]; exact runB_le _ _
  have hvs : v.size ≤ maxLen := by simp only [maxLen]; omega
  have hA : ((runB (tl s) moreL).isEmpty || headIn (runB (tl s) moreL) [95]) = false := by
    rw [← hv, headIn_tl v hv0, ← toList_tl, nonempty_tl v hv0]
    have : ofB v[0] [95] = false := by
      rw [Bool.eq_false_iff]
      intro hc
      have : v[0] = 95 := by simpa [ofB] using hc
      rw [this] at h'
      exact absurd h' (by decide)
    rw [this]; rfl
  have HV := Lib.hid hv
  have hne := nonempty_tl v hv0
  have hne' := nonempty_tl' v hv0
  by_cases hd : ofB v[0] digitsL = true
  · have HT := Lib.hid (tokenB_num (tl s) hA (by rw [← hv, headIn_tl v hv0]; exact hd))
    rw [← hv, tl_length] at HT
    have HD := Lib.hid hd
    clear hd hA hv
    rcases hn : numB (tl v) with _ | x
    all_goals
      have HN := Lib.hid hn
      clear hn
      rw [HN.out] at HT
      have hd := HD.out
      go_enter Tryd.func86, Tryd.ntmps86
      go_wp2_with (first
        | (go_at_call 91; refine (run_is moreL _ _ v (by kernel_rfl) hs HV.out _).mono ?_; rintro e w2 ⟨rfl, rfl⟩)
        | (go_at_call 84; refine (of_at digitsL _ _ (by kernel_rfl) _).mono ?_; rintro e w2 ⟨rfl, rfl⟩)
        | (go_at_call 107; refine (number_any _ hvs _).mono ?_; rintro e w2 ⟨rfl, rfl⟩; rw [HN.out]; unfold numV))
      refine bodyPost_ret (v := tokenV (tokenB (tl s))) ?_ rfl ⟨rfl, (Below.refl _ _).alloc (Nat.le_refl _) _⟩
      rw [HT.out]
      simp [results, Tryd.results86, go_sem, tokenV, tokCells, errV]
      all_goals rfl
  · have HT := Lib.hid (tokenB_word (tl s) hA (by rw [← hv, headIn_tl v hv0]; exact Bool.eq_false_iff.2 hd))
    rw [← hv, tl_length] at HT
    have hd : ofB v[0] digitsL = false := Bool.eq_false_iff.2 hd
    clear hA hv
    by_cases hk : kwB (tl v) = true
    · rw [if_pos hk] at HT
      go_enter Tryd.func86, Tryd.ntmps86
      go_wp2_with (first
        | (go_at_call 91; refine (run_is moreL _ _ v (by kernel_rfl) hs HV.out _).mono ?_; rintro e w2 ⟨rfl, rfl⟩)
        | (go_at_call 84; refine (of_at digitsL _ _ (by kernel_rfl) _).mono ?_; rintro e w2 ⟨rfl, rfl⟩)
        | (go_at_call 92; refine (kw_any _ _ (hg.below ((Below.refl _ _).alloc (Nat.le_refl _) _))).mono ?_; rintro e w2 ⟨rfl, hb⟩
           obtain ⟨c0, c1, c2, c3, hf⟩ := ((Blk.new w _ _).below hb (by simp)).c4))
      refine bodyPost_ret (v := tokenV (tokenB (tl s))) ?_ rfl ⟨rfl, ((((after_alloc hb).setCell (by simp) _).setCell (by simp) _).setCell (by simp) _).setCell (by simp) _⟩
      rw [HT.out]
      simp [results, Tryd.results86, go_sem, tokenV, tokCells, errV, c0, c1, c2, c3]
    · have hk : kwB (tl v) = false := Bool.eq_false_iff.2 hk
      rw [hk] at HT
      simp only [Bool.false_eq_true, if_false] at HT
      cases hm : nameMay (tl v)
      all_goals
        have HM := Lib.hid hm
        rw [HM.out] at HT
        go_enter Tryd.func86, Tryd.ntmps86
        go_wp2_with (first
          | (go_at_call 91; refine (run_is moreL _ _ v (by kernel_rfl) hs HV.out _).mono ?_; rintro e w2 ⟨rfl, rfl⟩)
          | (go_at_call 84; refine (of_at digitsL _ _ (by kernel_rfl) _).mono ?_; rintro e w2 ⟨rfl, rfl⟩)
          | (go_at_call 92; refine (kw_any _ _ (hg.below ((Below.refl _ _).alloc (Nat.le_refl _) _))).mono ?_; rintro e w2 ⟨rfl, hb⟩
             have hb2 := after_alloc hb
             have B2 := (Blk.new w _ _).below hb (by simp)
             have hg2 := hg.below hb2)
          | (go_at_call 62; refine (nameMay_any _ hvs _ hg2).mono ?_; rintro e w3 ⟨rfl, hb3⟩
             have hlt := B2.lt
             have hb4 := hb2.trans (hb3.mono (Nat.le_of_lt hlt))
             obtain ⟨c0, c1, c2, c3, hf⟩ := (B2.below hb3 hlt).c4))
        refine bodyPost_ret (v := tokenV (tokenB (tl s))) ?_ rfl ⟨rfl, (((hb4.setCell (by simp) _).setCell (by simp) _).setCell (by simp) _).setCell (by simp) _⟩
        rw [HT.out]
        simp [results, Tryd.results86, go_sem, tokenV, tokCells, errV, c0, c1, c2, c3]
        all_goals rfl
theorem token_any (s : ByteArray) (h0 : 0 < s.size) (hs : s.size ≤ maxLen) (w : World) (hg : G w) :
    Calls Tryd.prog 86 #[.string s] w fun e w' => e = .returned (tokenV (tokenB (tl s))) ∧ Below w.heap.size w w' := by
  obtain ⟨v, hv⟩ : ∃ v, tl v = runB (tl s) moreL := ⟨ba _, tl_ba _⟩
  by_cases hv0 : 0 < v.size
  · by_cases h' : ((v[0].toNat : Int) == 95) = true
    · exact token_sign s h0 hs v hv (.inr ⟨hv0, hv0, h'⟩) w
    · exact token_rest s h0 hs v hv hv0 (Bool.eq_false_iff.2 h') w hg
  · exact token_sign s h0 hs v hv (.inl (empty_tl v hv0)) w
end Go.Proofs.YtiflfnnnbgmomaaDoor
