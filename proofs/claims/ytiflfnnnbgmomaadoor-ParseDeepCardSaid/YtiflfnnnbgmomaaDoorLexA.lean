/- The walks of package lex, first part: of, run, Keyword, NameMay, number. -/
import Derived.Test.YtiflfnnnbgmomaaDoorProg
import Derived.Test.YtiflfnnnbgmomaaDoorMem
import Derived.Test.YtiflfnnnbgmomaaDoorLexS
import Derived.Shelf.Small.Strs
import Derived.Test.YtiflfnnnbgmomaaDoorShelf
import Derived.WalkSpells
import Derived.WalkLawsBesides
import Derived.BigQuiet
import Derived.Outline
import Derived.Lib.IndexAny
import Derived.ChangeAgain
namespace Go.Proofs.YtiflfnnnbgmomaaDoor
set_option linter.unusedVariables false
set_option linter.unusedSimpArgs false
open Go.RowKit
set_option maxHeartbeats 400000

/-- What the walks take of the program's own variables: the world has the program's shape. -/
structure G (w : World) : Prop where
  shaped : w.ShapedOpen Tryd.prog
  low : Tryd.prog.low ≤ w.heap.size
theorem G.below {w w' : World} (h : G w) (hb : Below w.heap.size w w') : G w' :=
  ⟨h.shaped.keptBut (hb.frame (fun p => Tryd.prog.low ≤ p.block)) (fun _ hp => hp), Nat.le_trans h.low hb.size⟩

theorem drop_tl (s : ByteArray) (k : Nat) (h : k < s.size) : (tl s).drop k = s[k] :: (tl s).drop (k + 1) := by
  rw [List.drop_eq_getElem_cons (by rw [tl_length]; exact h)]; rfl
theorem take_tl (s : ByteArray) (k : Nat) (h : k < s.size) : (tl s).take (k + 1) = (tl s).take k ++ [s[k]] := by
  rw [List.take_succ_eq_append_getElem (by rw [tl_length]; exact h)]; rfl
theorem tl_extract (s : ByteArray) (a b : Nat) : tl (s.extract a b) = ((tl s).take b).drop a := by
  simp [tl, List.extract, List.drop_take]
theorem tl_extract_to (s : ByteArray) (b : Nat) : tl (s.extract 0 b) = (tl s).take b := by simp [tl_extract]
theorem tl_extract_from (s : ByteArray) (a : Nat) : tl (s.extract a s.size) = (tl s).drop a := by
  rw [tl_extract, ← tl_length, List.take_length]
theorem ret_str {a b : ByteArray} (h : a = b) : Ending.returned (.string a) = .returned (.string b) := by rw [h]
theorem ret_bool {a b : Bool} (h : a = b) : Ending.returned (.bool a) = .returned (.bool b) := by rw [h]
theorem ret_int {k : IntKind} {a b : Int} (h : a = b) : Ending.returned (.int k a) = .returned (.int k b) := by rw [h]

theorem of_any (c : UInt8) (s : ByteArray) (w : World) :
    Calls Tryd.prog 84 #[.int .u8 c.toNat, .string s] w fun e w' => e = .returned (.bool (ofB c (tl s))) ∧ w' = w := by
  go_enter Tryd.func84, Tryd.ntmps84
  go_wp2_with (go_at_call 104; refine (Tryd.strings_IndexByte _ _ _).mono ?_; rintro e w' ⟨rfl, rfl⟩)
  go_ret
  refine ⟨?_, rfl⟩
  unfold ofB tl
  rw [Lib.contains_iff_indexByte]
  rfl

theorem runB_step (s : ByteArray) (t : Bs) (k : Nat) (h : k < s.size) (hr : runB (tl s) t = (tl s).take k ++ runB ((tl s).drop k) t) :
    (ofB s[k] t = true → runB (tl s) t = (tl s).take (k + 1) ++ runB ((tl s).drop (k + 1)) t) ∧ (ofB s[k] t = false → runB (tl s) t = (tl s).take k) := by
  rw [drop_tl s k h] at hr
  constructor
  · intro hc
    rw [hr, take_tl s k h]
    simp [runB, List.takeWhile_cons, hc]
  · intro hc
    rw [hr]
    simp [runB, List.takeWhile_cons, hc]

theorem run_any (s some : ByteArray) (hs : s.size ≤ maxLen) (w : World) :
    Calls Tryd.prog 91 #[.string s, .string some] w fun e w' => e = .returned (.string (ba (runB (tl s) (tl some)))) ∧ w' = w := by
  unfold maxLen at hs
  go_enter Tryd.func91, Tryd.ntmps91
  go_wp2
  go_loop [5] (fun i => ∃ k : Nat, k ≤ s.size ∧ i = .int .i64 k ∧ runB (tl s) (tl some) = (tl s).take k ++ runB ((tl s).drop k) (tl some)) (fun i => s.size - (intOf i).toNat)
  case atStart => exact ⟨0, by omega, rfl, by simp⟩
  case round =>
    obtain ⟨k, hk, rfl, hr⟩ := hrel
    by_cases hlt : k < s.size
    · have HA := Lib.hid (runB_step s (tl some) k hlt hr)
      clear hr
      go_wp2_with (go_at_call 84; refine (of_any _ _ _).mono ?_; rintro e w' ⟨rfl, rfl⟩)
      · have hc : ofB s[k] (tl some) = true := by assumption
        go_round
        case rel => exact ⟨k + 1, by omega, by go_num, HA.out.1 hc⟩
        case measure => simp [intOf]; omega
      · have hc : ofB s[k] (tl some) = false := by assumption
        go_ret
        exact ⟨ret_str (tl_inj (by rw [tl_ba, HA.out.2 hc, tl_extract_to])), rfl⟩
    · have HA := Lib.hid hr
      clear hr
      go_wp2
      go_ret
      refine ⟨ret_str (tl_inj ?_), rfl⟩
      obtain rfl : k = s.size := by omega
      rw [tl_ba, HA.out, tl_extract_to, ← tl_length]
      simp [runB]

def kwBA : List ByteArray := kwL.map ba
def kwText : Bs := [102, 117, 110, 32, 108, 101, 116, 32, 114, 101, 99, 32, 105, 110, 32, 105, 102, 32, 116, 104, 101, 110, 32, 101, 108, 115, 101, 32, 104, 97, 110, 100, 108, 101, 32, 119, 105, 116, 104, 32, 114, 101, 116, 117, 114, 110, 32, 101, 110, 100, 32, 100, 111, 32, 111, 112, 32, 116, 114, 117, 101, 32, 102, 97, 108, 115, 101, 32, 105, 110, 116, 32, 98, 111, 111, 108]
theorem kw_count : Lib.countB (ba kwText) ⟨#[32]⟩ = 16 := by decide +kernel
theorem kw_split : Lib.splitB ⟨#[32]⟩ 0 16 (ba kwText) = kwBA := by decide +kernel
theorem split_kw (s : ByteArray) (hs : s = ba kwText) (w : World) (hg : G w) :
    Calls Tryd.prog 102 #[.string s, .string ⟨#[32]⟩] w fun e w' => e = .returned (.slice (some ⟨w.heap.size, 0, none⟩) 17 17) ∧ w' = w.alloc (.cells (kwBA.map Value.string).toArray 9) := by
  subst hs
  refine (Tryd.strings_Split_shaped _ _ w hg.shaped (by rw [ba_size]; decide +kernel) (by decide)).mono ?_
  rintro e w' ⟨rfl, rfl⟩
  rw [kw_count, kw_split]
  exact ⟨rfl, rfl⟩
theorem containsS_map (l : List Bs) (x : ByteArray) : Lib.containsS (l.map ba) x = l.contains (tl x) := by
  rw [Bool.eq_iff_iff, Lib.containsS_iff, List.contains_iff_mem, List.mem_map]
  constructor
  · rintro ⟨a, ha, rfl⟩
    rw [tl_ba]
    exact ha
  · intro h
    exact ⟨_, h, ba_tl x⟩
/-- a row of strings that has just been laid -/
theorem strs_new (w : World) (l : List ByteArray) (t : TypeId) (j : Nat) (hj : j < l.length) :
    (w.alloc (.cells (l.map Value.string).toArray t)).cell? ⟨w.heap.size, 0 + j, none⟩ = some (.string (l.getD j ByteArray.empty)) := by
  rw [Nat.zero_add, (Blk.new w t _).cell]
  simp [List.getD_eq_getElem?_getD, List.getElem?_eq_getElem hj]
theorem kw_any (s : ByteArray) (w : World) (hg : G w) :
    Calls Tryd.prog 92 #[.string s] w fun e w' => e = .returned (.bool (kwB (tl s))) ∧ Below w.heap.size w w' := by
  go_enter Tryd.func92, Tryd.ntmps92
  go_wp2_with fail
  refine (split_kw _ (by kernel_rfl) _ hg).mono ?_
  rintro e w' ⟨rfl, rfl⟩
  go_wp2_with fail
  refine (Tryd.slices_Contains_string _ 0 17 17 kwBA _ _ (by decide) (by decide) (fun j hj => strs_new _ _ _ j hj)).mono ?_
  rintro e w' ⟨rfl, rfl⟩
  go_wp2_with fail
  go_ret
  refine ⟨ret_bool ?_, (Below.refl _ _).alloc (Nat.le_refl _) _⟩
  rw [List.take_of_length_le (by decide)]
  exact containsS_map _ _

theorem of_at (t : Bs) (c : UInt8) (s : ByteArray) (h : tl s = t) (w : World) :
    Calls Tryd.prog 84 #[.int .u8 c.toNat, .string s] w fun e w' => e = .returned (.bool (ofB c t)) ∧ w' = w := by
  subst h; exact of_any c s w
theorem run_at (t : Bs) (s some : ByteArray) (h : tl some = t) (hs : s.size ≤ maxLen) (w : World) :
    Calls Tryd.prog 91 #[.string s, .string some] w fun e w' => e = .returned (.string (ba (runB (tl s) t))) ∧ w' = w := by
  subst h; exact run_any s some hs w
theorem toList_tl (s : ByteArray) : s.toList = tl s := ByteArray.toList_eq s
theorem tl_head (s : ByteArray) (h : 0 < s.size) : tl s = s[0] :: (tl s).drop 1 := by have := drop_tl s 0 h; simpa using this
theorem headIn_tl (s : ByteArray) (h : 0 < s.size) (t : Bs) : headIn (tl s) t = ofB s[0] t := by rw [tl_head s h]; rfl
theorem nonempty_tl (s : ByteArray) (h : 0 < s.size) : s.toList.isEmpty = false := by rw [toList_tl, tl_head s h]; rfl
theorem nonempty_tl' (s : ByteArray) (h : 0 < s.size) : ¬ s.toList = [] := by rw [toList_tl, tl_head s h]; simp
theorem empty_tl (s : ByteArray) (h : ¬ 0 < s.size) : s.toList = [] := by rw [toList_tl, ← List.length_eq_zero_iff, tl_length]; omega

theorem nameMay_any (s : ByteArray) (hs : s.size ≤ maxLen) (w : World) (hg : G w) :
    Calls Tryd.prog 62 #[.string s] w fun e w' => e = .returned (.bool (nameMay (tl s))) ∧ Below w.heap.size w w' := by
  have hs' := hs
  unfold maxLen at hs'
  by_cases h0 : 0 < s.size
  · have hne := nonempty_tl s h0
    have hne' := nonempty_tl' s h0
    by_cases h16 : s.size ≤ 16
    · have HS := Lib.hid (show nameMay (tl s) = (ofB s[0] lettersL && (runB (tl s) moreL == tl s) && !kwB (tl s)) by
        unfold nameMay
        rw [headIn_tl s h0, ← toList_tl, hne, toList_tl, tl_length]
        simp [h16])
      go_enter Tryd.func62, Tryd.ntmps62
      go_wp2_with (first
        | (go_at_call 84; refine (of_at lettersL _ _ (by kernel_rfl) _).mono ?_; rintro e w1 ⟨rfl, hw1⟩; have hw1 := Lib.hid hw1)
        | (go_at_call 91; refine (run_at moreL _ _ (by kernel_rfl) hs _).mono ?_; rintro e w2 ⟨rfl, hw2⟩; have hw2 := Lib.hid hw2)
        | (go_at_call 92; refine (kw_any _ _ hg).mono ?_; rintro e w3 ⟨rfl, hb⟩))
      · have h1 : ofB s[0] lettersL = true := by assumption
        have h2 : (ba (runB (tl s) moreL)).toList = s.toList := by assumption
        rw [toList_tl, toList_tl, tl_ba] at h2
        go_ret
        exact ⟨ret_bool (by rw [HS.out, h1, h2]; simp), hb⟩
      · have h1 : ofB s[0] lettersL = true := by assumption
        have h2 : ¬ (ba (runB (tl s) moreL)).toList = s.toList := by assumption
        rw [toList_tl, toList_tl, tl_ba] at h2
        go_ret
        refine ⟨ret_bool ?_, Below.refl _ _⟩
        rw [HS.out, beq_eq_false_iff_ne.2 h2]
        simp
      · have h1 : ¬ ofB s[0] lettersL = true := by assumption
        go_ret
        refine ⟨ret_bool ?_, Below.refl _ _⟩
        rw [HS.out, Bool.eq_false_iff.2 h1]
        simp
    · go_enter Tryd.func62, Tryd.ntmps62
      go_wp2
      go_ret
      refine ⟨ret_bool ?_, Below.refl _ _⟩
      unfold nameMay
      rw [tl_length, decide_eq_false h16]
      simp
  · have hne := empty_tl s h0
    go_enter Tryd.func62, Tryd.ntmps62
    go_wp2
    go_ret
    refine ⟨ret_bool ?_, Below.refl _ _⟩
    unfold nameMay
    rw [← toList_tl, hne]
    simp

theorem numGo_le : ∀ (l : Bs) (x n : Nat), numGo x l = some n → x ≤ 1073741823 → n ≤ 1073741823
  | [], x, n, h, hx => by simp [numGo] at h; omega
  | c :: r, x, n, h, hx => by
    unfold numGo at h
    split at h
    · cases h
    · exact numGo_le r _ n h (by omega)
/-- a digit's byte -/
theorem digit_range (c : UInt8) (h : ofB c digitsL = true) : 48 ≤ c.toNat ∧ c.toNat ≤ 57 := by
  have h' : c ∈ digitsL := List.contains_iff_mem.1 h
  simp only [digitsL, List.mem_cons, List.mem_nil_iff, or_false] at h'
  rcases h' with rfl | rfl | rfl | rfl | rfl | rfl | rfl | rfl | rfl | rfl <;> decide
theorem takeWhile_all {p : UInt8 → Bool} : ∀ (s : Bs), ∀ c ∈ s.takeWhile p, p c = true
  | [], c, h => by simp at h
  | d :: r, c, h => by
    rw [List.takeWhile_cons] at h
    split at h
    · rename_i hd
      rcases List.mem_cons.1 h with rfl | h
      · exact hd
      · exact takeWhile_all r c h
    · simp at h
theorem runB_all (s t : Bs) (h : runB s t = s) : ∀ c ∈ s, ofB c t = true := fun c hc => takeWhile_all s c (show c ∈ runB s t by rw [h]; exact hc)
def numV : Option Nat → Value
  | none => .tuple #[.int .i64 0, .bool false]
  | some x => .tuple #[.int .i64 (x : Int), .bool true]
theorem run_whole (t : Bs) (s some : ByteArray) (h : tl some = t) (hs : s.size ≤ maxLen) (hr : runB (tl s) t = tl s) (w : World) :
    Calls Tryd.prog 91 #[.string s, .string some] w fun e w' => e = .returned (.string s) ∧ w' = w := by
  have := run_at t s some h hs w
  rwa [hr, ba_tl] at this
theorem numB_zero (s : ByteArray) (h1 : 1 < s.size) (hz : ((s[0].toNat : Int) == 48) = true) : numB (tl s) = none := by
  unfold numB
  have : ofB s[0] [48] = true := by
    have e : s[0] = 48 := by rw [← UInt8.toNat_inj]; simp at hz; show s[0].toNat = 48; omega
    rw [e]; rfl
  rw [headIn_tl s (by omega), tl_length, this]
  simp [h1]
theorem numB_go (s : ByteArray) (hd : runB (tl s) digitsL = tl s) (h : (∃ h1 : 1 < s.size, ((s[0].toNat : Int) == 48) = false) ∨ ¬ 1 < s.size) : numB (tl s) = numGo 0 (tl s) := by
  unfold numB
  rw [hd, tl_length]
  rcases h with ⟨h1, hz⟩ | h1
  · rw [headIn_tl s (by omega)]
    have : ofB s[0] [48] = false := by
      rw [Bool.eq_false_iff]
      intro hc
      have : s[0] = 48 := by simpa [ofB] using hc
      rw [this] at hz
      exact absurd hz (by decide)
    rw [this]; simp
  · simp [h1]
theorem numGo_step (s : ByteArray) (k x : Nat) (h : k < s.size) {R : Option Nat} (hr : R = numGo x ((tl s).drop k)) :
    (1073741823 < 10 * x + (s[k].toNat - 48) → R = none) ∧ (¬ 1073741823 < 10 * x + (s[k].toNat - 48) → R = numGo (10 * x + (s[k].toNat - 48)) ((tl s).drop (k + 1))) := by
  rw [drop_tl s k h] at hr
  subst hr
  constructor
  · intro hc; rw [numGo, if_pos hc]
  · intro hc; rw [numGo, if_neg hc]
theorem number_any (s : ByteArray) (hs : s.size ≤ maxLen) (w : World) :
    Calls Tryd.prog 107 #[.string s] w fun e w' => e = .returned (numV (numB (tl s))) ∧ w' = w := by
  have hs' := hs
  unfold maxLen at hs'
  by_cases hd : runB (tl s) digitsL = tl s
  · by_cases hz : ∃ h1 : 1 < s.size, ((s[0].toNat : Int) == 48) = true
    · obtain ⟨h1, hz⟩ := hz
      have HN := Lib.hid (numB_zero s h1 hz)
      have HD := Lib.hid hd
      clear hd
      go_enter Tryd.func107, Tryd.ntmps107
      go_wp2_with (go_at_call 91; refine (run_whole digitsL _ _ (by kernel_rfl) hs HD.out _).mono ?_; rintro e w2 ⟨rfl, rfl⟩)
      go_ret2
      rw [HN.out]
      exact ⟨rfl, rfl⟩
    · have key : (∃ h1 : 1 < s.size, ((s[0].toNat : Int) == 48) = false) ∨ ¬ 1 < s.size := by
        by_cases h1 : 1 < s.size
        · exact .inl ⟨h1, by rw [Bool.eq_false_iff]; exact fun h => hz ⟨h1, h⟩⟩
        · exact .inr h1
      clear hz
      have HN := Lib.hid (numB_go s hd key)
      have HALL := Lib.hid (show ∀ (k : Nat) (h : k < s.size), 48 ≤ s[k].toNat ∧ s[k].toNat ≤ 57 from fun k h => digit_range _ (runB_all _ _ hd _ (by rw [List.mem_iff_getElem]; exact ⟨k, by rw [tl_length]; exact h, rfl⟩)))
      have HD := Lib.hid hd
      clear hd
      rcases key with ⟨h1, hz⟩ | h1
      all_goals
        go_enter Tryd.func107, Tryd.ntmps107
        go_wp2_with (go_at_call 91; refine (run_whole digitsL _ _ (by kernel_rfl) hs HD.out _).mono ?_; rintro e w2 ⟨rfl, rfl⟩)
        go_loop [4, 5, 22] (fun x _ i => ∃ k n : Nat, k ≤ s.size ∧ n ≤ 1073741823 ∧ i = .int .i64 k ∧ x = .int .i64 n ∧ numB (tl s) = numGo n ((tl s).drop k)) (fun _ _ i => s.size - (intOf i).toNat)
        case atStart => exact ⟨0, 0, by omega, by omega, rfl, rfl, HN.out⟩
        case round =>
          obtain ⟨k, n, hk, hn, rfl, rfl, hr⟩ := hrel
          by_cases hlt : k < s.size
          · have HR := Lib.hid (numGo_step s k n hlt hr)
            clear hr
            have hdig := HALL.out k hlt
            go_wp2
            · have hb : 1073741823 < 10 * (n : Int) + ((s[k].toNat : Int) - 48) := by assumption
              go_ret2
              rw [HR.out.1 (by omega)]
              exact ⟨rfl, rfl⟩
            · have hb : 10 * (n : Int) + ((s[k].toNat : Int) - 48) ≤ 1073741823 := by assumption
              refine ⟨⟨k + 1, 10 * n + (s[k].toNat - 48), by omega, by omega, by go_num, ?_, HR.out.2 (by omega)⟩, by simp [intOf]; omega⟩
              congr 1
              omega
          · have HR := Lib.hid hr
            clear hr
            go_wp2
            go_ret2
            rw [HR.out, List.drop_of_length_le (by rw [tl_length]; omega)]
            exact ⟨rfl, rfl⟩
  · have hn : ¬ (ba (runB (tl s) digitsL)).toList = s.toList := by rw [toList_tl, toList_tl, tl_ba]; exact hd
    go_enter Tryd.func107, Tryd.ntmps107
    go_wp2_with (go_at_call 91; refine (run_at digitsL _ _ (by kernel_rfl) hs _).mono ?_; rintro e w2 ⟨rfl, rfl⟩)
    go_ret2
    refine ⟨?_, rfl⟩
    rw [show numB (tl s) = none by unfold numB; simp [hd]]
    rfl
end Go.Proofs.YtiflfnnnbgmomaaDoor
