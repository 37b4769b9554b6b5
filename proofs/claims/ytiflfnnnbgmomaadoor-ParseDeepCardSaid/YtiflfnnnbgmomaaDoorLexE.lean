/- The walk of lex.tokens. -/
import Derived.Test.YtiflfnnnbgmomaaDoorLexD
import Derived.Lib.IndexLaws
namespace Go.Proofs.YtiflfnnnbgmomaaDoor
set_option linter.unusedVariables false
set_option linter.unusedSimpArgs false
open Go.RowKit
set_option maxHeartbeats 1000000
set_option maxRecDepth 100000

theorem cutAt (c : UInt8) : ∀ l : Bs, (if 0 ≤ Lib.indexByte l c then l.take (Lib.indexByte l c).toNat else l) = l.takeWhile (· != c)
  | [] => by simp [Lib.indexByte]
  | b :: l => by
    have ih := cutAt c l
    have hge := Lib.indexByte_ge l c
    unfold Lib.indexByte
    by_cases hb : b = c
    · subst hb; simp
    · have hb' : (b == c) = false := by simpa using hb
      have hb2 : (b != c) = true := by simpa using hb
      rw [List.takeWhile_cons, hb2, hb']
      simp only [Bool.false_eq_true, if_false, if_true]
      by_cases hm : Lib.indexByte l c = -1
      · rw [hm] at ih ⊢
        simp at ih ⊢
        exact ih
      · have hm' : (Lib.indexByte l c == -1) = false := by simpa using hm
        rw [hm']
        simp only [Bool.false_eq_true, if_false]
        rw [if_pos (by omega)] at ih ⊢
        rw [show (Lib.indexByte l c + 1).toNat = (Lib.indexByte l c).toNat + 1 by omega, List.take_succ_cons, ih]
theorem cut_first (l : Bs) (c : UInt8) : (Lib.cut l [c]).1 = l.takeWhile (· != c) := by
  rw [← cutAt c l]
  unfold Lib.cut
  rw [Lib.index_one]
  split <;> rfl
theorem dropWhile_eq (p : UInt8 → Bool) : ∀ l : Bs, l.dropWhile p = l.drop (l.takeWhile p).length
  | [] => rfl
  | c :: r => by
    rw [List.dropWhile_cons, List.takeWhile_cons]
    split
    · simp [dropWhile_eq p r]
    · simp
theorem takeWhile_le (p : UInt8 → Bool) : ∀ l : Bs, (l.takeWhile p).length ≤ l.length
  | [] => Nat.le_refl _
  | c :: r => by
    rw [List.takeWhile_cons]
    have := takeWhile_le p r
    split <;> simp <;> omega

theorem lexGo_blank (s : ByteArray) (k f : Nat) (acc : List Tok) (h : k < s.size) {R : Except (Nat × Nat) (List Tok)} (hr : R = lexGo f ((tl s).drop k) k acc) (hf : s.size ≤ k + f) (hc : ofB s[k] blanksL = true) :
    R = lexGo (f - 1) ((tl s).drop (k + 1)) (k + 1) acc := by
  obtain ⟨f, rfl⟩ : ∃ g, f = g + 1 := ⟨f - 1, by omega⟩
  rw [hr, drop_tl s k h, lexGo, if_pos hc]; rfl
theorem lexGo_remark (s : ByteArray) (k f : Nat) (acc : List Tok) (h : k < s.size) {R : Except (Nat × Nat) (List Tok)} (hr : R = lexGo f ((tl s).drop k) k acc) (hf : s.size ≤ k + f) (hc : ofB s[k] blanksL = false) (h35 : s[k] = 35) :
    R = lexGo (f - 1) ((tl s).drop (k + (((tl s).drop k).takeWhile (· != 10)).length)) (k + (((tl s).drop k).takeWhile (· != 10)).length) acc ∧ 0 < (((tl s).drop k).takeWhile (· != 10)).length := by
  obtain ⟨f, rfl⟩ : ∃ g, f = g + 1 := ⟨f - 1, by omega⟩
  constructor
  · rw [hr, drop_tl s k h, lexGo, hc]
    simp only [Bool.false_eq_true, if_false]
    rw [if_pos (by rw [h35]; rfl), ← drop_tl s k h, dropWhile_eq, List.drop_drop]; rfl
  · rw [drop_tl s k h, List.takeWhile_cons, h35]; simp
theorem lexGo_tok (s : ByteArray) (k f : Nat) (acc : List Tok) (h : k < s.size) {R : Except (Nat × Nat) (List Tok)} (hr : R = lexGo f ((tl s).drop k) k acc) (hf : s.size ≤ k + f) (hc : ofB s[k] blanksL = false) (h35 : ¬ s[k] = 35) :
    R = match tokenB ((tl s).drop k) with
      | .error e => .error (k, e)
      | .ok (t, n) => lexGo (f - 1) ((tl s).drop (k + n)) (k + n) (acc ++ [{ t with pos := k }]) := by
  obtain ⟨f, rfl⟩ : ∃ g, f = g + 1 := ⟨f - 1, by omega⟩
  rw [hr, drop_tl s k h, lexGo, hc]
  simp only [Bool.false_eq_true, if_false]
  rw [if_neg (by simpa using h35), ← drop_tl s k h]
  cases tokenB ((tl s).drop k) with
  | error e => rfl
  | ok x =>
    obtain ⟨t, n⟩ := x
    simp only [List.drop_drop]; rfl
theorem lexGo_end (s : ByteArray) (k f : Nat) (acc : List Tok) (h : ¬ k < s.size) {R : Except (Nat × Nat) (List Tok)} (hr : R = lexGo f ((tl s).drop k) k acc) : R = .ok acc := by
  rw [hr, List.drop_of_length_le (by rw [tl_length]; omega)]
  cases f <;> rfl

/-- a token is read of at least one byte, and of no more than there are -/
theorem signN_le (s : Bs) (hs : s ≠ []) : 0 < signN s ∧ signN s ≤ s.length := by
  unfold signN Lib.hasPrefix
  match s, hs with
  | [c], _ => simp [List.isPrefixOf]
  | c :: d :: r, _ => split <;> simp
theorem tokenB_len (s : Bs) (hs : s ≠ []) (t : Tok) (n : Nat) (h : tokenB s = .ok (t, n)) : 0 < n ∧ n ≤ s.length := by
  have hl := runB_le s moreL
  cases hw : ((runB s moreL).isEmpty || headIn (runB s moreL) [95]) with
  | true =>
    rw [tokenB_sign s hw] at h
    split at h
    · injection h with h; injection h with _ h; subst h; exact signN_le s hs
    · cases h
  | false =>
    have hpos : 0 < (runB s moreL).length := by
      cases hr : runB s moreL with
      | nil => rw [hr] at hw; cases hw
      | cons c r => simp
    cases hd : headIn (runB s moreL) digitsL with
    | true =>
      rw [tokenB_num s hw hd] at h
      split at h
      · cases h
      · injection h with h; injection h with _ h; omega
    | false =>
      rw [tokenB_word s hw hd] at h
      split at h
      · injection h with h; injection h with _ h; omega
      · split at h
        · injection h with h; injection h with _ h; omega
        · cases h
def tcells (ts : List Tok) : List Value := ts.flatMap tokCells
theorem tcells_snoc (ts : List Tok) (t : Tok) : tcells (ts ++ [t]) = tcells ts ++ tokCells t := by simp [tcells]
theorem tokInfo : (Tryd.prog.info? 115).map (fun i => (i.zero, i.size, i.bytes)) = some (some (.agg #[.int .i64 0, .string ⟨#[]⟩, .int .i64 0, .int .i64 0]), 4, 40) := by kernel_rfl
/-- what tokens hands back: the tokens, or an error at a place -/
def toksPost (R : Except (Nat × Nat) (List Tok)) (w : World) (e : Ending) (w' : World) : Prop :=
  match R with
  | .ok ts => ∃ v, e = .returned (.tuple #[v, .nilIface]) ∧ w'.ownsRow w.heap.size 115 4 v ts.length (tcells ts) ∧ Below w.heap.size w w'
  | .error (at_, x) => ∃ g, e = .returned (.tuple #[.slice none 0 0, .iface 91 (.pointer (some ⟨g, 0, none⟩))]) ∧ w.heap.size ≤ g ∧ Blk w' g 96 #[.int .i64 (at_ : Int), errV x] ∧ Below w.heap.size w w'
theorem cut_nl (s : ByteArray) (w : World) (hg : G w) (hs : s.size < 4294967281) :
    Calls Tryd.prog 85 #[.string s, .string ⟨#[10]⟩] w fun e w' => ∃ v x y, e = .returned (.tuple #[.string v, .string x, .bool y]) ∧ v.size = ((tl s).takeWhile (· != 10)).length ∧ ∃ n, w' = w.drewN n := by
  refine (Tryd.strings_Cut_shaped s ⟨#[10]⟩ w hg.shaped hs).mono ?_
  rintro e w' ⟨rfl, n, rfl⟩
  refine ⟨_, _, _, rfl, ?_, n, rfl⟩
  rw [← cut_first]
  exact ba_size _
theorem tokens_any (s : ByteArray) (hs : s.size ≤ maxLen) (w : World) (hg : G w) :
    Calls Tryd.prog 55 #[.string s] w (toksPost (lexB (tl s)) w) := by
  have hs' := hs
  unfold maxLen at hs'
  by_cases hbig : 4096 < s.size
  · have HL := Lib.hid (show lexB (tl s) = .error (0, 200) by unfold lexB; rw [tl_length, if_pos hbig])
    rw [HL.out]
    go_enter Tryd.func55, Tryd.ntmps55
    go_wp2
    go_ret2
    exact ⟨_, rfl, Nat.le_refl _, Blk.new _ _ _, (Below.refl _ _).alloc (Nat.le_refl _) _⟩
  · cases hval : validB (tl s) with
    | some p =>
      have HL := Lib.hid (show lexB (tl s) = .error (p, 200) by unfold lexB; rw [tl_length, if_neg hbig, hval])
      have HVAL := Lib.hid hval
      clear hval
      rw [HL.out]
      go_enter Tryd.func55, Tryd.ntmps55
      go_wp2_with (go_at_call 83; refine (valid_any _ hs _).mono ?_; rintro e w2 ⟨rfl, rfl⟩; rw [HVAL.out]; unfold validV)
      go_ret2
      exact ⟨_, rfl, Nat.le_refl _, Blk.new _ _ _, (Below.refl _ _).alloc (Nat.le_refl _) _⟩
    | none =>
      have HL := Lib.hid (show lexB (tl s) = lexGo s.size (tl s) 0 [] by unfold lexB; rw [tl_length, if_neg hbig, hval])
      have HVAL := Lib.hid hval
      clear hval
      obtain ⟨i0, hi0, hz0, hz1, hz2⟩ := info_parts tokInfo
      obtain ⟨R, hR⟩ : ∃ R, lexB (tl s) = R := ⟨_, rfl⟩
      rw [hR] at HL ⊢
      clear hR
      go_enter Tryd.func55, Tryd.ntmps55
      go_wp2_with (go_at_call 83; refine (valid_any _ hs _).mono ?_; rintro e w2 ⟨rfl, rfl⟩; rw [HVAL.out]; unfold validV)
      go_loopw [6, 7] (fun v i wr => ∃ k f acc, k ≤ s.size ∧ s.size ≤ k + f ∧ i = .int .i64 k ∧ R = lexGo f ((tl s).drop k) k acc ∧ acc.length ≤ k ∧
          wr.ownsRow w2.heap.size 115 4 v acc.length (tcells acc) ∧ Below w2.heap.size w2 wr)
        (fun _ i _ => s.size - (intOf i).toNat)
      case atStart => exact ⟨0, s.size, [], by omega, by omega, rfl, HL.out, Nat.le_refl _, World.ownsRow_nil _ _ _ _, Below.refl _ _⟩
      case round =>
        obtain ⟨k, f, acc, hk, hf, rfl, hr, hacc, hown, hb⟩ := hrel
        by_cases hlt : k < s.size
        · by_cases hbl : ofB s[k] blanksL = true
          · have HR := Lib.hid (lexGo_blank s k f acc hlt hr hf hbl)
            clear hr
            go_wp2_with (go_at_call 84; refine (of_at blanksL _ _ (by kernel_rfl) _).mono ?_; rintro e w3 ⟨rfl, rfl⟩)
            go_roundw
            case rel => exact ⟨k + 1, f - 1, acc, by omega, by omega, by go_num, HR.out, by omega, hown, hb⟩
            case measure => simp [intOf]; omega
          · have hbl : ofB s[k] blanksL = false := Bool.eq_false_iff.2 hbl
            by_cases h35 : s[k] = 35
            · obtain ⟨hR1, hpos⟩ := lexGo_remark s k f acc hlt hr hf hbl h35
              have HR := Lib.hid hR1
              have hle := takeWhile_le (· != 10) ((tl s).drop k)
              rw [List.length_drop, tl_length] at hle
              clear hr hR1
              have HB := Lib.hid hbl
              have h35' : ((s[k].toNat : Int) == 35) = true := by rw [h35]; rfl
              clear h35
              have HT := Lib.hid (tl_extract_from s k)
              have hgr := hg.below hb
              have hxs : (s.extract k s.size).size < 4294967281 := by simp; omega
              go_wp2_with (first
                | (go_at_call 84; refine (of_at blanksL _ _ (by kernel_rfl) _).mono ?_; rintro e w3 ⟨rfl, rfl⟩; rw [HB.out])
                | (go_at_call 85; refine (cut_nl _ _ hgr hxs).mono ?_; rintro e w3 ⟨v, x, y, rfl, hv, n, rfl⟩; rw [HT.out] at hv; have HV := Lib.hid hv; have hv1 : 0 < v.size := by omega
                   have hv2 : v.size ≤ s.size - k := by omega
                   clear hv))
              go_roundw
              case rel => exact ⟨k + v.size, f - 1, acc, by omega, by omega, by go_num, by rw [HV.out]; exact HR.out, by omega, hown, below_drewN hb n⟩
              case measure => simp [intOf]; omega
            · have hR1 := lexGo_tok s k f acc hlt hr hf hbl h35
              have hdl : ((tl s).drop k).length = s.size - k := by rw [List.length_drop, tl_length]
              have hlen := tokenB_len ((tl s).drop k) (by intro h; rw [h] at hdl; simp at hdl; omega)
              have h35' : ((s[k].toNat : Int) == 35) = false := by
                rw [Bool.eq_false_iff]
                intro h
                apply h35
                rw [← UInt8.toNat_inj]; simp at h; show s[k].toNat = 35; omega
              have HB := Lib.hid hbl
              clear hr h35 hbl
              have HT := Lib.hid (tl_extract_from s k)
              have hgr := hg.below hb
              have hxs : (s.extract k s.size).size ≤ maxLen := by simp [maxLen]; omega
              have hx0 : 0 < (s.extract k s.size).size := by simp; omega
              cases htok : tokenB ((tl s).drop k) with
              | error x =>
                rw [htok] at hR1
                have HR := Lib.hid hR1
                have HTOK := Lib.hid htok
                clear hR1 htok hlen
                go_wp2_with (first
                  | (go_at_call 84; refine (of_at blanksL _ _ (by kernel_rfl) _).mono ?_; rintro e w3 ⟨rfl, rfl⟩; rw [HB.out])
                  | (go_at_call 86; refine (token_any _ hx0 hxs _ hgr).mono ?_; rintro e w3 ⟨rfl, hb3⟩; rw [HT.out, HTOK.out]; unfold tokenV tokCells errV))
                go_ret2
                rw [HR.out]
                have hz := hb.size
                have hz3 := hb3.size
                exact ⟨_, rfl, by omega, Blk.new1 _ _ _ _, ((hb.trans (hb3.mono hz)).alloc (by omega) _).alloc (by simp; omega) _⟩
              | ok x =>
                obtain ⟨t, n⟩ := x
                rw [htok] at hR1
                obtain ⟨hn1, hn2⟩ := hlen t n htok
                rw [hdl] at hn2
                have HR := Lib.hid hR1
                have HTOK := Lib.hid htok
                clear hR1 htok hlen hdl
                have hz := hb.size
                have HOWN := Lib.hid hown
                clear hown
                go_wp2_with (first
                  | (go_at_call 84; refine (of_at blanksL _ _ (by kernel_rfl) _).mono ?_; rintro e w3 ⟨rfl, rfl⟩; rw [HB.out])
                  | (go_at_call 86; refine (token_any _ hx0 hxs _ hgr).mono ?_; rintro e w3 ⟨rfl, hb3⟩; rw [HT.out, HTOK.out]; unfold tokenV tokCells
                     have hz3 := hb3.size
                     have HOWN3 := Lib.hid (own_below HOWN.out hb3))
                  | (at_builtin
                     refine wpList_append_any _ rfl (.tmp 54) (.tmp 56) _ rfl w2.heap.size 115 i0 _ 4 40 Tryd.underlying74 hi0 hz0 hz1 hz2 rfl (by omega) _ acc.length (tcells acc) rfl ((HOWN3.out.alloc _).alloc _) _ _ 1 1 _ rfl (Reads.new1 _ _ _ _ 1 4 rfl) ?c1 ?c2 ?c3 ?c4 ?_))
                case c1 => simp [Value.oneCell']
                case c2 => simp only [maxLen]; omega
                case c3 => omega
                case c4 => simp; omega
                · intro v1 w4 hown4 hg4 hat4
                  have HO4 := Lib.hid hown4
                  have HG4 := Lib.hid hg4
                  clear hown4 hg4 hat4
                  go_wp2
                  go_roundw
                  case rel =>
                    refine ⟨k + n, f - 1, acc ++ [{ t with pos := k }], by omega, by omega, by go_num, HR.out, by simp; omega, ?_, ?_⟩
                    · have := HO4.out
                      rw [tcells_snoc, List.length_append]
                      exact this
                    · exact (((hb.trans (hb3.mono hz)).alloc (by omega) _).alloc (by simp; omega) _).grown HG4.out (by simp; omega) (own_ge HOWN3.out)
                  case measure => simp [intOf]; omega
        · have HR := Lib.hid (lexGo_end s k f acc hlt hr)
          clear hr
          go_wp2
          go_ret2
          rw [HR.out]
          exact ⟨_, rfl, hown, hb⟩
end Go.Proofs.YtiflfnnnbgmomaaDoor
