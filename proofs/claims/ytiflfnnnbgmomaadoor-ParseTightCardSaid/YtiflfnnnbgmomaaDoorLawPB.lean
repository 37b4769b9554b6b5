/- The law ParseForms: its walk. -/
import Derived.Test.YtiflfnnnbgmomaaDoorLawPA
import Derived.BigQuiet
import Derived.Deep.QuietTactic
namespace Go.Proofs.YtiflfnnnbgmomaaDoor
set_option linter.unusedVariables false
set_option linter.unusedSimpArgs false
open Go.RowKit
set_option maxHeartbeats 2000000
set_option maxRecDepth 100000

theorem mod_casesP (m n : Int) (h0 : 0 ≤ m) (hn : 0 < n) (hn2 : n ≤ 1000) : 0 ≤ wrap64 (m.tmod n) ∧ wrap64 (m.tmod n) < n := by
  have h1 := Int.tmod_nonneg n h0
  have h2 := Int.tmod_lt_of_pos m hn
  rw [IntWalk.wrap64_in _ ⟨by omega, by omega⟩]
  exact ⟨h1, h2⟩
theorem strs_at (l : List ByteArray) (k : Nat) (h : k < l.length) : (l.map Value.string).toArray[k]? = some (.string (l.getD k default)) := by
  simp [h]
theorem ints_at (l : List Int) (k : Nat) (h : k < l.length) : (l.map (Value.int IntKind.i64)).toArray[k]? = some (.int .i64 (l.getD k 0)) := by
  simp [h]
def pfS : List ByteArray := [{ data := #[] }, { data := #[102, 117, 110] }, { data := #[102, 117, 110, 32, 120] }, { data := #[102, 117, 110, 32, 120, 32, 45, 62] }, { data := #[102, 117, 110, 32, 102, 117, 110, 32, 45, 62, 32, 49] }, { data := #[108, 101, 116, 32, 120, 32, 49, 32, 105, 110, 32, 120] }, { data := #[108, 101, 116, 32, 120, 32, 61, 32, 49, 32, 120] }, { data := #[108, 101, 116, 32, 114, 101, 99, 32, 102, 32, 61, 32, 49, 32, 105, 110, 32, 102] }, { data := #[105, 102, 32, 49, 32, 116, 104, 101, 110, 32, 50] }, { data := #[49, 32, 43] }, { data := #[49, 32, 61, 61, 32, 50, 32, 61, 61, 32, 51] }, { data := #[49, 32, 60, 32, 50, 32, 61, 61, 32, 51] }, { data := #[100, 111, 32, 49] }, { data := #[100, 111, 32, 120] }, { data := #[40, 49] }, { data := #[49, 41] }, { data := #[104, 97, 110, 100, 108, 101, 32, 49, 32, 119, 105, 116, 104, 32, 97, 32, 120, 32, 45, 62, 32, 50, 32, 114, 101, 116, 117, 114, 110, 32, 121, 32, 45, 62, 32, 121, 32, 101, 110, 100] }, { data := #[104, 97, 110, 100, 108, 101, 32, 49, 32, 119, 105, 116, 104, 32, 97, 32, 120, 32, 107, 32, 45, 62, 32, 50, 32, 114, 101, 116, 117, 114, 110, 32, 121, 32, 45, 62, 32, 121] }, { data := #[104, 97, 110, 100, 108, 101, 32, 49, 32, 119, 105, 116, 104, 32, 97, 32, 120, 32, 107, 32, 45, 62, 32, 50, 32, 101, 110, 100] }, { data := #[111, 112, 32, 97, 32, 105, 110, 116, 32, 45, 62, 32, 105, 110, 116, 59, 32, 49] }, { data := #[111, 112, 32, 97, 32, 58, 32, 105, 110, 116, 32, 45, 62, 32, 105, 110, 116, 32, 49] }, { data := #[111, 112, 32, 97, 32, 58, 32, 120, 32, 45, 62, 32, 105, 110, 116, 59, 32, 49] }, { data := #[111, 112, 32, 97, 32, 58, 32, 105, 110, 116, 32, 45, 62, 32, 105, 110, 116, 59] }, { data := #[120, 32, 102, 117, 110, 32, 121, 32, 45, 62, 32, 121] }, { data := #[49, 32, 108, 101, 116, 32, 120, 32, 61, 32, 50, 32, 105, 110, 32, 120] }, { data := #[45, 62] }, { data := #[116, 114, 117, 101, 32, 102, 97, 108, 115, 101, 32, 116, 104, 101, 110] }, { data := #[49, 32, 43, 32, 42, 32, 50] }]
def pfW : List Int := [0, 3, 5, 8, 4, 6, 11, 10, 11, 3, 7, 6, 3, 4, 2, 1, 18, 38, 25, 5, 18, 7, 18, 2, 2, 0, 11, 4]
theorem pf_res : ((List.range 28).all fun k => isErr (parseB (tl (pfS.getD k default))) (pfW.getD k 0) 403 && decide ((pfS.getD k default).size ≤ 4096)) = true := by kernel_rfl
theorem parseForms_any (which : Int) (w : World) (hg : GE w) :
    Calls Tryd.prog 6 #[.int .i64 which] w fun e w' => e = .returned (.bool true) ∧ Below w.heap.size w w' := by
  obtain ⟨h0, h1⟩ := mod_casesP (IntKind.u64.wrap which) 28 (wrap_u64_nonneg which) (by decide) (by decide)
  generalize hk : wrap64 ((IntKind.u64.wrap which).tmod 28) = k at h0 h1
  obtain ⟨n, rfl⟩ := Int.eq_ofNat_of_zero_le h0
  have hn : n < 28 := by omega
  have hall := pf_res
  rw [List.all_eq_true] at hall
  have hres := hall n (List.mem_range.2 hn)
  rw [Bool.and_eq_true] at hres
  have HE := Lib.hid (of_isErr hres.1)
  have hsz : (pfS.getD n default).size ≤ maxLen := by have := of_decide_eq_true hres.2; unfold maxLen; omega
  have hx0 : ((n : Int) < 28) := h1
  have hx1 : (0 : Int) ≤ (n : Int) := h0
  have hs0 := strs_at pfS n hn
  have hw0 := ints_at pfW n hn
  obtain ⟨sv, hsv⟩ : ∃ sv, pfS.getD n default = sv := ⟨_, rfl⟩
  obtain ⟨wv, hwv⟩ : ∃ wv, pfW.getD n 0 = wv := ⟨_, rfl⟩
  rw [hsv] at HE hsz hs0
  rw [hwv] at HE hw0
  clear hall hres hsv hwv
  go_enter Tryd.func6, Tryd.ntmps6
  go_wp2_with fail
  refine (parseAwake_any w hg).mono ?_
  rintro e w1 ⟨rfl, hb1⟩
  have hg1 := hg.below hb1
  have hb2 : Below w1.heap.size w1 ((w1.alloc (.cells #[.string { data := #[] }, .string { data := #[102, 117, 110] }, .string { data := #[102, 117, 110, 32, 120] }, .string { data := #[102, 117, 110, 32, 120, 32, 45, 62] }, .string { data := #[102, 117, 110, 32, 102, 117, 110, 32, 45, 62, 32, 49] }, .string { data := #[108, 101, 116, 32, 120, 32, 49, 32, 105, 110, 32, 120] }, .string { data := #[108, 101, 116, 32, 120, 32, 61, 32, 49, 32, 120] }, .string { data := #[108, 101, 116, 32, 114, 101, 99, 32, 102, 32, 61, 32, 49, 32, 105, 110, 32, 102] }, .string { data := #[105, 102, 32, 49, 32, 116, 104, 101, 110, 32, 50] }, .string { data := #[49, 32, 43] }, .string { data := #[49, 32, 61, 61, 32, 50, 32, 61, 61, 32, 51] }, .string { data := #[49, 32, 60, 32, 50, 32, 61, 61, 32, 51] }, .string { data := #[100, 111, 32, 49] }, .string { data := #[100, 111, 32, 120] }, .string { data := #[40, 49] }, .string { data := #[49, 41] }, .string { data := #[104, 97, 110, 100, 108, 101, 32, 49, 32, 119, 105, 116, 104, 32, 97, 32, 120, 32, 45, 62, 32, 50, 32, 114, 101, 116, 117, 114, 110, 32, 121, 32, 45, 62, 32, 121, 32, 101, 110, 100] }, .string { data := #[104, 97, 110, 100, 108, 101, 32, 49, 32, 119, 105, 116, 104, 32, 97, 32, 120, 32, 107, 32, 45, 62, 32, 50, 32, 114, 101, 116, 117, 114, 110, 32, 121, 32, 45, 62, 32, 121] }, .string { data := #[104, 97, 110, 100, 108, 101, 32, 49, 32, 119, 105, 116, 104, 32, 97, 32, 120, 32, 107, 32, 45, 62, 32, 50, 32, 101, 110, 100] }, .string { data := #[111, 112, 32, 97, 32, 105, 110, 116, 32, 45, 62, 32, 105, 110, 116, 59, 32, 49] }, .string { data := #[111, 112, 32, 97, 32, 58, 32, 105, 110, 116, 32, 45, 62, 32, 105, 110, 116, 32, 49] }, .string { data := #[111, 112, 32, 97, 32, 58, 32, 120, 32, 45, 62, 32, 105, 110, 116, 59, 32, 49] }, .string { data := #[111, 112, 32, 97, 32, 58, 32, 105, 110, 116, 32, 45, 62, 32, 105, 110, 116, 59] }, .string { data := #[120, 32, 102, 117, 110, 32, 121, 32, 45, 62, 32, 121] }, .string { data := #[49, 32, 108, 101, 116, 32, 120, 32, 61, 32, 50, 32, 105, 110, 32, 120] }, .string { data := #[45, 62] }, .string { data := #[116, 114, 117, 101, 32, 102, 97, 108, 115, 101, 32, 116, 104, 101, 110] }, .string { data := #[49, 32, 43, 32, 42, 32, 50] }] 9)).alloc (.cells #[.int .i64 0, .int .i64 3, .int .i64 5, .int .i64 8, .int .i64 4, .int .i64 6, .int .i64 11, .int .i64 10, .int .i64 11, .int .i64 3, .int .i64 7, .int .i64 6, .int .i64 3, .int .i64 4, .int .i64 2, .int .i64 1, .int .i64 18, .int .i64 38, .int .i64 25, .int .i64 5, .int .i64 18, .int .i64 7, .int .i64 18, .int .i64 2, .int .i64 2, .int .i64 0, .int .i64 11, .int .i64 4] 3)) := ((Below.refl _ _).alloc (Nat.le_refl _) _).alloc (by simp) _
  have BS := (Blk.new w1 9 #[.string { data := #[] }, .string { data := #[102, 117, 110] }, .string { data := #[102, 117, 110, 32, 120] }, .string { data := #[102, 117, 110, 32, 120, 32, 45, 62] }, .string { data := #[102, 117, 110, 32, 102, 117, 110, 32, 45, 62, 32, 49] }, .string { data := #[108, 101, 116, 32, 120, 32, 49, 32, 105, 110, 32, 120] }, .string { data := #[108, 101, 116, 32, 120, 32, 61, 32, 49, 32, 120] }, .string { data := #[108, 101, 116, 32, 114, 101, 99, 32, 102, 32, 61, 32, 49, 32, 105, 110, 32, 102] }, .string { data := #[105, 102, 32, 49, 32, 116, 104, 101, 110, 32, 50] }, .string { data := #[49, 32, 43] }, .string { data := #[49, 32, 61, 61, 32, 50, 32, 61, 61, 32, 51] }, .string { data := #[49, 32, 60, 32, 50, 32, 61, 61, 32, 51] }, .string { data := #[100, 111, 32, 49] }, .string { data := #[100, 111, 32, 120] }, .string { data := #[40, 49] }, .string { data := #[49, 41] }, .string { data := #[104, 97, 110, 100, 108, 101, 32, 49, 32, 119, 105, 116, 104, 32, 97, 32, 120, 32, 45, 62, 32, 50, 32, 114, 101, 116, 117, 114, 110, 32, 121, 32, 45, 62, 32, 121, 32, 101, 110, 100] }, .string { data := #[104, 97, 110, 100, 108, 101, 32, 49, 32, 119, 105, 116, 104, 32, 97, 32, 120, 32, 107, 32, 45, 62, 32, 50, 32, 114, 101, 116, 117, 114, 110, 32, 121, 32, 45, 62, 32, 121] }, .string { data := #[104, 97, 110, 100, 108, 101, 32, 49, 32, 119, 105, 116, 104, 32, 97, 32, 120, 32, 107, 32, 45, 62, 32, 50, 32, 101, 110, 100] }, .string { data := #[111, 112, 32, 97, 32, 105, 110, 116, 32, 45, 62, 32, 105, 110, 116, 59, 32, 49] }, .string { data := #[111, 112, 32, 97, 32, 58, 32, 105, 110, 116, 32, 45, 62, 32, 105, 110, 116, 32, 49] }, .string { data := #[111, 112, 32, 97, 32, 58, 32, 120, 32, 45, 62, 32, 105, 110, 116, 59, 32, 49] }, .string { data := #[111, 112, 32, 97, 32, 58, 32, 105, 110, 116, 32, 45, 62, 32, 105, 110, 116, 59] }, .string { data := #[120, 32, 102, 117, 110, 32, 121, 32, 45, 62, 32, 121] }, .string { data := #[49, 32, 108, 101, 116, 32, 120, 32, 61, 32, 50, 32, 105, 110, 32, 120] }, .string { data := #[45, 62] }, .string { data := #[116, 114, 117, 101, 32, 102, 97, 108, 115, 101, 32, 116, 104, 101, 110] }, .string { data := #[49, 32, 43, 32, 42, 32, 50] }]).alloc (.cells #[.int .i64 0, .int .i64 3, .int .i64 5, .int .i64 8, .int .i64 4, .int .i64 6, .int .i64 11, .int .i64 10, .int .i64 11, .int .i64 3, .int .i64 7, .int .i64 6, .int .i64 3, .int .i64 4, .int .i64 2, .int .i64 1, .int .i64 18, .int .i64 38, .int .i64 25, .int .i64 5, .int .i64 18, .int .i64 7, .int .i64 18, .int .i64 2, .int .i64 2, .int .i64 0, .int .i64 11, .int .i64 4] 3)
  have BW := Blk.new1 w1 (.cells #[.string { data := #[] }, .string { data := #[102, 117, 110] }, .string { data := #[102, 117, 110, 32, 120] }, .string { data := #[102, 117, 110, 32, 120, 32, 45, 62] }, .string { data := #[102, 117, 110, 32, 102, 117, 110, 32, 45, 62, 32, 49] }, .string { data := #[108, 101, 116, 32, 120, 32, 49, 32, 105, 110, 32, 120] }, .string { data := #[108, 101, 116, 32, 120, 32, 61, 32, 49, 32, 120] }, .string { data := #[108, 101, 116, 32, 114, 101, 99, 32, 102, 32, 61, 32, 49, 32, 105, 110, 32, 102] }, .string { data := #[105, 102, 32, 49, 32, 116, 104, 101, 110, 32, 50] }, .string { data := #[49, 32, 43] }, .string { data := #[49, 32, 61, 61, 32, 50, 32, 61, 61, 32, 51] }, .string { data := #[49, 32, 60, 32, 50, 32, 61, 61, 32, 51] }, .string { data := #[100, 111, 32, 49] }, .string { data := #[100, 111, 32, 120] }, .string { data := #[40, 49] }, .string { data := #[49, 41] }, .string { data := #[104, 97, 110, 100, 108, 101, 32, 49, 32, 119, 105, 116, 104, 32, 97, 32, 120, 32, 45, 62, 32, 50, 32, 114, 101, 116, 117, 114, 110, 32, 121, 32, 45, 62, 32, 121, 32, 101, 110, 100] }, .string { data := #[104, 97, 110, 100, 108, 101, 32, 49, 32, 119, 105, 116, 104, 32, 97, 32, 120, 32, 107, 32, 45, 62, 32, 50, 32, 114, 101, 116, 117, 114, 110, 32, 121, 32, 45, 62, 32, 121] }, .string { data := #[104, 97, 110, 100, 108, 101, 32, 49, 32, 119, 105, 116, 104, 32, 97, 32, 120, 32, 107, 32, 45, 62, 32, 50, 32, 101, 110, 100] }, .string { data := #[111, 112, 32, 97, 32, 105, 110, 116, 32, 45, 62, 32, 105, 110, 116, 59, 32, 49] }, .string { data := #[111, 112, 32, 97, 32, 58, 32, 105, 110, 116, 32, 45, 62, 32, 105, 110, 116, 32, 49] }, .string { data := #[111, 112, 32, 97, 32, 58, 32, 120, 32, 45, 62, 32, 105, 110, 116, 59, 32, 49] }, .string { data := #[111, 112, 32, 97, 32, 58, 32, 105, 110, 116, 32, 45, 62, 32, 105, 110, 116, 59] }, .string { data := #[120, 32, 102, 117, 110, 32, 121, 32, 45, 62, 32, 121] }, .string { data := #[49, 32, 108, 101, 116, 32, 120, 32, 61, 32, 50, 32, 105, 110, 32, 120] }, .string { data := #[45, 62] }, .string { data := #[116, 114, 117, 101, 32, 102, 97, 108, 115, 101, 32, 116, 104, 101, 110] }, .string { data := #[49, 32, 43, 32, 42, 32, 50] }] 9) 3 #[.int .i64 0, .int .i64 3, .int .i64 5, .int .i64 8, .int .i64 4, .int .i64 6, .int .i64 11, .int .i64 10, .int .i64 11, .int .i64 3, .int .i64 7, .int .i64 6, .int .i64 3, .int .i64 4, .int .i64 2, .int .i64 1, .int .i64 18, .int .i64 38, .int .i64 25, .int .i64 5, .int .i64 18, .int .i64 7, .int .i64 18, .int .i64 2, .int .i64 2, .int .i64 0, .int .i64 11, .int .i64 4]
  have r0 := (BS.cell n).trans hs0
  have r1 := (BW.cell n).trans hw0
  have g2 := hg1.below hb2
  have hb02 := hb1.trans (hb2.mono hb1.size)
  clear BS hs0
  go_wp2_with fail
  refine (parse_any _ hsz _ g2).mono ?_
  rw [HE.out]
  rintro e w3 ⟨rfl, hb3⟩
  have hb3' : Below w3.heap.size w3 (w3.alloc (.cells #[.slice none 0 0, .slice none 0 0] 31)) := (Below.refl _ _).alloc (Nat.le_refl _) _
  have r3 := (((BW.below hb3 BW.lt).below hb3' (BW.below hb3 BW.lt).lt).cell n).trans hw0
  have hb03 := hb02.trans ((hb3.trans (hb3'.mono hb3.size)).mono hb02.size)
  clear BW hw0 r0 r1 hb2
  go_wp2_with (go_at_call 13; refine (numP_any _ _).mono ?_; rintro e w10 ⟨rfl, hw10⟩; obtain rfl := hw10)
  go_ret
  exact ⟨rfl, hb03⟩
end Go.Proofs.YtiflfnnnbgmomaaDoor
