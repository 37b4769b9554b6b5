/- The walks of package parse, the leaves: here, next, is, fail, take, must, name, starts. -/
import Derived.Test.YtiflfnnnbgmomaaDoorParseA
namespace Go.Proofs.YtiflfnnnbgmomaaDoor
set_option linter.unusedVariables false
set_option linter.unusedSimpArgs false
open Go.RowKit
set_option maxHeartbeats 1000000
set_option maxRecDepth 100000

theorem here_any (w : World) (pb : Nat) (p : PS) (deep : Int) (L : Nat → Prop) (h : PAt w pb p deep L) :
    Calls Tryd.prog 60 #[.pointer (some ⟨pb, 0, none⟩)] w fun e w' => e = .returned (.int .i64 p.here) ∧ w' = w := by
  obtain ⟨A, cap, ov, nv, ev, hB, hR⟩ := h
  obtain ⟨c0, c1, c2, c3, c4, c5, hf⟩ := Blk.c6 (show Blk w pb _ #[.slice A p.ts.length cap, .int .i64 p.fin, ov, nv, ev, .int .i64 deep] from hB)
  cases ht : p.ts with
  | nil =>
    have HF := Lib.hid (show p.here = p.fin by unfold PS.here; rw [ht])
    rw [ht] at c0
    clear ht hB hR
    go_enter Tryd.func60, Tryd.ntmps60
    go_wp2
    go_ret
    exact ⟨ret_int HF.out.symm, rfl⟩
  | cons t r =>
    have HF := Lib.hid (show p.here = (t.pos : Int) by unfold PS.here; rw [ht])
    obtain ⟨b, off, rfl, hb, t0, t1, t2, t3⟩ := hR.head ht
    have hn : 0 < p.ts.length := by rw [ht]; simp
    generalize p.ts.length = n at *
    clear ht hB hR
    go_enter Tryd.func60, Tryd.ntmps60
    go_wp2
    go_ret
    exact ⟨ret_int HF.out.symm, rfl⟩

theorem next_no (w : World) (pb : Nat) (p : PS) (deep : Int) (L : Nat → Prop) (h : PAt w pb p deep L) (hn : p.next = none) :
    Calls Tryd.prog 39 #[.pointer (some ⟨pb, 0, none⟩)] w fun e w' => e = .returned (.pointer none) ∧ w' = w := by
  obtain ⟨A, cap, ov, nv, ev, hB, hR⟩ := h
  obtain ⟨c0, c1, c2, c3, c4, c5, hf⟩ := Blk.c6 (show Blk w pb _ #[.slice A p.ts.length cap, .int .i64 p.fin, ov, nv, ev, .int .i64 deep] from hB)
  have he := hR.err
  unfold PS.next at hn
  cases ho : p.err with
  | some x =>
    rw [ho] at he
    obtain ⟨g, e, rfl, _⟩ := he
    clear hB hR ho hn
    generalize p.ts.length = n at *
    go_enter Tryd.func39, Tryd.ntmps39
    go_wp2
    go_ret
    exact ⟨rfl, rfl⟩
  | none =>
    rw [ho] at he hn
    obtain rfl : ev = .nilIface := he
    have ht : p.ts = [] := by simpa using hn
    rw [ht] at c0
    clear hB hR ho hn ht
    go_enter Tryd.func39, Tryd.ntmps39
    go_wp2
    go_ret
    exact ⟨rfl, rfl⟩
theorem next_some {p : PS} {t : Tok} (h : p.next = some t) : p.err = none ∧ p.ts = t :: p.ts.tail := by
  unfold PS.next at h
  cases ho : p.err with
  | some x => rw [ho] at h; cases h
  | none =>
    rw [ho] at h
    refine ⟨rfl, ?_⟩
    cases hs : p.ts with
    | nil => rw [hs] at h; cases h
    | cons a r => rw [hs] at h; injection h with h; rw [h]; rfl
theorem next_yes (w : World) (pb : Nat) (p : PS) (deep : Int) (L : Nat → Prop) (A : Option Addr) (cap : Nat) (ov nv ev : Value) (h : PIn w pb p deep L A cap ov nv ev) (t : Tok) (hn : p.next = some t) :
    Calls Tryd.prog 39 #[.pointer (some ⟨pb, 0, none⟩)] w fun e w' => e = .returned (.pointer A) ∧ w' = w := by
  obtain ⟨hB, hR⟩ := h
  obtain ⟨c0, c1, c2, c3, c4, c5, hf⟩ := Blk.c6 (show Blk w pb _ #[.slice A p.ts.length cap, .int .i64 p.fin, ov, nv, ev, .int .i64 deep] from hB)
  have he := hR.err
  obtain ⟨ho, ht⟩ := next_some hn
  rw [ho] at he
  obtain rfl : ev = .nilIface := he
  obtain ⟨b, off, rfl, hb, t0, t1, t2, t3⟩ := hR.head ht
  have hl : 0 < p.ts.length := by rw [ht]; simp
  have hl2 : ((p.ts.length : Int) == 0) = false := by rw [beq_eq_false_iff_ne]; omega
  generalize p.ts.length = n at *
  clear hB hR ho hn ht
  go_enter Tryd.func39, Tryd.ntmps39
  go_wp2
  go_ret
  exact ⟨rfl, rfl⟩
theorem is_any (s : ByteArray) (w : World) (pb : Nat) (p : PS) (deep : Int) (L : Nat → Prop) (h : PAt w pb p deep L) :
    Calls Tryd.prog 36 #[.pointer (some ⟨pb, 0, none⟩), .string s] w fun e w' => e = .returned (.bool (p.is (tl s))) ∧ w' = w := by
  cases hn : p.next with
  | none =>
    have HF := Lib.hid (show p.is (tl s) = false by unfold PS.is; rw [hn])
    have HN := Lib.hid hn
    have HP := Lib.hid h
    clear hn h
    go_enter Tryd.func36, Tryd.ntmps36
    go_wp2_with (go_at_call 39; refine (next_no _ _ p deep L HP.out HN.out).mono ?_; rintro e w2 ⟨rfl, hw2⟩; obtain rfl := hw2)
    go_ret
    exact ⟨ret_bool HF.out.symm, rfl⟩
  | some t =>
    have HF := Lib.hid (show p.is (tl s) = ((decide (t.kind = 3) || decide (t.kind = 2)) && decide (t.text = tl s)) by unfold PS.is; rw [hn])
    obtain ⟨A, cap, ov, nv, ev, hP⟩ := h
    obtain ⟨ho, ht⟩ := next_some hn
    obtain ⟨b, off, rfl, hb, t0, t1, t2, t3⟩ := hP.2.head ht
    have HP := Lib.hid hP
    have HN := Lib.hid hn
    clear hn hP ho ht
    have hk : ((t.kind : Int) == 3) = true ∧ t.kind = 3 ∨ ((t.kind : Int) == 3) = false ∧ ((t.kind : Int) == 2) = true ∧ t.kind = 2 ∨ ((t.kind : Int) == 3) = false ∧ ((t.kind : Int) == 2) = false ∧ t.kind ≠ 3 ∧ t.kind ≠ 2 := by
      simp only [beq_iff_eq, beq_eq_false_iff_ne]
      omega
    rcases hk with ⟨k3, hk⟩ | ⟨k3, k2, hk⟩ | ⟨k3, k2, hk, hk'⟩
    all_goals
      have HK := Lib.hid hk
      clear hk
      go_enter Tryd.func36, Tryd.ntmps36
      go_wp2_with (go_at_call 39; refine (next_yes _ _ p deep L _ cap ov nv ev HP.out t HN.out).mono ?_; rintro e w2 ⟨rfl, hw2⟩; obtain rfl := hw2)
      go_ret
    · refine ⟨ret_bool ?_, rfl⟩
      show ((ba t.text).toList == s.toList) = _
      rw [← beq_toListBytes, bytes_eq, tl_ba, HF.out]
      simp [HK.out]
    · refine ⟨ret_bool ?_, rfl⟩
      show ((ba t.text).toList == s.toList) = _
      rw [← beq_toListBytes, bytes_eq, tl_ba, HF.out]
      simp [HK.out]
    · refine ⟨ret_bool ?_, rfl⟩
      rw [HF.out]
      simp [HK.out, hk']
end Go.Proofs.YtiflfnnnbgmomaaDoor
