/- The walks of package parse: base, starts, op. -/
import Derived.Test.YtiflfnnnbgmomaaDoorParseD
namespace Go.Proofs.YtiflfnnnbgmomaaDoor
set_option linter.unusedVariables false
set_option linter.unusedSimpArgs false
open Go.RowKit
set_option maxHeartbeats 1000000
set_option maxRecDepth 100000
attribute [local go_sem ↓] Go.wp_at_zero Go.wp_at_succ

theorem fail_ops (p : PS) (c : Int) : (p.fail c).ops = p.ops ∧ (p.fail c).ns = p.ns := by unfold PS.fail; split <;> exact ⟨rfl, rfl⟩
theorem must_ops (p : PS) (s : Bs) : (p.must s).ops = p.ops ∧ (p.must s).ns = p.ns := by
  unfold PS.must
  split
  · exact ⟨rfl, rfl⟩
  · exact fail_ops p 403
theorem name_ops (p : PS) : p.name.2.ops = p.ops ∧ p.name.2.ns = p.ns := by
  unfold PS.name
  split
  · exact ⟨rfl, rfl⟩
  · exact fail_ops p 403
theorem base_ops (p : PS) : p.base.2.ops = p.ops ∧ p.base.2.ns = p.ns := by
  unfold PS.base
  split
  · exact ⟨rfl, rfl⟩
  · exact must_ops p _
theorem base_parse (w : World) (pb : Nat) (p : PS) (deep : Int) (L : Nat → Prop) (h : PAt w pb p deep L) :
    Calls Tryd.prog 58 #[.pointer (some ⟨pb, 0, none⟩)] w fun e w' => e = .returned (.int .i64 p.base.1) ∧ PAt w' pb p.base.2 deep L ∧ KeepOn L w w' := by
  have HP := Lib.hid h
  cases his : p.is wInt with
  | true =>
    have HI := Lib.hid (show p.is (tl { data := #[105, 110, 116] }) = true from his)
    have HF := Lib.hid (show p.base = (0, p.take (tl { data := #[105, 110, 116] })) by unfold PS.base; rw [if_pos his]; show _ = (0, p.take wInt); unfold PS.take; rw [if_pos his])
    clear his h
    go_enter Tryd.func58, Tryd.ntmps58
    go_wp2_with (go_at_call 87; refine (take_any _ _ _ p deep L HP.out).mono ?_; rw [HI.out]; rintro e w2 ⟨rfl, hP2, hK2⟩)
    go_ret
    rw [HF.out]
    exact ⟨rfl, hP2, hK2⟩
  | false =>
    have HI := Lib.hid (show p.is (tl { data := #[105, 110, 116] }) = false from his)
    have HF := Lib.hid (show p.base = (1, (p.take (tl { data := #[105, 110, 116] })).must wBool) by
      unfold PS.base; rw [if_neg (by rw [his]; decide)]; show _ = (1, (p.take wInt).must wBool); unfold PS.take; rw [if_neg (by rw [his]; decide)])
    clear his h
    go_enter Tryd.func58, Tryd.ntmps58
    go_wp2_with (first
      | (go_at_call 87; refine (take_any _ _ _ p deep L HP.out).mono ?_; rw [HI.out]; rintro e w2 ⟨rfl, hP2, hK2⟩; have HP2 := Lib.hid hP2; clear hP2)
      | (go_at_call 56; refine (must_any _ _ _ _ deep L HP2.out).mono ?_; rintro e w3 ⟨rfl, hP3, hK3⟩))
    go_ret
    rw [HF.out]
    exact ⟨rfl, hP3, hK2.trans hK3⟩
theorem starts_any (w : World) (pb : Nat) (p : PS) (deep : Int) (L : Nat → Prop) (h : PAt w pb p deep L) :
    Calls Tryd.prog 120 #[.pointer (some ⟨pb, 0, none⟩)] w fun e w' => e = .returned (.bool (starts p)) ∧ w' = w := by
  cases hn : p.next with
  | none =>
    have HF := Lib.hid (show starts p = false by unfold starts; rw [hn])
    have HN := Lib.hid hn
    have HP := Lib.hid h
    clear hn h
    go_enter Tryd.func120, Tryd.ntmps120
    go_wp2_with (go_at_call 39; refine (next_no _ _ p deep L HP.out HN.out).mono ?_; rintro e w2 ⟨rfl, hw2⟩; obtain rfl := hw2)
    go_ret
    exact ⟨ret_bool HF.out.symm, rfl⟩
  | some t =>
    have HF := Lib.hid (show starts p = (decide (t.kind = 0) || decide (t.kind = 1) || p.is wTrue || p.is wFalse || p.is wOpen || p.is wHandle) by unfold starts; rw [hn])
    have HP := Lib.hid h
    obtain ⟨A, cap, ov, nv, ev, hP⟩ := h
    obtain ⟨ho, ht⟩ := next_some hn
    obtain ⟨b, off, rfl, hb, t0, t1, t2, t3⟩ := hP.2.head ht
    have HPI := Lib.hid hP
    have HN := Lib.hid hn
    clear hn hP ho ht
    have hk : (t.kind : Int) == 0 ∧ t.kind = 0 ∨ (((t.kind : Int) == 0) = false ∧ ((t.kind : Int) == 1) = true ∧ t.kind = 1) ∨ ((t.kind : Int) == 0) = false ∧ ((t.kind : Int) == 1) = false ∧ t.kind ≠ 0 ∧ t.kind ≠ 1 := by
      simp only [beq_iff_eq, beq_eq_false_iff_ne]
      omega
    rcases hk with ⟨k0, hk⟩ | ⟨k0, k1, hk⟩ | ⟨k0, k1, hk, hk'⟩
    · have HF2 := Lib.hid (show starts p = true by rw [HF.out, hk]; rfl)
      clear hk
      go_enter Tryd.func120, Tryd.ntmps120
      go_wp2_with (go_at_call 39; refine (next_yes _ _ p deep L _ cap ov nv ev HPI.out t HN.out).mono ?_; rintro e w2 ⟨rfl, hw2⟩; obtain rfl := hw2)
      go_ret
      exact ⟨ret_bool HF2.out.symm, rfl⟩
    · have HF2 := Lib.hid (show starts p = true by rw [HF.out, hk]; rfl)
      clear hk
      go_enter Tryd.func120, Tryd.ntmps120
      go_wp2_with (go_at_call 39; refine (next_yes _ _ p deep L _ cap ov nv ev HPI.out t HN.out).mono ?_; rintro e w2 ⟨rfl, hw2⟩; obtain rfl := hw2)
      go_ret
      exact ⟨ret_bool HF2.out.symm, rfl⟩
    · have HF2 := Lib.hid (show starts p = (p.is wTrue || p.is wFalse || p.is wOpen || p.is wHandle) by rw [HF.out]; simp [hk, hk'])
      clear hk hk'
      cases i1 : p.is wTrue
      all_goals cases i2 : p.is wFalse
      all_goals cases i3 : p.is wOpen
      all_goals
        have I1 := Lib.hid (show p.is (tl { data := #[116, 114, 117, 101] }) = _ from i1)
        have I2 := Lib.hid (show p.is (tl { data := #[102, 97, 108, 115, 101] }) = _ from i2)
        have I3 := Lib.hid (show p.is (tl { data := #[40] }) = _ from i3)
        rw [i1, i2, i3] at HF2
        clear i1 i2 i3
        go_enter Tryd.func120, Tryd.ntmps120
        go_wp2_with (first
          | (go_at_call 39; refine (next_yes _ _ p deep L _ cap ov nv ev HPI.out t HN.out).mono ?_; rintro e w2 ⟨rfl, hw2⟩; obtain rfl := hw2)
          | (go_at_call 36; refine (is_any _ _ _ p deep L HP.out).mono ?_; (first | rw [I1.out] | rw [I2.out] | rw [I3.out] | skip); rintro e w2 ⟨rfl, hw2⟩; obtain rfl := hw2))
        go_ret
        exact ⟨ret_bool (by rw [HF2.out]; rfl), rfl⟩
end Go.Proofs.YtiflfnnnbgmomaaDoor
