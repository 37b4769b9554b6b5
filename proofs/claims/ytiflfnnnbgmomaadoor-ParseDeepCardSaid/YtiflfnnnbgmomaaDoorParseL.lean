/- The walks of package parse: inner. -/
import Derived.Test.YtiflfnnnbgmomaaDoorParseK
namespace Go.Proofs.YtiflfnnnbgmomaaDoor
set_option linter.unusedVariables false
set_option linter.unusedSimpArgs false
open Go.RowKit
set_option maxHeartbeats 2000000
set_option maxRecDepth 100000

theorem PAt.deep_ {w : World} {pb : Nat} {p : PS} {deep : Int} {L : Nat → Prop} (h : PAt w pb p deep L) (d : Int) : PAt (w.setCell ⟨pb, 5, none⟩ (.int .i64 d)) pb p d L := by
  obtain ⟨A, cap, ov, nv, ev, hB, hR⟩ := h
  exact ⟨A, cap, ov, nv, ev, hB.set_ 5 _, hR.keep (only_setCell (World.grownBy.refl _ _) (.inl rfl) _)⟩
theorem PAt.c6 {w : World} {pb : Nat} {p : PS} {deep : Int} {L : Nat → Prop} (h : PAt w pb p deep L) : ∃ a c d e, w.cell? ⟨pb, 0, none⟩ = some a ∧ w.cell? ⟨pb, 1, none⟩ = some (.int .i64 p.fin) ∧ w.cell? ⟨pb, 2, none⟩ = some c ∧ w.cell? ⟨pb, 3, none⟩ = some d ∧ w.cell? ⟨pb, 4, none⟩ = some e ∧ w.cell? ⟨pb, 5, none⟩ = some (.int .i64 deep) ∧ (∀ i, w.frozen? ⟨pb, i, none⟩ = false) ∧ ErrV w pb L p.err e := by
  obtain ⟨A, cap, ov, nv, ev, hB, hR⟩ := h
  obtain ⟨c0, c1, c2, c3, c4, c5, hf⟩ := Blk.c6 (show Blk _ pb _ #[.slice A p.ts.length cap, .int .i64 p.fin, ov, nv, ev, .int .i64 deep] from hB)
  exact ⟨_, _, _, _, c0, c1, c2, c3, c4, c5, hf, hR.err⟩
theorem fail_err (p : PS) (c : Int) : ∃ x, (p.fail c).err = some x := by
  unfold PS.fail
  cases h : p.err with
  | some x => exact ⟨x, h⟩
  | none => exact ⟨_, rfl⟩
theorem inner_0 : PFun 38 (innerB 0) 40 := by
  intro m w pb p L hm hg h
  have HP := Lib.hid h
  have hne : pb < w.heap.size := h.lt
  obtain ⟨a, c, d, e, c0, c1, c2, c3, c4, c5, hf, he⟩ := h.c6
  clear h he
  go_enter Tryd.func38, Tryd.ntmps38
  go_wp2_with fail
  refine (fail_any 401 _ (ErrIs.num _) _ _ _ 40 _ HP.out).mono ?_
  rintro e w2 ⟨rfl, hP, hK⟩
  obtain ⟨a', c', d', e', c0', c1', c2', c3', c4', c5', hf', he'⟩ := hP.c6
  obtain ⟨x, hx⟩ := fail_err p 401
  rw [hx] at he'
  obtain ⟨g, e3, rfl, _⟩ := he'
  have HP2 := Lib.hid hP
  clear hP hx
  go_wp2_with fail
  go_ret
  exact ⟨rfl, HP2.out, hK⟩
theorem inner_bad (F : Inner) (D : Int) (hD : D < 40) (m : Int) (w : World) (pb : Nat) (p : PS) (L : Nat → Prop) (h : PAt w pb p D L) (hb : p.bad = true) :
    Calls Tryd.prog 38 #[.pointer (some ⟨pb, 0, none⟩)] w (Gave w pb D L (0, p)) := by
  have HP := Lib.hid h
  obtain ⟨a, c, d, e, c0, c1, c2, c3, c4, c5, hf, he⟩ := h.c6
  obtain ⟨x, hx⟩ : ∃ x, p.err = some x := by
    unfold PS.bad at hb
    cases hx : p.err with
    | none => rw [hx] at hb; cases hb
    | some x => exact ⟨x, rfl⟩
  rw [hx] at he
  obtain ⟨g, e3, rfl, _⟩ := he
  have hne : (D == 40) = false := by rw [beq_eq_false_iff_ne]; omega
  clear h hx hb
  go_enter Tryd.func38, Tryd.ntmps38
  go_wp2_with fail
  go_ret
  exact ⟨rfl, HP.out, KeepOn.refl _ _⟩
theorem inner_good (F : Inner) (D : Int) (h0 : 0 ≤ D) (hD : D < 40) (ih : PFun 38 F (D + 1)) (hmono : Mono F) (m : Int) (w : World) (pb : Nat) (p : PS) (L : Nat → Prop) (hm : ML m w) (hg : 1 < pb) (h : PAt w pb p D L) (hb : p.bad = false) :
    Calls Tryd.prog 38 #[.pointer (some ⟨pb, 0, none⟩)] w (Gave w pb D L (exprB F p)) := by
  have HP := Lib.hid h
  have EX := Lib.hid (expr_any F (D + 1) ih hmono)
  have HM := Lib.hid hm
  have hL := Lib.hid (h.low hg)
  have hnL := Lib.hid (show ¬ L pb from fun hL => (h.loc hL).2 rfl)
  obtain ⟨a, c, d, e, c0, c1, c2, c3, c4, c5, hf, he⟩ := h.c6
  have hx : p.err = none := by
    unfold PS.bad at hb
    cases hx : p.err with
    | none => rfl
    | some x => rw [hx] at hb; cases hb
  rw [hx] at he
  obtain rfl : e = .nilIface := he
  have hne : (D == 40) = false := by rw [beq_eq_false_iff_ne]; omega
  have hw1 : IntKind.i64.wrap (D + 1) = D + 1 := by unfold IntKind.wrap; simp [IntKind.bits, IntKind.signed]; omega
  have hw2 : IntKind.i64.wrap (D + 1 - 1) = D := by unfold IntKind.wrap; simp [IntKind.bits, IntKind.signed]; omega
  have HD := Lib.hid (show PAt _ pb p (D + 1) L from h.deep_ (D + 1))
  have HK := Lib.hid ((KeepOn.refl L w).setCell (p := ⟨pb, 5, none⟩) hnL.out (.int .i64 (D + 1)))
  clear h hx hb ih hm hmono
  go_enter Tryd.func38, Tryd.ntmps38
  go_wp2_with fail
  refine (EX.out m _ _ _ _ (HK.out.ml HM.out hL.out) hg HD.out).mono ?_
  rintro e w2 ⟨rfl, hP, hK⟩
  obtain ⟨a', c', d', e', c0', c1', c2', c3', c4', c5', hf', he'⟩ := hP.c6
  have HP2 := Lib.hid hP
  clear hP he'
  go_wp2_with fail
  go_ret
  exact ⟨rfl, HP2.out.deep_ D, (HK.out.trans hK).setCell (p := ⟨pb, 5, none⟩) hnL.out _⟩
theorem inner_any : ∀ d : Nat, d ≤ 40 → PFun 38 (innerB d) (40 - (d : Int))
  | 0, _ => inner_0
  | d + 1, hd => by
    have ih := inner_any d (by omega)
    intro m w pb p L hm hg h
    show Calls _ _ _ _ (Gave w pb _ L (innerB (d + 1) p))
    cases hb : p.bad with
    | true =>
      have := inner_bad (innerB d) (40 - ((d + 1 : Nat) : Int)) (by omega) m w pb p L h hb
      unfold innerB
      rwa [if_pos hb]
    | false =>
      have := inner_good (innerB d) (40 - ((d + 1 : Nat) : Int)) (by omega) (by omega) (by rwa [show (40 : Int) - ((d + 1 : Nat) : Int) + 1 = 40 - (d : Int) by omega]) (inner_ts d) m w pb p L hm hg h hb
      unfold innerB
      rwa [if_neg (by rw [hb]; decide)]
end Go.Proofs.YtiflfnnnbgmomaaDoor
