/- The walks of package parse: expr, inner. -/
import Derived.Test.YtiflfnnnbgmomaaDoorParseJ
namespace Go.Proofs.YtiflfnnnbgmomaaDoor
set_option linter.unusedVariables false
set_option linter.unusedSimpArgs false
open Go.RowKit
set_option maxHeartbeats 2000000
set_option maxRecDepth 100000

theorem is_other {p : PS} {s t : Bs} (h : p.is s = true) (hne : s ≠ t) : p.is t = false := by
  unfold PS.is at h ⊢
  cases hn : p.next with
  | none => rfl
  | some k =>
    rw [hn] at h
    simp only [Bool.and_eq_true, decide_eq_true_eq] at h
    simp only [h.2, decide_eq_false hne, Bool.and_false]
theorem expr_fun (inner : Inner) (D : Int) (ih : PFun 38 inner D) (m : Int) (w : World) (pb : Nat) (p : PS) (L : Nat → Prop) (hm : ML m w) (hg : 1 < pb) (h : PAt w pb p D L) (his : p.is wFun = true) :
    Calls Tryd.prog 59 #[.pointer (some ⟨pb, 0, none⟩)] w (Gave w pb D L (exprB inner p)) := by
  have IH := Lib.hid ih
  have HP := Lib.hid h
  have hL := Lib.hid (h.low hg)
  have HM := Lib.hid hm
  have h0 := Lib.hid (fun k hk => (h.loc (k := k) hk).1)
  have H1 := Lib.hid (Loc.start h (KeepOn.refl L w) (fun k hk => (h.loc hk).1) (ndArr (nd0 p.here)) 24)
  have hlt := h.lt
  have IA := Lib.hid (show p.is (tl { data := #[102, 117, 110] }) = true from his)
  obtain ⟨⟨vn, q1⟩, e1⟩ : ∃ q, p.pop.name = q := ⟨_, rfl⟩
  obtain ⟨⟨va, q2⟩, e2⟩ : ∃ q, thenB inner q1 (tl { data := #[45, 62] }) = q := ⟨_, rfl⟩
  obtain ⟨⟨vp, q3⟩, e3⟩ : ∃ q, q2.put { nd0 p.here with kind := 3, x := vn, a := va } = q := ⟨_, rfl⟩
  have HF := Lib.hid (show exprB inner p = (vp, q3) by
    have f2 : thenB inner q1 wArrow = (va, q2) := e2
    unfold exprB funB
    rw [if_pos his]
    simp only [e1, f2, e3])
  have E1 := Lib.hid e1
  have E2 := Lib.hid e2
  have E3 := Lib.hid e3
  clear h ih hm e1 e2 e3
  go_enter Tryd.func59, Tryd.ntmps59
  go_wp2_with fail
  refine (here_any _ _ p D L HP.out).mono ?_
  rintro e w1 ⟨rfl, hw⟩
  subst hw
  go_wp2_with fail
  refine (take_yes _ _ _ _ D _ H1.out.at_ IA.out).mono ?_
  rintro e w11 ⟨rfl, hP, hK⟩
  have H := H1.out.call hP hK
  obtain ⟨c0, c1, c2, c3, c4, c5, c6, c7, c8, c9, cf⟩ := nd10 H.blk
  have H2 := Lib.hid H
  clear hP hK H
  go_wp2_with fail
  refine (name_any _ _ _ D _ H2.out.at_).mono ?_
  rw [E1.out]
  rintro e w12 ⟨rfl, hP, hK⟩
  have H := H2.out.call hP hK
  clear c0 c1 c2 c3 c4 c5 c6 c7 c8 c9 cf
  obtain ⟨c0, c1, c2, c3, c4, c5, c6, c7, c8, c9, cf⟩ := nd10 H.blk
  have H := LocN.kind_ H 3
  have H := LocN.x_ H vn
  have H3 := Lib.hid H
  clear hP hK H
  go_wp2_with fail
  refine (then_any inner D IH.out m _ _ _ _ (H3.out.keep.ml HM.out hL.out) hg _ H3.out.at_).mono ?_
  rw [E2.out]
  rintro e w13 ⟨rfl, hP, hK⟩
  have H := H3.out.call hP hK
  clear c0 c1 c2 c3 c4 c5 c6 c7 c8 c9 cf
  obtain ⟨c0, c1, c2, c3, c4, c5, c6, c7, c8, c9, cf⟩ := nd10 H.blk
  have H := LocN.a_ H va
  have H4 := Lib.hid H
  clear hP hK H
  go_wp2_with fail
  refine (put_any { nd0 p.here with kind := 3, x := vn, a := va } _ _ _ D _ H4.out.at_).mono ?_
  rw [E3.out]
  rintro e w14 ⟨rfl, hP, hK⟩
  have H := H4.out.call hP hK
  go_wp2_with fail
  go_ret
  obtain ⟨a1, a2⟩ := H.done (fun k hk => HP.out.low hk)
  rw [HF.out]
  exact ⟨rfl, a1, a2⟩
theorem expr_let (inner : Inner) (D : Int) (ih : PFun 38 inner D) (m : Int) (w : World) (pb : Nat) (p : PS) (L : Nat → Prop) (hm : ML m w) (hg : 1 < pb) (h : PAt w pb p D L) (hno : p.is wFun = false) (his : p.is wLet = true) (hrec : p.pop.is wRec = false) :
    Calls Tryd.prog 59 #[.pointer (some ⟨pb, 0, none⟩)] w (Gave w pb D L (exprB inner p)) := by
  have IH := Lib.hid ih
  have HP := Lib.hid h
  have hL := Lib.hid (h.low hg)
  have HM := Lib.hid hm
  have h0 := Lib.hid (fun k hk => (h.loc (k := k) hk).1)
  have H1 := Lib.hid (Loc.start h (KeepOn.refl L w) (fun k hk => (h.loc hk).1) (ndArr (nd0 p.here)) 24)
  have hlt := h.lt
  have IN := Lib.hid (show p.is (tl { data := #[102, 117, 110] }) = false from hno)
  have IA := Lib.hid (show p.is (tl { data := #[108, 101, 116] }) = true from his)
  have IB := Lib.hid (show p.pop.is (tl { data := #[114, 101, 99] }) = false from hrec)
  obtain ⟨⟨vx, q1⟩, e1⟩ : ∃ q, p.pop.name = q := ⟨_, rfl⟩
  obtain ⟨⟨va, q3⟩, e2⟩ : ∃ q, thenB inner q1 (tl { data := #[61] }) = q := ⟨_, rfl⟩
  obtain ⟨⟨vb, q4⟩, e3⟩ : ∃ q, thenB inner q3 (tl { data := #[105, 110] }) = q := ⟨_, rfl⟩
  obtain ⟨⟨vp, q5⟩, e4⟩ : ∃ q, q4.put { nd0 p.here with kind := 5, x := vx, y := [], a := va, b := vb } = q := ⟨_, rfl⟩
  have HF := Lib.hid (show exprB inner p = (vp, q5) by
    have f2 : thenB inner q1 wIs = (va, q3) := e2
    have f3 : thenB inner q3 wIn = (vb, q4) := e3
    have ft : p.pop.take wRec = p.pop := by unfold PS.take; rw [hrec]; rfl
    unfold exprB letB
    rw [if_neg (by rw [hno]; decide), if_pos his]
    simp only [hrec, ft, if_true, Bool.false_eq_true, if_false]
    simp only [e1, f2, f3, e4])
  have E1 := Lib.hid e1
  have E2 := Lib.hid e2
  have E3 := Lib.hid e3
  have E4 := Lib.hid e4
  clear h ih hm e1 e2 e3 e4
  go_enter Tryd.func59, Tryd.ntmps59
  go_wp2_with fail
  refine (here_any _ _ p D L HP.out).mono ?_
  rintro e w1 ⟨rfl, hw⟩
  subst hw
  go_wp2_with fail
  refine (take_no _ _ _ _ D _ H1.out.at_ IN.out).mono ?_
  rintro e v1 ⟨rfl, hw⟩
  subst hw
  go_wp2_with fail
  refine (take_yes _ _ _ _ D _ H1.out.at_ IA.out).mono ?_
  rintro e w11 ⟨rfl, hP, hK⟩
  have H := H1.out.call hP hK
  obtain ⟨c0, c1, c2, c3, c4, c5, c6, c7, c8, c9, cf⟩ := nd10 H.blk
  have H2 := Lib.hid H
  clear hP hK H
  go_wp2_with fail
  have H := LocN.kind_ H2.out 5
  clear H2
  obtain ⟨d0, d1, d2, d3, d4, d5, d6, d7, d8, d9, df⟩ := nd10 H.blk
  have H2 := Lib.hid H
  clear H
  refine (take_no _ _ _ _ D _ H2.out.at_ IB.out).mono ?_
  rintro e v1 ⟨rfl, hw⟩
  subst hw
  go_wp2_with fail
  refine (name_any _ _ _ D _ H2.out.at_).mono ?_
  rw [E1.out]
  rintro e w12 ⟨rfl, hP, hK⟩
  have H := H2.out.call hP hK
  clear c0 c1 c2 c3 c4 c5 c6 c7 c8 c9 cf
  obtain ⟨c0, c1, c2, c3, c4, c5, c6, c7, c8, c9, cf⟩ := nd10 H.blk
  have H := LocN.x_ H vx
  have H3 := Lib.hid H
  clear hP hK H
  go_wp2_with fail
  refine (then_any inner D IH.out m _ _ _ _ (H3.out.keep.ml HM.out hL.out) hg _ H3.out.at_).mono ?_
  rw [E2.out]
  rintro e w13 ⟨rfl, hP, hK⟩
  have H := H3.out.call hP hK
  clear c0 c1 c2 c3 c4 c5 c6 c7 c8 c9 cf
  obtain ⟨c0, c1, c2, c3, c4, c5, c6, c7, c8, c9, cf⟩ := nd10 H.blk
  have H := LocN.a_ H va
  have H4 := Lib.hid H
  clear hP hK H
  go_wp2_with fail
  refine (then_any inner D IH.out m _ _ _ _ (H4.out.keep.ml HM.out hL.out) hg _ H4.out.at_).mono ?_
  rw [E3.out]
  rintro e w14 ⟨rfl, hP, hK⟩
  have H := H4.out.call hP hK
  clear c0 c1 c2 c3 c4 c5 c6 c7 c8 c9 cf
  obtain ⟨c0, c1, c2, c3, c4, c5, c6, c7, c8, c9, cf⟩ := nd10 H.blk
  have H := LocN.b_ H vb
  have H5 := Lib.hid H
  clear hP hK H
  go_wp2_with fail
  refine (put_any { nd0 p.here with kind := 5, x := vx, y := [], a := va, b := vb } _ _ _ D _ H5.out.at_).mono ?_
  rw [E4.out]
  rintro e w15 ⟨rfl, hP, hK⟩
  have H := H5.out.call hP hK
  go_wp2_with fail
  go_ret
  obtain ⟨a1, a2⟩ := H.done (fun k hk => HP.out.low hk)
  rw [HF.out]
  exact ⟨rfl, a1, a2⟩
theorem expr_rec (inner : Inner) (D : Int) (ih : PFun 38 inner D) (m : Int) (w : World) (pb : Nat) (p : PS) (L : Nat → Prop) (hm : ML m w) (hg : 1 < pb) (h : PAt w pb p D L) (hno : p.is wFun = false) (his : p.is wLet = true) (hrec : p.pop.is wRec = true) :
    Calls Tryd.prog 59 #[.pointer (some ⟨pb, 0, none⟩)] w (Gave w pb D L (exprB inner p)) := by
  have IH := Lib.hid ih
  have HP := Lib.hid h
  have hL := Lib.hid (h.low hg)
  have HM := Lib.hid hm
  have h0 := Lib.hid (fun k hk => (h.loc (k := k) hk).1)
  have H1 := Lib.hid (Loc.start h (KeepOn.refl L w) (fun k hk => (h.loc hk).1) (ndArr (nd0 p.here)) 24)
  have hlt := h.lt
  have IN := Lib.hid (show p.is (tl { data := #[102, 117, 110] }) = false from hno)
  have IA := Lib.hid (show p.is (tl { data := #[108, 101, 116] }) = true from his)
  have IB := Lib.hid (show p.pop.is (tl { data := #[114, 101, 99] }) = true from hrec)
  obtain ⟨⟨vx, q1⟩, e1⟩ : ∃ q, p.pop.pop.name = q := ⟨_, rfl⟩
  obtain ⟨⟨vy, q2⟩, e2⟩ : ∃ q, q1.name = q := ⟨_, rfl⟩
  obtain ⟨⟨va, q3⟩, e3⟩ : ∃ q, thenB inner q2 (tl { data := #[61] }) = q := ⟨_, rfl⟩
  obtain ⟨⟨vb, q4⟩, e4⟩ : ∃ q, thenB inner q3 (tl { data := #[105, 110] }) = q := ⟨_, rfl⟩
  obtain ⟨⟨vp, q5⟩, e5⟩ : ∃ q, q4.put { nd0 p.here with kind := 6, x := vx, y := vy, a := va, b := vb } = q := ⟨_, rfl⟩
  have HF := Lib.hid (show exprB inner p = (vp, q5) by
    have f2 : thenB inner q2 wIs = (va, q3) := e3
    have f3 : thenB inner q3 wIn = (vb, q4) := e4
    have ft : p.pop.take wRec = p.pop.pop := by unfold PS.take; rw [hrec]; rfl
    unfold exprB letB
    rw [if_neg (by rw [hno]; decide), if_pos his]
    simp only [hrec, ft, if_true, Bool.false_eq_true, if_false]
    simp only [e1, e2, f2, f3, e5])
  have E1 := Lib.hid e1
  have E2 := Lib.hid e2
  have E3 := Lib.hid e3
  have E4 := Lib.hid e4
  have E5 := Lib.hid e5
  clear h ih hm e1 e2 e3 e4 e5
  go_enter Tryd.func59, Tryd.ntmps59
  go_wp2_with fail
  refine (here_any _ _ p D L HP.out).mono ?_
  rintro e w1 ⟨rfl, hw⟩
  subst hw
  go_wp2_with fail
  refine (take_no _ _ _ _ D _ H1.out.at_ IN.out).mono ?_
  rintro e v1 ⟨rfl, hw⟩
  subst hw
  go_wp2_with fail
  refine (take_yes _ _ _ _ D _ H1.out.at_ IA.out).mono ?_
  rintro e w11 ⟨rfl, hP, hK⟩
  have H := H1.out.call hP hK
  obtain ⟨c0, c1, c2, c3, c4, c5, c6, c7, c8, c9, cf⟩ := nd10 H.blk
  have H2 := Lib.hid H
  clear hP hK H
  go_wp2_with fail
  have H := LocN.kind_ H2.out 5
  clear H2
  obtain ⟨d0, d1, d2, d3, d4, d5, d6, d7, d8, d9, df⟩ := nd10 H.blk
  have H2 := Lib.hid H
  clear H
  refine (take_yes _ _ _ _ D _ H2.out.at_ IB.out).mono ?_
  rintro e w12 ⟨rfl, hP, hK⟩
  have H := H2.out.call hP hK
  clear c0 c1 c2 c3 c4 c5 c6 c7 c8 c9 cf
  obtain ⟨c0, c1, c2, c3, c4, c5, c6, c7, c8, c9, cf⟩ := nd10 H.blk
  have H3 := Lib.hid (LocN.kind_ H 6)
  clear hP hK H
  go_wp2_with fail
  refine (name_any _ _ _ D _ H3.out.at_).mono ?_
  rw [E1.out]
  rintro e w13 ⟨rfl, hP, hK⟩
  have H := H3.out.call hP hK
  clear c0 c1 c2 c3 c4 c5 c6 c7 c8 c9 cf
  obtain ⟨c0, c1, c2, c3, c4, c5, c6, c7, c8, c9, cf⟩ := nd10 H.blk
  have H := LocN.x_ H vx
  have H4 := Lib.hid H
  clear hP hK H
  go_wp2_with fail
  refine (name_any _ _ _ D _ H4.out.at_).mono ?_
  rw [E2.out]
  rintro e w14 ⟨rfl, hP, hK⟩
  have H := H4.out.call hP hK
  clear c0 c1 c2 c3 c4 c5 c6 c7 c8 c9 cf
  obtain ⟨c0, c1, c2, c3, c4, c5, c6, c7, c8, c9, cf⟩ := nd10 H.blk
  have H := LocN.y_ H vy
  have H5 := Lib.hid H
  clear hP hK H
  go_wp2_with fail
  refine (then_any inner D IH.out m _ _ _ _ (H5.out.keep.ml HM.out hL.out) hg _ H5.out.at_).mono ?_
  rw [E3.out]
  rintro e w15 ⟨rfl, hP, hK⟩
  have H := H5.out.call hP hK
  clear c0 c1 c2 c3 c4 c5 c6 c7 c8 c9 cf
  obtain ⟨c0, c1, c2, c3, c4, c5, c6, c7, c8, c9, cf⟩ := nd10 H.blk
  have H := LocN.a_ H va
  have H6 := Lib.hid H
  clear hP hK H
  go_wp2_with fail
  refine (then_any inner D IH.out m _ _ _ _ (H6.out.keep.ml HM.out hL.out) hg _ H6.out.at_).mono ?_
  rw [E4.out]
  rintro e w16 ⟨rfl, hP, hK⟩
  have H := H6.out.call hP hK
  clear c0 c1 c2 c3 c4 c5 c6 c7 c8 c9 cf
  obtain ⟨c0, c1, c2, c3, c4, c5, c6, c7, c8, c9, cf⟩ := nd10 H.blk
  have H := LocN.b_ H vb
  have H7 := Lib.hid H
  clear hP hK H
  go_wp2_with fail
  refine (put_any { nd0 p.here with kind := 6, x := vx, y := vy, a := va, b := vb } _ _ _ D _ H7.out.at_).mono ?_
  rw [E5.out]
  rintro e w17 ⟨rfl, hP, hK⟩
  have H := H7.out.call hP hK
  go_wp2_with fail
  go_ret
  obtain ⟨a1, a2⟩ := H.done (fun k hk => HP.out.low hk)
  rw [HF.out]
  exact ⟨rfl, a1, a2⟩
theorem expr_if (inner : Inner) (D : Int) (ih : PFun 38 inner D) (m : Int) (w : World) (pb : Nat) (p : PS) (L : Nat → Prop) (hm : ML m w) (hg : 1 < pb) (h : PAt w pb p D L) (hno : p.is wFun = false) (hno2 : p.is wLet = false) (his : p.is wIf = true) :
    Calls Tryd.prog 59 #[.pointer (some ⟨pb, 0, none⟩)] w (Gave w pb D L (exprB inner p)) := by
  have IH := Lib.hid ih
  have HP := Lib.hid h
  have hL := Lib.hid (h.low hg)
  have HM := Lib.hid hm
  have h0 := Lib.hid (fun k hk => (h.loc (k := k) hk).1)
  have H1 := Lib.hid (Loc.start h (KeepOn.refl L w) (fun k hk => (h.loc hk).1) (ndArr (nd0 p.here)) 24)
  have hlt := h.lt
  have IN := Lib.hid (show p.is (tl { data := #[102, 117, 110] }) = false from hno)
  have IM := Lib.hid (show p.is (tl { data := #[108, 101, 116] }) = false from hno2)
  have IA := Lib.hid (show p.is (tl { data := #[105, 102] }) = true from his)
  obtain ⟨⟨va, q1⟩, e1⟩ : ∃ q, inner p.pop = q := ⟨_, rfl⟩
  obtain ⟨⟨vb, q2⟩, e2⟩ : ∃ q, thenB inner q1 (tl { data := #[116, 104, 101, 110] }) = q := ⟨_, rfl⟩
  obtain ⟨⟨vc, q3⟩, e3⟩ : ∃ q, thenB inner q2 (tl { data := #[101, 108, 115, 101] }) = q := ⟨_, rfl⟩
  obtain ⟨⟨vp, q4⟩, e4⟩ : ∃ q, q3.put { nd0 p.here with kind := 7, a := va, b := vb, c := vc } = q := ⟨_, rfl⟩
  have HF := Lib.hid (show exprB inner p = (vp, q4) by
    have f2 : thenB inner q1 wThen = (vb, q2) := e2
    have f3 : thenB inner q2 wElse = (vc, q3) := e3
    unfold exprB ifB
    rw [if_neg (by rw [hno]; decide), if_neg (by rw [hno2]; decide), if_pos his]
    simp only [e1, f2, f3, e4])
  have E1 := Lib.hid e1
  have E2 := Lib.hid e2
  have E3 := Lib.hid e3
  have E4 := Lib.hid e4
  clear h ih hm e1 e2 e3 e4
  go_enter Tryd.func59, Tryd.ntmps59
  go_wp2_with fail
  refine (here_any _ _ p D L HP.out).mono ?_
  rintro e w1 ⟨rfl, hw⟩
  subst hw
  go_wp2_with fail
  refine (take_no _ _ _ _ D _ H1.out.at_ IN.out).mono ?_
  rintro e v1 ⟨rfl, hw⟩
  subst hw
  go_wp2_with fail
  refine (take_no _ _ _ _ D _ H1.out.at_ IM.out).mono ?_
  rintro e v1 ⟨rfl, hw⟩
  subst hw
  go_wp2_with fail
  refine (take_yes _ _ _ _ D _ H1.out.at_ IA.out).mono ?_
  rintro e w11 ⟨rfl, hP, hK⟩
  have H := H1.out.call hP hK
  obtain ⟨c0, c1, c2, c3, c4, c5, c6, c7, c8, c9, cf⟩ := nd10 H.blk
  have H2 := Lib.hid H
  clear hP hK H
  go_wp2_with fail
  refine (IH.out m _ _ _ _ (H2.out.keep.ml HM.out hL.out) hg H2.out.at_).mono ?_
  rw [E1.out]
  rintro e w12 ⟨rfl, hP, hK⟩
  have H := H2.out.call hP hK
  clear c0 c1 c2 c3 c4 c5 c6 c7 c8 c9 cf
  obtain ⟨c0, c1, c2, c3, c4, c5, c6, c7, c8, c9, cf⟩ := nd10 H.blk
  have H := LocN.kind_ H 7
  have H := LocN.a_ H va
  have H3 := Lib.hid H
  clear hP hK H
  go_wp2_with fail
  refine (then_any inner D IH.out m _ _ _ _ (H3.out.keep.ml HM.out hL.out) hg _ H3.out.at_).mono ?_
  rw [E2.out]
  rintro e w13 ⟨rfl, hP, hK⟩
  have H := H3.out.call hP hK
  clear c0 c1 c2 c3 c4 c5 c6 c7 c8 c9 cf
  obtain ⟨c0, c1, c2, c3, c4, c5, c6, c7, c8, c9, cf⟩ := nd10 H.blk
  have H := LocN.b_ H vb
  have H4 := Lib.hid H
  clear hP hK H
  go_wp2_with fail
  refine (then_any inner D IH.out m _ _ _ _ (H4.out.keep.ml HM.out hL.out) hg _ H4.out.at_).mono ?_
  rw [E3.out]
  rintro e w14 ⟨rfl, hP, hK⟩
  have H := H4.out.call hP hK
  clear c0 c1 c2 c3 c4 c5 c6 c7 c8 c9 cf
  obtain ⟨c0, c1, c2, c3, c4, c5, c6, c7, c8, c9, cf⟩ := nd10 H.blk
  have H := LocN.c_ H vc
  have H5 := Lib.hid H
  clear hP hK H
  go_wp2_with fail
  refine (put_any { nd0 p.here with kind := 7, a := va, b := vb, c := vc } _ _ _ D _ H5.out.at_).mono ?_
  rw [E4.out]
  rintro e w15 ⟨rfl, hP, hK⟩
  have H := H5.out.call hP hK
  go_wp2_with fail
  go_ret
  obtain ⟨a1, a2⟩ := H.done (fun k hk => HP.out.low hk)
  rw [HF.out]
  exact ⟨rfl, a1, a2⟩
theorem expr_level (inner : Inner) (D : Int) (ih : PFun 38 inner D) (m : Int) (w : World) (pb : Nat) (p : PS) (L : Nat → Prop) (hm : ML m w) (hg : 1 < pb) (h : PAt w pb p D L) (hmono : Mono inner) (hno : p.is wFun = false) (hno2 : p.is wLet = false) (hno3 : p.is wIf = false) :
    Calls Tryd.prog 59 #[.pointer (some ⟨pb, 0, none⟩)] w (Gave w pb D L (exprB inner p)) := by
  have IH := Lib.hid ih
  have HP := Lib.hid h
  have hL := Lib.hid (h.low hg)
  have HM := Lib.hid hm
  have h0 := Lib.hid (fun k hk => (h.loc (k := k) hk).1)
  have H1 := Lib.hid (Loc.start h (KeepOn.refl L w) (fun k hk => (h.loc hk).1) (ndArr (nd0 p.here)) 24)
  have hlt := h.lt
  have IN := Lib.hid (show p.is (tl { data := #[102, 117, 110] }) = false from hno)
  have IM := Lib.hid (show p.is (tl { data := #[108, 101, 116] }) = false from hno2)
  have IO := Lib.hid (show p.is (tl { data := #[105, 102] }) = false from hno3)
  have LV := Lib.hid (level_any inner D ih hmono)
  have HF := Lib.hid (show exprB inner p = level0 inner p by
    unfold exprB
    rw [if_neg (by rw [hno]; decide), if_neg (by rw [hno2]; decide), if_neg (by rw [hno3]; decide)])
  clear h ih hm hmono
  go_enter Tryd.func59, Tryd.ntmps59
  go_wp2_with fail
  refine (here_any _ _ p D L HP.out).mono ?_
  rintro e w1 ⟨rfl, hw⟩
  subst hw
  go_wp2_with fail
  refine (take_no _ _ _ _ D _ H1.out.at_ IN.out).mono ?_
  rintro e v1 ⟨rfl, hw⟩
  subst hw
  go_wp2_with fail
  refine (take_no _ _ _ _ D _ H1.out.at_ IM.out).mono ?_
  rintro e v1 ⟨rfl, hw⟩
  subst hw
  go_wp2_with fail
  refine (take_no _ _ _ _ D _ H1.out.at_ IO.out).mono ?_
  rintro e v1 ⟨rfl, hw⟩
  subst hw
  go_wp2_with fail
  refine (LV.out m _ _ _ _ (H1.out.keep.ml HM.out hL.out) hg H1.out.at_).mono ?_
  rintro e w2 ⟨rfl, hP, hK⟩
  have H := H1.out.call hP hK
  go_wp2_with fail
  go_ret
  obtain ⟨a1, a2⟩ := H.done (fun k hk => HP.out.low hk)
  rw [HF.out]
  exact ⟨rfl, a1, a2⟩
theorem expr_any (inner : Inner) (D : Int) (ih : PFun 38 inner D) (hmono : Mono inner) : PFun 59 (exprB inner) D := by
  intro m w pb p L hm hg h
  show Calls _ _ _ _ (Gave w pb D L (exprB inner p))
  cases h1 : p.is wFun with
  | true => exact expr_fun inner D ih m w pb p L hm hg h h1
  | false =>
    cases h2 : p.is wLet with
    | true =>
      cases h3 : p.pop.is wRec with
      | true => exact expr_rec inner D ih m w pb p L hm hg h h1 h2 h3
      | false => exact expr_let inner D ih m w pb p L hm hg h h1 h2 h3
    | false =>
      cases h3 : p.is wIf with
      | true => exact expr_if inner D ih m w pb p L hm hg h h1 h2 h3
      | false => exact expr_level inner D ih m w pb p L hm hg h hmono h1 h2 h3
end Go.Proofs.YtiflfnnnbgmomaaDoor
