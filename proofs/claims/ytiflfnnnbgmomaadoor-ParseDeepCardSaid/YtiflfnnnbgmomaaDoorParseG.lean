/- The walks of package parse: then, handle. -/
import Derived.Test.YtiflfnnnbgmomaaDoorParseP
import Derived.Test.YtiflfnnnbgmomaaDoorParseM
import Derived.Test.YtiflfnnnbgmomaaDoorParseW
namespace Go.Proofs.YtiflfnnnbgmomaaDoor
set_option linter.unusedVariables false
set_option linter.unusedSimpArgs false
open Go.RowKit
set_option maxHeartbeats 2000000
set_option maxRecDepth 100000

/-- a method of the parser that gives back a number -/
def PFun (f : FuncId) (F : Inner) (D : Int) : Prop := ∀ (m : Int) (w : World) (pb : Nat) (p : PS) (L : Nat → Prop), ML m w → 1 < pb → PAt w pb p D L →
  Calls Tryd.prog f #[.pointer (some ⟨pb, 0, none⟩)] w fun e w' => e = .returned (.int .i64 (F p).1) ∧ PAt w' pb (F p).2 D L ∧ KeepOn L w w'
theorem KeepOn.ml {L : Nat → Prop} {a b : World} {m : Int} (h : KeepOn L a b) (hm : ML m a) (hL : L 1) : ML m b := (h.cell (p := ⟨1, 0, none⟩) hL).trans hm
theorem take_no (s : ByteArray) (w : World) (pb : Nat) (p : PS) (deep : Int) (L : Nat → Prop) (h : PAt w pb p deep L) (his : p.is (tl s) = false) :
    Calls Tryd.prog 87 #[.pointer (some ⟨pb, 0, none⟩), .string s] w fun e w' => e = .returned (.bool false) ∧ w' = w := by
  have HP := Lib.hid h
  have HI := Lib.hid his
  clear his h
  go_enter Tryd.func87, Tryd.ntmps87
  go_wp2_with (go_at_call 36; refine (is_any s _ _ p deep L HP.out).mono ?_; rw [HI.out]; rintro e w2 ⟨rfl, hw2⟩; obtain rfl := hw2)
  go_ret
  exact ⟨rfl, rfl⟩
theorem take_yes (s : ByteArray) (w : World) (pb : Nat) (p : PS) (deep : Int) (L : Nat → Prop) (h : PAt w pb p deep L) (his : p.is (tl s) = true) :
    Calls Tryd.prog 87 #[.pointer (some ⟨pb, 0, none⟩), .string s] w fun e w' => e = .returned (.bool true) ∧ PAt w' pb p.pop deep L ∧ KeepOn L w w' := by
  have h1 := take_any s w pb p deep L h
  rw [his, show p.take (tl s) = p.pop by unfold PS.take; rw [if_pos his]] at h1
  exact h1
theorem then_any (inner : Inner) (D : Int) (ih : PFun 38 inner D) (m : Int) (w : World) (pb : Nat) (p : PS) (L : Nat → Prop) (hm : ML m w) (hg : 1 < pb) (s : ByteArray) (h : PAt w pb p D L) :
    Calls Tryd.prog 88 #[.pointer (some ⟨pb, 0, none⟩), .string s] w fun e w' => e = .returned (.int .i64 (thenB inner p (tl s)).1) ∧ PAt w' pb (thenB inner p (tl s)).2 D L ∧ KeepOn L w w' := by
  unfold PFun at ih
  have HP := Lib.hid h
  have IH := Lib.hid ih
  have HM := Lib.hid hm
  have hL := Lib.hid (h.low hg)
  clear h ih hm
  go_enter Tryd.func88, Tryd.ntmps88
  go_wp2_with fail
  refine (must_any _ _ _ _ D L HP.out).mono ?_
  rintro e w2 ⟨rfl, hP2, hK2⟩
  have HP2 := Lib.hid hP2
  have HM2 := Lib.hid (hK2.ml HM.out hL.out)
  clear hP2
  go_wp2_with fail
  refine (IH.out m _ _ _ L HM2.out hg HP2.out).mono ?_
  rintro e w3 ⟨rfl, hP3, hK3⟩
  go_wp2_with fail
  go_ret
  exact ⟨rfl, hP3, hK2.trans hK3⟩
theorem handle_any (inner : Inner) (D : Int) (ih : PFun 38 inner D) (m : Int) (w : World) (pb : Nat) (p : PS) (L : Nat → Prop) (hm : ML m w) (hg : 1 < pb) (bx : Nat) (x : Nd) (h : LocN w w pb p D L bx x) :
    Calls Tryd.prog 133 #[.pointer (some ⟨pb, 0, none⟩), .pointer (some ⟨bx, 0, none⟩)] w fun e w' => e = .returned (.tuple #[]) ∧ LocN w w' pb (handleB inner p x).2 D L bx (handleB inner p x).1 := by
  have hL := Lib.hid (h.at_.low hg |>.elim id (fun e => by have := h.gt; omega))
  have H0 := Lib.hid h
  have HM := Lib.hid hm
  have IH := Lib.hid ih
  have hgt := h.gt
  clear h ih hm
  obtain ⟨⟨va, q1⟩, e1⟩ : ∃ q, inner p = q := ⟨_, rfl⟩
  obtain ⟨q2, e2⟩ : ∃ q, q1.must (tl { data := #[119, 105, 116, 104] }) = q := ⟨_, rfl⟩
  obtain ⟨⟨vn, q3⟩, e3⟩ : ∃ q, q2.name = q := ⟨_, rfl⟩
  obtain ⟨⟨vx, q4⟩, e4⟩ : ∃ q, q3.name = q := ⟨_, rfl⟩
  obtain ⟨⟨vy, q5⟩, e5⟩ : ∃ q, q4.name = q := ⟨_, rfl⟩
  obtain ⟨⟨vb, q6⟩, e6⟩ : ∃ q, thenB inner q5 (tl { data := #[45, 62] }) = q := ⟨_, rfl⟩
  obtain ⟨q7, e7⟩ : ∃ q, q6.must (tl { data := #[114, 101, 116, 117, 114, 110] }) = q := ⟨_, rfl⟩
  obtain ⟨⟨vz, q8⟩, e8⟩ : ∃ q, q7.name = q := ⟨_, rfl⟩
  obtain ⟨⟨vc, q9⟩, e9⟩ : ∃ q, thenB inner q8 (tl { data := #[45, 62] }) = q := ⟨_, rfl⟩
  obtain ⟨q10, e10⟩ : ∃ q, q9.must (tl { data := #[101, 110, 100] }) = q := ⟨_, rfl⟩
  have HF := Lib.hid (show handleB inner p x = ({ x with kind := 10, a := va, name := vn, x := vx, y := vy, b := vb, z := vz, c := vc }, q10) by
    have f2 : q1.must wWith = q2 := e2
    have f6 : thenB inner q5 wArrow = (vb, q6) := e6
    have f7 : q6.must wReturn = q7 := e7
    have f9 : thenB inner q8 wArrow = (vc, q9) := e9
    have f10 : q9.must wEnd = q10 := e10
    unfold handleB
    simp only [e1, f2, e3, e4, e5, f6, f7, e8, f9, f10])
  have E1 := Lib.hid e1
  have E2 := Lib.hid e2
  have E3 := Lib.hid e3
  have E4 := Lib.hid e4
  have E5 := Lib.hid e5
  have E6 := Lib.hid e6
  have E7 := Lib.hid e7
  have E8 := Lib.hid e8
  have E9 := Lib.hid e9
  have E10 := Lib.hid e10
  clear e1 e2 e3 e4 e5 e6 e7 e8 e9 e10
  go_enter Tryd.func133, Tryd.ntmps133
  go_wp2_with fail
  refine (IH.out m _ _ _ _ (H0.out.keep.ml HM.out hL.out) hg H0.out.at_).mono ?_
  rw [E1.out]
  rintro e w1 ⟨rfl, hP, hK⟩
  have H := H0.out.call hP hK
  clear hP hK
  obtain ⟨c0, c1, c2, c3, c4, c5, c6, c7, c8, c9, cf⟩ := nd10 H.blk
  have H := LocN.kind_ H 10
  have H := LocN.a_ H va
  have H1 := Lib.hid H
  clear H
  go_wp2_with fail
  refine (must_any _ _ _ _ D _ H1.out.at_).mono ?_
  rw [E2.out]
  rintro e w2 ⟨rfl, hP, hK⟩
  have H := H1.out.call hP hK
  clear hP hK
  have H2 := Lib.hid H
  clear H
  go_wp2_with fail
  refine (name_any _ _ _ D _ H2.out.at_).mono ?_
  rw [E3.out]
  rintro e w3 ⟨rfl, hP, hK⟩
  have H := H2.out.call hP hK
  clear hP hK
  obtain ⟨c0, c1, c2, c3, c4, c5, c6, c7, c8, c9, cf⟩ := nd10 H.blk
  have H := LocN.name_ H vn
  have H3 := Lib.hid H
  clear H
  go_wp2_with fail
  refine (name_any _ _ _ D _ H3.out.at_).mono ?_
  rw [E4.out]
  rintro e w4 ⟨rfl, hP, hK⟩
  have H := H3.out.call hP hK
  clear hP hK
  obtain ⟨c0, c1, c2, c3, c4, c5, c6, c7, c8, c9, cf⟩ := nd10 H.blk
  have H := LocN.x_ H vx
  have H4 := Lib.hid H
  clear H
  go_wp2_with fail
  refine (name_any _ _ _ D _ H4.out.at_).mono ?_
  rw [E5.out]
  rintro e w5 ⟨rfl, hP, hK⟩
  have H := H4.out.call hP hK
  clear hP hK
  obtain ⟨c0, c1, c2, c3, c4, c5, c6, c7, c8, c9, cf⟩ := nd10 H.blk
  have H := LocN.y_ H vy
  have H5 := Lib.hid H
  clear H
  go_wp2_with fail
  refine (then_any inner D IH.out m _ _ _ _ (H5.out.keep.ml HM.out hL.out) hg _ H5.out.at_).mono ?_
  rw [E6.out]
  rintro e w6 ⟨rfl, hP, hK⟩
  have H := H5.out.call hP hK
  clear hP hK
  obtain ⟨c0, c1, c2, c3, c4, c5, c6, c7, c8, c9, cf⟩ := nd10 H.blk
  have H := LocN.b_ H vb
  have H6 := Lib.hid H
  clear H
  go_wp2_with fail
  refine (must_any _ _ _ _ D _ H6.out.at_).mono ?_
  rw [E7.out]
  rintro e w7 ⟨rfl, hP, hK⟩
  have H := H6.out.call hP hK
  clear hP hK
  have H7 := Lib.hid H
  clear H
  go_wp2_with fail
  refine (name_any _ _ _ D _ H7.out.at_).mono ?_
  rw [E8.out]
  rintro e w8 ⟨rfl, hP, hK⟩
  have H := H7.out.call hP hK
  clear hP hK
  obtain ⟨c0, c1, c2, c3, c4, c5, c6, c7, c8, c9, cf⟩ := nd10 H.blk
  have H := LocN.z_ H vz
  have H8 := Lib.hid H
  clear H
  go_wp2_with fail
  refine (then_any inner D IH.out m _ _ _ _ (H8.out.keep.ml HM.out hL.out) hg _ H8.out.at_).mono ?_
  rw [E9.out]
  rintro e w9 ⟨rfl, hP, hK⟩
  have H := H8.out.call hP hK
  clear hP hK
  obtain ⟨c0, c1, c2, c3, c4, c5, c6, c7, c8, c9, cf⟩ := nd10 H.blk
  have H := LocN.c_ H vc
  have H9 := Lib.hid H
  clear H
  go_wp2_with fail
  refine (must_any _ _ _ _ D _ H9.out.at_).mono ?_
  rw [E10.out]
  rintro e w10 ⟨rfl, hP, hK⟩
  have H := H9.out.call hP hK
  clear hP hK
  have H10 := Lib.hid H
  clear H
  go_wp2_with fail
  go_end0
  rw [HF.out]
  exact ⟨rfl, H10.out⟩
end Go.Proofs.YtiflfnnnbgmomaaDoor
