/- The walks of package parse: atom. -/
import Derived.Test.YtiflfnnnbgmomaaDoorParseG
namespace Go.Proofs.YtiflfnnnbgmomaaDoor
set_option linter.unusedVariables false
set_option linter.unusedSimpArgs false
open Go.RowKit
set_option maxHeartbeats 2000000
set_option maxRecDepth 100000

theorem Loc.here {w0 w : World} {pb : Nat} {p : PS} {deep : Int} {L : Nat → Prop} {bx : Nat} {t : TypeId} {cs : Array Value} (h : Loc w0 w pb p deep L bx t cs) : Loc w w pb p deep L bx t cs := ⟨h.at_, h.blk, KeepOn.refl _ _, h.fresh, h.gt⟩
theorem Loc.then_ {w0 w w' : World} {pb : Nat} {p q : PS} {deep : Int} {L : Nat → Prop} {bx : Nat} {t : TypeId} {cs ds : Array Value} (h : Loc w0 w pb p deep L bx t cs) (k : Loc w w' pb q deep L bx t ds) : Loc w0 w' pb q deep L bx t ds := ⟨k.at_, k.blk, h.keep.trans k.keep, k.fresh, k.gt⟩
/-- what a method that gives back a number leaves -/
def Gave (w : World) (pb : Nat) (D : Int) (L : Nat → Prop) (r : Int × PS) (e : Ending) (w' : World) : Prop := e = .returned (.int .i64 r.1) ∧ PAt w' pb r.2 D L ∧ KeepOn L w w'
theorem starts_next {p : PS} (h : starts p = true) : ∃ t, p.next = some t := by
  unfold starts at h
  cases hn : p.next with
  | none => rw [hn] at h; cases h
  | some t => exact ⟨t, rfl⟩
theorem head_of_next {p : PS} {t : Tok} (h : p.next = some t) : p.ts.headD default = t := by
  obtain ⟨_, ht⟩ := next_some h
  rw [ht]; rfl
theorem atom_no1 (inner : Inner) (D : Int) (ih : PFun 38 inner D) (m : Int) (w : World) (pb : Nat) (p : PS) (L : Nat → Prop) (hm : ML m w) (hg : 1 < pb) (h : PAt w pb p D L) (hn : p.next = none) (hs : starts p = false) :
    Calls Tryd.prog 119 #[.pointer (some ⟨pb, 0, none⟩)] w (Gave w pb D L (0, p.fail 403)) := by
  have HP := Lib.hid h
  have hL := Lib.hid (h.low hg)
  have HM := Lib.hid hm
  have IH := Lib.hid ih
  have h0 := Lib.hid (fun k hk => (h.loc (k := k) hk).1)
  have H1 := Lib.hid (Loc.start h (KeepOn.refl L w) (fun k hk => (h.loc hk).1) (ndArr (nd0 p.here)) 24)
  have hlt := h.lt
  have HN := Lib.hid hn
  have HS := Lib.hid hs
  clear h ih hm hn hs
  go_enter Tryd.func119, Tryd.ntmps119
  go_wp2_with fail
  refine (here_any _ _ p D L HP.out).mono ?_
  rintro e w1 ⟨rfl, hw⟩
  subst hw
  go_wp2_with fail
  refine (next_no _ _ p D _ H1.out.at_ HN.out).mono ?_
  rintro e w1 ⟨rfl, hw⟩
  subst hw
  go_wp2_with fail
  refine (starts_any _ _ p D _ H1.out.at_).mono ?_
  rw [HS.out]
  rintro e w1 ⟨rfl, hw⟩
  subst hw
  go_wp2_with fail
  refine (fail_any 403 _ (ErrIs.want _) _ _ _ D _ (H1.out.at_.alloc _)).mono ?_
  rintro e w2 ⟨rfl, hP, hK⟩
  have H2 := (H1.out.alloc h0.out _).call hP hK
  go_wp2_with fail
  go_ret
  obtain ⟨a1, a2⟩ := H2.done (fun k hk => HP.out.low hk)
  exact ⟨rfl, a1, a2⟩
theorem atom_no2 (inner : Inner) (D : Int) (ih : PFun 38 inner D) (m : Int) (w : World) (pb : Nat) (p : PS) (L : Nat → Prop) (hm : ML m w) (hg : 1 < pb) (h : PAt w pb p D L) (t : Tok) (hn : p.next = some t) (hs : starts p = false) :
    Calls Tryd.prog 119 #[.pointer (some ⟨pb, 0, none⟩)] w (Gave w pb D L (0, p.fail 403)) := by
  have HP := Lib.hid h
  have hL := Lib.hid (h.low hg)
  have HM := Lib.hid hm
  have IH := Lib.hid ih
  have h0 := Lib.hid (fun k hk => (h.loc (k := k) hk).1)
  have H1 := Lib.hid (Loc.start h (KeepOn.refl L w) (fun k hk => (h.loc hk).1) (ndArr (nd0 p.here)) 24)
  have hlt := h.lt
  obtain ⟨A, cap, ov, nv, ev, hPI⟩ := H1.out.at_
  obtain ⟨ho, ht⟩ := next_some hn
  obtain ⟨b, off, rfl, hb, t0, t1, t2, t3⟩ := hPI.2.head ht
  have HPI := Lib.hid hPI
  have hne : b ≠ pb := by omega
  have hneb : pb ≠ b := by omega
  have hnbx : b ≠ w.heap.size := by omega
  clear hPI ho ht
  have HN := Lib.hid hn
  have HS := Lib.hid hs
  clear h ih hm hn hs
  go_enter Tryd.func119, Tryd.ntmps119
  go_wp2_with fail
  refine (here_any _ _ p D L HP.out).mono ?_
  rintro e w1 ⟨rfl, hw⟩
  subst hw
  go_wp2_with fail
  refine (next_yes _ _ p D _ _ _ ov nv ev HPI.out t HN.out).mono ?_
  rintro e w1 ⟨rfl, hw⟩
  subst hw
  go_wp2_with fail
  refine (starts_any _ _ p D _ H1.out.at_).mono ?_
  rw [HS.out]
  rintro e w1 ⟨rfl, hw⟩
  subst hw
  go_wp2_with fail
  refine (fail_any 403 _ (ErrIs.want _) _ _ _ D _ (H1.out.at_.alloc _)).mono ?_
  rintro e w2 ⟨rfl, hP, hK⟩
  have H2 := (H1.out.alloc h0.out _).call hP hK
  go_wp2_with fail
  go_ret
  obtain ⟨a1, a2⟩ := H2.done (fun k hk => HP.out.low hk)
  exact ⟨rfl, a1, a2⟩
theorem atom_name (inner : Inner) (D : Int) (ih : PFun 38 inner D) (m : Int) (w : World) (pb : Nat) (p : PS) (L : Nat → Prop) (hm : ML m w) (hg : 1 < pb) (h : PAt w pb p D L) (t : Tok) (hn : p.next = some t) (hs : starts p = true) (hk : t.kind = 0) :
    Calls Tryd.prog 119 #[.pointer (some ⟨pb, 0, none⟩)] w (Gave w pb D L (p.pop.put { nd0 p.here with name := t.text })) := by
  have hnm : p.name = (t.text, p.pop) := by
    unfold PS.name PS.isName
    rw [hn, if_pos (by simpa using hk), head_of_next hn]
  have HNM := Lib.hid hnm
  have k0 : ((t.kind : Int) == 0) = true := by rw [beq_iff_eq]; omega
  clear hnm hk
  have HP := Lib.hid h
  have hL := Lib.hid (h.low hg)
  have HM := Lib.hid hm
  have IH := Lib.hid ih
  have h0 := Lib.hid (fun k hk => (h.loc (k := k) hk).1)
  have H1 := Lib.hid (Loc.start h (KeepOn.refl L w) (fun k hk => (h.loc hk).1) (ndArr (nd0 p.here)) 24)
  have hlt := h.lt
  obtain ⟨A, cap, ov, nv, ev, hPI⟩ := H1.out.at_
  obtain ⟨ho, ht⟩ := next_some hn
  obtain ⟨b, off, rfl, hb, t0, t1, t2, t3⟩ := hPI.2.head ht
  have HPI := Lib.hid hPI
  have hne : b ≠ pb := by omega
  have hneb : pb ≠ b := by omega
  have hnbx : b ≠ w.heap.size := by omega
  clear hPI ho ht
  have HN := Lib.hid hn
  have HS := Lib.hid hs
  clear h ih hm hn hs
  go_enter Tryd.func119, Tryd.ntmps119
  go_wp2_with fail
  refine (here_any _ _ p D L HP.out).mono ?_
  rintro e w1 ⟨rfl, hw⟩
  subst hw
  go_wp2_with fail
  refine (next_yes _ _ p D _ _ _ ov nv ev HPI.out t HN.out).mono ?_
  rintro e w1 ⟨rfl, hw⟩
  subst hw
  go_wp2_with fail
  refine (starts_any _ _ p D _ H1.out.at_).mono ?_
  rw [HS.out]
  rintro e w1 ⟨rfl, hw⟩
  subst hw
  go_wp2_with fail
  refine (name_any _ _ _ D _ H1.out.at_).mono ?_
  rw [HNM.out]
  rintro e w2 ⟨rfl, hP, hK⟩
  have H := H1.out.call hP hK
  clear hP hK
  obtain ⟨c0, c1, c2, c3, c4, c5, c6, c7, c8, c9, cf⟩ := nd10 H.blk
  have H := LocN.name_ H t.text
  have H2 := Lib.hid H
  clear H
  obtain ⟨c0, c1, c2, c3, c4, c5, c6, c7, c8, c9, cf⟩ := nd10 H2.out.blk
  go_wp2_with fail
  refine (put_any { nd0 p.here with name := t.text } _ _ _ D _ H2.out.at_).mono ?_
  rintro e w9 ⟨rfl, hP, hK⟩
  have H9 := H2.out.call hP hK
  go_wp2_with fail
  go_ret
  obtain ⟨a1, a2⟩ := H9.done (fun k hk => HP.out.low hk)
  exact ⟨rfl, a1, a2⟩
theorem atom_open (inner : Inner) (D : Int) (ih : PFun 38 inner D) (m : Int) (w : World) (pb : Nat) (p : PS) (L : Nat → Prop) (hm : ML m w) (hg : 1 < pb) (h : PAt w pb p D L) (t : Tok) (hn : p.next = some t) (hs : starts p = true) (hk0 : t.kind ≠ 0) (hk1 : t.kind ≠ 1) (iwOpen : p.is (tl { data := #[40] }) = true) :
    Calls Tryd.prog 119 #[.pointer (some ⟨pb, 0, none⟩)] w (Gave w pb D L ((inner p.pop).1, (inner p.pop).2.must wShut)) := by
  have k0 : ((t.kind : Int) == 0) = false := by rw [beq_eq_false_iff_ne]; omega
  have k1 : ((t.kind : Int) == 1) = false := by rw [beq_eq_false_iff_ne]; omega
  have IwOpen := Lib.hid iwOpen
  clear iwOpen
  have HP := Lib.hid h
  have hL := Lib.hid (h.low hg)
  have HM := Lib.hid hm
  have IH := Lib.hid ih
  have h0 := Lib.hid (fun k hk => (h.loc (k := k) hk).1)
  have H1 := Lib.hid (Loc.start h (KeepOn.refl L w) (fun k hk => (h.loc hk).1) (ndArr (nd0 p.here)) 24)
  have hlt := h.lt
  obtain ⟨A, cap, ov, nv, ev, hPI⟩ := H1.out.at_
  obtain ⟨ho, ht⟩ := next_some hn
  obtain ⟨b, off, rfl, hb, t0, t1, t2, t3⟩ := hPI.2.head ht
  have HPI := Lib.hid hPI
  have hne : b ≠ pb := by omega
  have hneb : pb ≠ b := by omega
  have hnbx : b ≠ w.heap.size := by omega
  clear hPI ho ht
  have HN := Lib.hid hn
  have HS := Lib.hid hs
  clear h ih hm hn hs
  go_enter Tryd.func119, Tryd.ntmps119
  go_wp2_with fail
  refine (here_any _ _ p D L HP.out).mono ?_
  rintro e w1 ⟨rfl, hw⟩
  subst hw
  go_wp2_with fail
  refine (next_yes _ _ p D _ _ _ ov nv ev HPI.out t HN.out).mono ?_
  rintro e w1 ⟨rfl, hw⟩
  subst hw
  go_wp2_with fail
  refine (starts_any _ _ p D _ H1.out.at_).mono ?_
  rw [HS.out]
  rintro e w1 ⟨rfl, hw⟩
  subst hw
  go_wp2_with fail
  refine (take_yes _ _ _ _ D _ H1.out.at_ IwOpen.out).mono ?_
  rintro e w2 ⟨rfl, hP, hK⟩
  have H2 := Lib.hid (H1.out.call hP hK)
  clear hP hK
  go_wp2_with fail
  refine (IH.out m _ _ _ _ (H2.out.keep.ml HM.out hL.out) hg H2.out.at_).mono ?_
  rintro e w3 ⟨rfl, hP, hK⟩
  have H3 := Lib.hid (H2.out.call hP hK)
  clear hP hK
  go_wp2_with fail
  refine (must_any _ _ _ _ D _ H3.out.at_).mono ?_
  rintro e w4 ⟨rfl, hP, hK⟩
  have H4 := H3.out.call hP hK
  go_wp2_with fail
  go_ret
  obtain ⟨a1, a2⟩ := H4.done (fun k hk => HP.out.low hk)
  exact ⟨rfl, a1, a2⟩
theorem atom_handle (inner : Inner) (D : Int) (ih : PFun 38 inner D) (m : Int) (w : World) (pb : Nat) (p : PS) (L : Nat → Prop) (hm : ML m w) (hg : 1 < pb) (h : PAt w pb p D L) (t : Tok) (hn : p.next = some t) (hs : starts p = true) (hk0 : t.kind ≠ 0) (hk1 : t.kind ≠ 1) (iwOpen : p.is (tl { data := #[40] }) = false) (iwHandle : p.is (tl { data := #[104, 97, 110, 100, 108, 101] }) = true) :
    Calls Tryd.prog 119 #[.pointer (some ⟨pb, 0, none⟩)] w (Gave w pb D L ((handleB inner p.pop (nd0 p.here)).2.put (handleB inner p.pop (nd0 p.here)).1)) := by
  have k0 : ((t.kind : Int) == 0) = false := by rw [beq_eq_false_iff_ne]; omega
  have k1 : ((t.kind : Int) == 1) = false := by rw [beq_eq_false_iff_ne]; omega
  have IwOpen := Lib.hid iwOpen
  have IwHandle := Lib.hid iwHandle
  clear iwOpen iwHandle
  have HP := Lib.hid h
  have hL := Lib.hid (h.low hg)
  have HM := Lib.hid hm
  have IH := Lib.hid ih
  have h0 := Lib.hid (fun k hk => (h.loc (k := k) hk).1)
  have H1 := Lib.hid (Loc.start h (KeepOn.refl L w) (fun k hk => (h.loc hk).1) (ndArr (nd0 p.here)) 24)
  have hlt := h.lt
  obtain ⟨A, cap, ov, nv, ev, hPI⟩ := H1.out.at_
  obtain ⟨ho, ht⟩ := next_some hn
  obtain ⟨b, off, rfl, hb, t0, t1, t2, t3⟩ := hPI.2.head ht
  have HPI := Lib.hid hPI
  have hne : b ≠ pb := by omega
  have hneb : pb ≠ b := by omega
  have hnbx : b ≠ w.heap.size := by omega
  clear hPI ho ht
  have HN := Lib.hid hn
  have HS := Lib.hid hs
  clear h ih hm hn hs
  go_enter Tryd.func119, Tryd.ntmps119
  go_wp2_with fail
  refine (here_any _ _ p D L HP.out).mono ?_
  rintro e w1 ⟨rfl, hw⟩
  subst hw
  go_wp2_with fail
  refine (next_yes _ _ p D _ _ _ ov nv ev HPI.out t HN.out).mono ?_
  rintro e w1 ⟨rfl, hw⟩
  subst hw
  go_wp2_with fail
  refine (starts_any _ _ p D _ H1.out.at_).mono ?_
  rw [HS.out]
  rintro e w1 ⟨rfl, hw⟩
  subst hw
  go_wp2_with fail
  refine (take_no _ _ _ _ D _ H1.out.at_ IwOpen.out).mono ?_
  rintro e w1 ⟨rfl, hw⟩
  subst hw
  go_wp2_with fail
  refine (take_yes _ _ _ _ D _ H1.out.at_ IwHandle.out).mono ?_
  rintro e w2 ⟨rfl, hP, hK⟩
  have H2 := Lib.hid (H1.out.call hP hK)
  clear hP hK
  go_wp2_with fail
  refine (handle_any inner D IH.out m _ _ _ _ (H2.out.keep.ml HM.out hL.out) hg _ _ H2.out.here).mono ?_
  rintro e w3 ⟨rfl, hX⟩
  have H3 := Lib.hid (H2.out.then_ hX)
  clear hX
  obtain ⟨c0, c1, c2, c3, c4, c5, c6, c7, c8, c9, cf⟩ := nd10 H3.out.blk
  go_wp2_with fail
  refine (put_any (handleB inner p.pop (nd0 p.here)).1 _ _ _ D _ H3.out.at_).mono ?_
  rintro e w9 ⟨rfl, hP, hK⟩
  have H9 := H3.out.call hP hK
  go_wp2_with fail
  go_ret
  obtain ⟨a1, a2⟩ := H9.done (fun k hk => HP.out.low hk)
  exact ⟨rfl, a1, a2⟩
theorem atom_true (inner : Inner) (D : Int) (ih : PFun 38 inner D) (m : Int) (w : World) (pb : Nat) (p : PS) (L : Nat → Prop) (hm : ML m w) (hg : 1 < pb) (h : PAt w pb p D L) (t : Tok) (hn : p.next = some t) (hs : starts p = true) (hk0 : t.kind ≠ 0) (hk1 : t.kind ≠ 1) (iwOpen : p.is (tl { data := #[40] }) = false) (iwHandle : p.is (tl { data := #[104, 97, 110, 100, 108, 101] }) = false) (iwTrue : p.is (tl { data := #[116, 114, 117, 101] }) = true) :
    Calls Tryd.prog 119 #[.pointer (some ⟨pb, 0, none⟩)] w (Gave w pb D L (p.pop.put { nd0 p.here with kind := 2, num := 1 })) := by
  have k0 : ((t.kind : Int) == 0) = false := by rw [beq_eq_false_iff_ne]; omega
  have k1 : ((t.kind : Int) == 1) = false := by rw [beq_eq_false_iff_ne]; omega
  have IwOpen := Lib.hid iwOpen
  have IwHandle := Lib.hid iwHandle
  have IwTrue := Lib.hid iwTrue
  clear iwOpen iwHandle iwTrue
  have HP := Lib.hid h
  have hL := Lib.hid (h.low hg)
  have HM := Lib.hid hm
  have IH := Lib.hid ih
  have h0 := Lib.hid (fun k hk => (h.loc (k := k) hk).1)
  have H1 := Lib.hid (Loc.start h (KeepOn.refl L w) (fun k hk => (h.loc hk).1) (ndArr (nd0 p.here)) 24)
  have hlt := h.lt
  obtain ⟨A, cap, ov, nv, ev, hPI⟩ := H1.out.at_
  obtain ⟨ho, ht⟩ := next_some hn
  obtain ⟨b, off, rfl, hb, t0, t1, t2, t3⟩ := hPI.2.head ht
  have HPI := Lib.hid hPI
  have hne : b ≠ pb := by omega
  have hneb : pb ≠ b := by omega
  have hnbx : b ≠ w.heap.size := by omega
  clear hPI ho ht
  have HN := Lib.hid hn
  have HS := Lib.hid hs
  clear h ih hm hn hs
  go_enter Tryd.func119, Tryd.ntmps119
  go_wp2_with fail
  refine (here_any _ _ p D L HP.out).mono ?_
  rintro e w1 ⟨rfl, hw⟩
  subst hw
  go_wp2_with fail
  refine (next_yes _ _ p D _ _ _ ov nv ev HPI.out t HN.out).mono ?_
  rintro e w1 ⟨rfl, hw⟩
  subst hw
  go_wp2_with fail
  refine (starts_any _ _ p D _ H1.out.at_).mono ?_
  rw [HS.out]
  rintro e w1 ⟨rfl, hw⟩
  subst hw
  go_wp2_with fail
  refine (take_no _ _ _ _ D _ H1.out.at_ IwOpen.out).mono ?_
  rintro e w1 ⟨rfl, hw⟩
  subst hw
  go_wp2_with fail
  refine (take_no _ _ _ _ D _ H1.out.at_ IwHandle.out).mono ?_
  rintro e w1 ⟨rfl, hw⟩
  subst hw
  go_wp2_with fail
  refine (take_yes _ _ _ _ D _ H1.out.at_ IwTrue.out).mono ?_
  rintro e w2 ⟨rfl, hP, hK⟩
  have H2 := Lib.hid (H1.out.call hP hK)
  clear hP hK
  obtain ⟨c0, c1, c2, c3, c4, c5, c6, c7, c8, c9, cf⟩ := nd10 H2.out.blk
  have H3 := Lib.hid (LocN.num_ (LocN.kind_ H2.out 2) 1)
  obtain ⟨c0, c1, c2, c3, c4, c5, c6, c7, c8, c9, cf⟩ := nd10 H3.out.blk
  go_wp2_with fail
  refine (put_any { nd0 p.here with kind := 2, num := 1 } _ _ _ D _ H3.out.at_).mono ?_
  rintro e w9 ⟨rfl, hP, hK⟩
  have H9 := H3.out.call hP hK
  go_wp2_with fail
  go_ret
  obtain ⟨a1, a2⟩ := H9.done (fun k hk => HP.out.low hk)
  exact ⟨rfl, a1, a2⟩
theorem atom_false (inner : Inner) (D : Int) (ih : PFun 38 inner D) (m : Int) (w : World) (pb : Nat) (p : PS) (L : Nat → Prop) (hm : ML m w) (hg : 1 < pb) (h : PAt w pb p D L) (t : Tok) (hn : p.next = some t) (hs : starts p = true) (hk0 : t.kind ≠ 0) (hk1 : t.kind ≠ 1) (iwOpen : p.is (tl { data := #[40] }) = false) (iwHandle : p.is (tl { data := #[104, 97, 110, 100, 108, 101] }) = false) (iwTrue : p.is (tl { data := #[116, 114, 117, 101] }) = false) :
    Calls Tryd.prog 119 #[.pointer (some ⟨pb, 0, none⟩)] w (Gave w pb D L ((p.take wFalse).put { nd0 p.here with kind := 2 })) := by
  have k0 : ((t.kind : Int) == 0) = false := by rw [beq_eq_false_iff_ne]; omega
  have k1 : ((t.kind : Int) == 1) = false := by rw [beq_eq_false_iff_ne]; omega
  have IwOpen := Lib.hid iwOpen
  have IwHandle := Lib.hid iwHandle
  have IwTrue := Lib.hid iwTrue
  clear iwOpen iwHandle iwTrue
  have HP := Lib.hid h
  have hL := Lib.hid (h.low hg)
  have HM := Lib.hid hm
  have IH := Lib.hid ih
  have h0 := Lib.hid (fun k hk => (h.loc (k := k) hk).1)
  have H1 := Lib.hid (Loc.start h (KeepOn.refl L w) (fun k hk => (h.loc hk).1) (ndArr (nd0 p.here)) 24)
  have hlt := h.lt
  obtain ⟨A, cap, ov, nv, ev, hPI⟩ := H1.out.at_
  obtain ⟨ho, ht⟩ := next_some hn
  obtain ⟨b, off, rfl, hb, t0, t1, t2, t3⟩ := hPI.2.head ht
  have HPI := Lib.hid hPI
  have hne : b ≠ pb := by omega
  have hneb : pb ≠ b := by omega
  have hnbx : b ≠ w.heap.size := by omega
  clear hPI ho ht
  have HN := Lib.hid hn
  have HS := Lib.hid hs
  clear h ih hm hn hs
  go_enter Tryd.func119, Tryd.ntmps119
  go_wp2_with fail
  refine (here_any _ _ p D L HP.out).mono ?_
  rintro e w1 ⟨rfl, hw⟩
  subst hw
  go_wp2_with fail
  refine (next_yes _ _ p D _ _ _ ov nv ev HPI.out t HN.out).mono ?_
  rintro e w1 ⟨rfl, hw⟩
  subst hw
  go_wp2_with fail
  refine (starts_any _ _ p D _ H1.out.at_).mono ?_
  rw [HS.out]
  rintro e w1 ⟨rfl, hw⟩
  subst hw
  go_wp2_with fail
  refine (take_no _ _ _ _ D _ H1.out.at_ IwOpen.out).mono ?_
  rintro e w1 ⟨rfl, hw⟩
  subst hw
  go_wp2_with fail
  refine (take_no _ _ _ _ D _ H1.out.at_ IwHandle.out).mono ?_
  rintro e w1 ⟨rfl, hw⟩
  subst hw
  go_wp2_with fail
  refine (take_no _ _ _ _ D _ H1.out.at_ IwTrue.out).mono ?_
  rintro e w1 ⟨rfl, hw⟩
  subst hw
  go_wp2_with fail
  refine (take_any _ _ _ _ D _ H1.out.at_).mono ?_
  rintro e w2 ⟨rfl, hP, hK⟩
  have H2 := Lib.hid (H1.out.call hP hK)
  clear hP hK
  obtain ⟨c0, c1, c2, c3, c4, c5, c6, c7, c8, c9, cf⟩ := nd10 H2.out.blk
  have H3 := Lib.hid (LocN.kind_ H2.out 2)
  obtain ⟨c0, c1, c2, c3, c4, c5, c6, c7, c8, c9, cf⟩ := nd10 H3.out.blk
  go_wp2_with fail
  refine (put_any { nd0 p.here with kind := 2 } _ _ _ D _ H3.out.at_).mono ?_
  rintro e w9 ⟨rfl, hP, hK⟩
  have H9 := H3.out.call hP hK
  go_wp2_with fail
  go_ret
  obtain ⟨a1, a2⟩ := H9.done (fun k hk => HP.out.low hk)
  exact ⟨rfl, a1, a2⟩
theorem atom_int (inner : Inner) (D : Int) (ih : PFun 38 inner D) (m : Int) (w : World) (pb : Nat) (p : PS) (L : Nat → Prop) (hm : ML m w) (hg : 1 < pb) (h : PAt w pb p D L) (t : Tok) (hn : p.next = some t) (hs : starts p = true) (hk : t.kind = 1) :
    Calls Tryd.prog 119 #[.pointer (some ⟨pb, 0, none⟩)] w (Gave w pb D L (p.pop.put { nd0 p.here with kind := 1, num := (t.num : Int) })) := by
  have k0 : ((t.kind : Int) == 0) = false := by rw [beq_eq_false_iff_ne]; omega
  have k1 : ((t.kind : Int) == 1) = true := by rw [beq_iff_eq]; omega
  clear hk
  have HP := Lib.hid h
  have hL := Lib.hid (h.low hg)
  have HM := Lib.hid hm
  have h0 := Lib.hid (fun k hk => (h.loc (k := k) hk).1)
  have H1 := Lib.hid (Loc.start h (KeepOn.refl L w) (fun k hk => (h.loc hk).1) (ndArr (nd0 p.here)) 24)
  have hlt := h.lt
  obtain ⟨A, cap, ov, nv, ev, hB, hR⟩ := h
  obtain ⟨ho, ht⟩ := next_some hn
  obtain ⟨b, off, rfl, hb, t0, t1, t2, t3⟩ := hR.head ht
  have HPI := Lib.hid (show PIn _ pb p D (More L w.heap.size) (some ⟨b, off, none⟩) cap ov nv ev from ⟨hB.alloc (.cells (ndArr (nd0 p.here)) 24), hR.more (.cells (ndArr (nd0 p.here)) 24)⟩)
  have hne : b ≠ pb := by omega
  have hneb : pb ≠ b := by omega
  have hnbx : b ≠ w.heap.size := by omega
  have hnbp : pb ≠ w.heap.size := by omega
  have hblt : b < w.heap.size := by omega
  obtain ⟨p0, p1, p2, p3, p4, p5, pf⟩ := Blk.c6 (show Blk _ pb _ #[.slice (some ⟨b, off, none⟩) p.ts.length cap, .int .i64 p.fin, ov, nv, ev, .int .i64 D] from hB)
  have HT := Lib.hid ht
  have hl : 0 < p.ts.length := by rw [ht]; simp
  have hcl := hR.capl
  have HB := Lib.hid hB
  have HR := Lib.hid hR
  obtain ⟨n, hn'⟩ : ∃ n, n = p.ts.length := ⟨_, rfl⟩
  rw [← hn'] at p0 hl hcl
  have HN' := Lib.hid hn'
  have HN := Lib.hid hn
  have HS := Lib.hid hs
  clear ih hm hn hs hB hR hn' ho ht
  have g1 : (1 : Int) ≤ (n : Int) := by omega
  have g2 : (n : Int) ≤ (cap : Int) := by omega
  have HPP : Hid (∀ V, V = .slice (if cap = 1 then some ⟨b, off, none⟩ else some ⟨b, off + 4, none⟩) (n - 1) (cap - 1) → LocN w ((w.setCell ⟨pb, 0, none⟩ V).alloc (.cells (((ndArr (nd0 p.here)).setIfInBounds 0 (.int .i64 1)).setIfInBounds 4 (.int .i64 (t.num : Int))) 24)) pb p.pop D L w.heap.size { nd0 p.here with kind := 1, num := (t.num : Int) }) := fun V hV => by
    have h1 := Loc.start (PAt.popped HB.out HR.out rfl HT.out HN'.out hV) (HP.out.own_store 0 V) h0.out (((ndArr (nd0 p.here)).setIfInBounds 0 (.int .i64 1)).setIfInBounds 4 (.int .i64 (t.num : Int))) 24
    have hz : (w.setCell ⟨pb, 0, none⟩ V).heap.size = w.heap.size := by simp
    rw [hz] at h1
    exact h1
  by_cases hc : cap = 1
  · subst hc
    have H2 := HPP.out (.slice (some ⟨b, off, none⟩) 0 0) (by rw [if_pos rfl]; congr 1; omega)
    obtain ⟨c0, c1, c2, c3, c4, c5, c6, c7, c8, c9, cf⟩ := nd10 H2.blk
    have H3 := Lib.hid H2
    clear HPP H2
    go_enter Tryd.func119, Tryd.ntmps119
    go_wp2_with fail
    refine (here_any _ _ p D L HP.out).mono ?_
    rintro e w1 ⟨rfl, hw⟩
    subst hw
    go_wp2_with fail
    refine (next_yes _ _ p D _ _ _ ov nv ev HPI.out t HN.out).mono ?_
    rintro e w1 ⟨rfl, hw⟩
    subst hw
    go_wp2_with fail
    refine (starts_any _ _ p D _ H1.out.at_).mono ?_
    rw [HS.out]
    rintro e w1 ⟨rfl, hw⟩
    subst hw
    go_wp2_with fail
    refine (put_any { nd0 p.here with kind := 1, num := (t.num : Int) } _ _ _ D _ H3.out.at_).mono ?_
    rintro e w9 ⟨rfl, hP, hK⟩
    have H9 := H3.out.call hP hK
    go_wp2_with fail
    go_ret
    obtain ⟨a1, a2⟩ := H9.done (fun k hk => HP.out.low hk)
    exact ⟨rfl, a1, a2⟩
  · have H2 := HPP.out (.slice (some ⟨b, off + 4, none⟩) (n - 1) (cap - 1)) (by rw [if_neg hc])
    obtain ⟨c0, c1, c2, c3, c4, c5, c6, c7, c8, c9, cf⟩ := nd10 H2.blk
    have H3 := Lib.hid H2
    clear HPP H2
    go_enter Tryd.func119, Tryd.ntmps119
    go_wp2_with fail
    refine (here_any _ _ p D L HP.out).mono ?_
    rintro e w1 ⟨rfl, hw⟩
    subst hw
    go_wp2_with fail
    refine (next_yes _ _ p D _ _ _ ov nv ev HPI.out t HN.out).mono ?_
    rintro e w1 ⟨rfl, hw⟩
    subst hw
    go_wp2_with fail
    refine (starts_any _ _ p D _ H1.out.at_).mono ?_
    rw [HS.out]
    rintro e w1 ⟨rfl, hw⟩
    subst hw
    go_wp2_with fail
    refine (put_any { nd0 p.here with kind := 1, num := (t.num : Int) } _ _ _ D _ H3.out.at_).mono ?_
    rintro e w9 ⟨rfl, hP, hK⟩
    have H9 := H3.out.call hP hK
    go_wp2_with fail
    go_ret
    obtain ⟨a1, a2⟩ := H9.done (fun k hk => HP.out.low hk)
    exact ⟨rfl, a1, a2⟩
end Go.Proofs.YtiflfnnnbgmomaaDoor
