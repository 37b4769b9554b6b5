/- The walks of package parse: atom whole, apply. -/
import Derived.Test.YtiflfnnnbgmomaaDoorParseH
import Derived.Deep.RegionWith
import Derived.Deep.DrawnRows
namespace Go.Proofs.YtiflfnnnbgmomaaDoor
set_option linter.unusedVariables false
set_option linter.unusedSimpArgs false
open Go.RowKit
set_option maxHeartbeats 2000000
set_option maxRecDepth 100000
attribute [local go_sem ↓] Go.wp_at_zero Go.wp_at_succ

theorem atom_any (inner : Inner) (D : Int) (ih : PFun 38 inner D) : PFun 119 (atomB inner) D := by
  intro m w pb p L hm hg h
  show Calls _ _ _ _ (Gave w pb D L (atomB inner p))
  cases hs : starts p with
  | false =>
    have e : atomB inner p = (0, p.fail 403) := by unfold atomB; rw [hs]; rfl
    rw [e]
    cases hn : p.next with
    | none => exact atom_no1 inner D ih m w pb p L hm hg h hn hs
    | some t => exact atom_no2 inner D ih m w pb p L hm hg h t hn hs
  | true =>
    obtain ⟨t, hn⟩ := starts_next hs
    have ht := head_of_next hn
    unfold atomB
    rw [hs, ht]
    simp only [Bool.not_true, Bool.false_eq_true, if_false]
    by_cases k0 : t.kind = 0
    · rw [if_pos k0]; exact atom_name inner D ih m w pb p L hm hg h t hn hs k0
    · rw [if_neg k0]
      by_cases k1 : t.kind = 1
      · rw [if_pos k1]; exact atom_int inner D ih m w pb p L hm hg h t hn hs k1
      · rw [if_neg k1]
        cases i1 : p.is wOpen with
        | true => exact atom_open inner D ih m w pb p L hm hg h t hn hs k0 k1 i1
        | false =>
          cases i2 : p.is wHandle with
          | true => exact atom_handle inner D ih m w pb p L hm hg h t hn hs k0 k1 i1 i2
          | false =>
            cases i3 : p.is wTrue with
            | true => exact atom_true inner D ih m w pb p L hm hg h t hn hs k0 k1 i1 i2 i3
            | false => exact atom_false inner D ih m w pb p L hm hg h t hn hs k0 k1 i1 i2 i3

/-- how many tokens are left, off the parser's first field -/
def tsLen (w : World) (pb : Nat) : Nat := match w.cell? ⟨pb, 0, none⟩ with | some (.slice _ n _) => n | _ => 0
theorem PAt.tsLen {w : World} {pb : Nat} {p : PS} {deep : Int} {L : Nat → Prop} (h : PAt w pb p deep L) : tsLen w pb = p.ts.length := by
  obtain ⟨A, cap, ov, nv, ev, hB, hR⟩ := h
  unfold Go.Proofs.YtiflfnnnbgmomaaDoor.tsLen
  rw [show w.cell? ⟨pb, 0, none⟩ = some (.slice A p.ts.length cap) from hB.cell 0]
/-- the state of apply's loop -/
def ApplyAt (inner : Inner) (p : PS) (w0 : World) (pb : Nat) (D : Int) (L : Nat → Prop) (bx : Nat) (w : World) : Prop :=
  ∃ (q : PS) (a k0 b0 : Int) (n : Nat), q.ts.length ≤ n ∧ applyB inner p = applyGo inner p.here n a q ∧ LocN w0 w pb q D L bx { nd0 p.here with kind := k0, a := a, b := b0 }
theorem LocN.again {w0 w : World} {pb : Nat} {q : PS} {D : Int} {L : Nat → Prop} {bx : Nat} {x : Nd} (h : LocN w0 w pb q D L bx x) (pos a : Int) :
    LocN w0 ((((((((((w.setCell ⟨bx, 0, none⟩ (.int .i64 0)).setCell ⟨bx, 1, none⟩ (.int .i64 a)).setCell ⟨bx, 2, none⟩ (.int .i64 0)).setCell ⟨bx, 3, none⟩ (.int .i64 0)).setCell ⟨bx, 4, none⟩ (.int .i64 0)).setCell ⟨bx, 5, none⟩ (.string { data := #[] })).setCell ⟨bx, 6, none⟩ (.string { data := #[] })).setCell ⟨bx, 7, none⟩ (.string { data := #[] })).setCell ⟨bx, 8, none⟩ (.string { data := #[] })).setCell ⟨bx, 9, none⟩ (.int .i64 pos)) pb q D L bx { nd0 pos with a := a } := by
  have h := LocN.kind_ h 0
  have h := LocN.a_ h a
  have h := LocN.b_ h 0
  have h := LocN.c_ h 0
  have h := LocN.num_ h 0
  have h := LocN.name_ h []
  have h := LocN.x_ h []
  have h := LocN.y_ h []
  have h := LocN.z_ h []
  have h := Loc.set h 9 (.int .i64 pos)
  exact h
/-- apply, with an operation's call -/
theorem apply_do (inner : Inner) (D : Int) (ih : PFun 38 inner D) (hmono : Mono inner) (m : Int) (w : World) (pb : Nat) (p : PS) (L : Nat → Prop) (hm : ML m w) (hg : 1 < pb) (h : PAt w pb p D L) (his : p.is wDo = true) :
    Calls Tryd.prog 109 #[.pointer (some ⟨pb, 0, none⟩)] w (Gave w pb D L (applyB inner p)) := by
  have AT := Lib.hid (atom_any inner D ih)
  have HP := Lib.hid h
  have hL := Lib.hid (h.low hg)
  have HM := Lib.hid hm
  have MO := Lib.hid hmono
  have h0 := Lib.hid (fun k hk => (h.loc (k := k) hk).1)
  have H1 := Lib.hid (Loc.start h (KeepOn.refl L w) (fun k hk => (h.loc hk).1) (ndArr (nd0 p.here)) 24)
  have hlt := h.lt
  have IS := Lib.hid (show p.is (tl { data := #[100, 111] }) = true from his)
  obtain ⟨⟨vn, q3⟩, e3⟩ : ∃ q, p.pop.name = q := ⟨_, rfl⟩
  obtain ⟨⟨va, q4⟩, e4⟩ : ∃ q, atomB inner q3 = q := ⟨_, rfl⟩
  obtain ⟨⟨vb, q5⟩, e5⟩ : ∃ q, q4.put { nd0 p.here with kind := 9, name := vn, a := va } = q := ⟨_, rfl⟩
  have HF := Lib.hid (show applyB inner p = applyGo inner p.here q5.ts.length vb q5 by
    unfold applyB headB
    rw [if_pos his]
    simp only [e3, e4, e5])
  have E3 := Lib.hid e3
  have E4 := Lib.hid e4
  have E5 := Lib.hid e5
  clear h ih hm hmono his e3 e4 e5
  go_enter Tryd.func109, Tryd.ntmps109
  go_wp2_with fail
  refine (here_any _ _ p D L HP.out).mono ?_
  rintro e w1 ⟨rfl, hw⟩
  subst hw
  go_wp2_with fail
  refine (take_yes _ _ _ _ D _ H1.out.at_ IS.out).mono ?_
  rintro e w2 ⟨rfl, hP, hK⟩
  have H2 := Lib.hid (H1.out.call hP hK)
  clear hP hK
  go_wp2_with fail
  refine (name_any _ _ _ D _ H2.out.at_).mono ?_
  rw [E3.out]
  rintro e w3 ⟨rfl, hP, hK⟩
  have H := H2.out.call hP hK
  obtain ⟨c0, c1, c2, c3, c4, c5, c6, c7, c8, c9, cf⟩ := nd10 H.blk
  have H3 := Lib.hid (LocN.name_ (LocN.kind_ H 9) vn)
  clear hP hK H
  go_wp2_with fail
  refine (AT.out m _ _ _ _ (H3.out.keep.ml HM.out hL.out) hg H3.out.at_).mono ?_
  rw [E4.out]
  rintro e w4 ⟨rfl, hP, hK⟩
  have H := H3.out.call hP hK
  clear c0 c1 c2 c3 c4 c5 c6 c7 c8 c9 cf
  obtain ⟨c0, c1, c2, c3, c4, c5, c6, c7, c8, c9, cf⟩ := nd10 H.blk
  have H4 := LocN.a_ H va
  obtain ⟨d0, d1, d2, d3, d4, d5, d6, d7, d8, d9, df⟩ := nd10 H4.blk
  have H4 := Lib.hid H4.drew
  clear hP hK H
  go_wp2_with fail
  go_region_with ((go_at_call 90; refine (put_any { nd0 p.here with kind := 9, name := vn, a := va } _ _ _ D _ H4.out.at_).mono ?_; rw [E5.out]; rintro e w5 ⟨rfl, hP, hK⟩
                   have H5 := Lib.hid (H4.out.call hP hK)
                   obtain ⟨f0, f1, f2, f3, f4, f5, f6, f7, f8, f9, ff⟩ := nd10 H5.out.blk
                   clear hP hK))
  all_goals
    have H6 := Lib.hid (LocN.again H5.out (nd0 p.here).pos vb)
    clear H5 c0 c1 c2 c3 c4 c5 c6 c7 c8 c9 cf d0 d1 d2 d3 d4 d5 d6 d7 d8 d9 df f0 f1 f2 f3 f4 f5 f6 f7 f8 f9 ff
    go_wp2_with fail
    go_loopw [26] (fun _ wr => ApplyAt inner p w1 pb D L w1.heap.size wr) (fun _ wr => tsLen wr pb)
    case atStart => exact ⟨_, _, _, _, _, Nat.le_refl _, HF.out, H6.out⟩
    case round =>
      obtain ⟨q, a, k0, b0, n, hn, hr, h⟩ := hrel
      have HQ := Lib.hid h
      have HR := Lib.hid hr
      obtain ⟨i0, i1, i2, i3, i4, i5, i6, i7, i8, i9, if_⟩ := nd10 h.blk
      cases hs : starts q with
      | false =>
        have HS := Lib.hid hs
        have HF2 := Lib.hid (show applyB inner p = (a, q) by
          rw [hr]
          cases n with
          | zero => rfl
          | succ n => rw [applyGo_succ, hs]; rfl)
        clear hr h hs
        go_wp2_with fail
        refine (starts_any _ _ q D _ HQ.out.at_).mono ?_
        rw [HS.out]
        rintro e w6 ⟨rfl, hw⟩
        subst hw
        go_wp2_with fail
        go_ret
        obtain ⟨a1, a2⟩ := HQ.out.done (fun k hk => HP.out.low hk)
        rw [HF2.out]
        exact ⟨rfl, a1, a2⟩
      | true =>
        have HS := Lib.hid hs
        have hl := starts_len hs
        obtain ⟨n', rfl⟩ : ∃ n', n = n' + 1 := ⟨n - 1, by omega⟩
        have hlt2 := atom_lt MO.out q hs
        obtain ⟨⟨va', q'⟩, e6⟩ : ∃ r, atomB inner q = r := ⟨_, rfl⟩
        have hput := put_ts q' { nd0 p.here with kind := 4, a := a, b := va' }
        obtain ⟨⟨vp, q''⟩, e7⟩ : ∃ r, q'.put { nd0 p.here with kind := 4, a := a, b := va' } = r := ⟨_, rfl⟩
        have HF2 := Lib.hid (show applyB inner p = applyGo inner p.here n' vp q'' by
          rw [hr, applyGo_succ, hs]
          simp only [if_true, e6, e7])
        rw [e6] at hlt2
        rw [e7] at hput
        have HLT := Lib.hid hlt2
        have HPU := Lib.hid hput
        have E6 := Lib.hid e6
        have E7 := Lib.hid e7
        clear hr h hs e6 e7 hlt2 hput
        go_wp2_with fail
        refine (starts_any _ _ q D _ HQ.out.at_).mono ?_
        rw [HS.out]
        rintro e w6 ⟨rfl, hw⟩
        subst hw
        go_wp2_with fail
        refine (AT.out m _ _ _ _ (HQ.out.keep.ml HM.out hL.out) hg HQ.out.at_).mono ?_
        rw [E6.out]
        rintro e w7 ⟨rfl, hP, hK⟩
        have H7 := HQ.out.call hP hK
        obtain ⟨j0, j1, j2, j3, j4, j5, j6, j7, j8, j9, jf⟩ := nd10 H7.blk
        have H7 := LocN.b_ (LocN.kind_ H7 4) va'
        have H7 := Lib.hid H7
        clear hP hK i0 i1 i2 i3 i4 i5 i6 i7 i8 i9 if_
        go_wp2_with fail
        refine (put_any { nd0 p.here with kind := 4, a := a, b := va' } _ _ _ D _ H7.out.at_).mono ?_
        rw [E7.out]
        rintro e w8 ⟨rfl, hP, hK⟩
        have H8 := H7.out.call hP hK
        obtain ⟨l0, l1, l2, l3, l4, l5, l6, l7, l8, l9, lf⟩ := nd10 H8.blk
        have H8 := Lib.hid (LocN.a_ H8 vp)
        clear hP hK j0 j1 j2 j3 j4 j5 j6 j7 j8 j9 jf
        go_wp2_with fail
        refine ⟨⟨q'', vp, 4, va', n', ?_, HF2.out, H8.out⟩, ?_⟩
        · have h1 := HLT.out; have h2 := HPU.out; have h3 : q''.ts.length = q'.ts.length := congrArg List.length h2; omega
        · rw [PAt.tsLen H8.out.at_, PAt.tsLen HQ.out.at_]
          have h1 := HLT.out; have h2 := HPU.out; have h3 : q''.ts.length = q'.ts.length := congrArg List.length h2; omega
/-- apply, without -/
theorem apply_atom (inner : Inner) (D : Int) (ih : PFun 38 inner D) (hmono : Mono inner) (m : Int) (w : World) (pb : Nat) (p : PS) (L : Nat → Prop) (hm : ML m w) (hg : 1 < pb) (h : PAt w pb p D L) (his : p.is wDo = false) :
    Calls Tryd.prog 109 #[.pointer (some ⟨pb, 0, none⟩)] w (Gave w pb D L (applyB inner p)) := by
  have AT := Lib.hid (atom_any inner D ih)
  have HP := Lib.hid h
  have hL := Lib.hid (h.low hg)
  have HM := Lib.hid hm
  have MO := Lib.hid hmono
  have h0 := Lib.hid (fun k hk => (h.loc (k := k) hk).1)
  have H1 := Lib.hid (Loc.start h (KeepOn.refl L w) (fun k hk => (h.loc hk).1) (ndArr (nd0 p.here)) 24)
  have hlt := h.lt
  have IS := Lib.hid (show p.is (tl { data := #[100, 111] }) = false from his)
  obtain ⟨⟨vb, q5⟩, e4⟩ : ∃ q, atomB inner p = q := ⟨_, rfl⟩
  have HF := Lib.hid (show applyB inner p = applyGo inner p.here q5.ts.length vb q5 by
    unfold applyB headB
    rw [his]
    simp only [e4, Bool.false_eq_true, if_false])
  have E4 := Lib.hid e4
  clear h ih hm hmono his e4
  go_enter Tryd.func109, Tryd.ntmps109
  go_wp2_with fail
  refine (here_any _ _ p D L HP.out).mono ?_
  rintro e w1 ⟨rfl, hw⟩
  subst hw
  go_wp2_with fail
  refine (take_no _ _ _ _ D _ H1.out.at_ IS.out).mono ?_
  rintro e w2 ⟨rfl, hw⟩
  subst hw
  go_wp2_with fail
  refine (AT.out m _ _ _ _ (H1.out.keep.ml HM.out hL.out) hg H1.out.at_).mono ?_
  rw [E4.out]
  rintro e w4 ⟨rfl, hP, hK⟩
  have H := H1.out.call hP hK
  obtain ⟨c0, c1, c2, c3, c4, c5, c6, c7, c8, c9, cf⟩ := nd10 H.blk
  have H6 := Lib.hid (LocN.a_ H vb)
  clear hP hK H
  go_wp2_with fail
  all_goals
    go_loopw [26] (fun _ wr => ApplyAt inner p w1 pb D L w1.heap.size wr) (fun _ wr => tsLen wr pb)
    case atStart => exact ⟨_, _, _, _, _, Nat.le_refl _, HF.out, H6.out⟩
    case round =>
      obtain ⟨q, a, k0, b0, n, hn, hr, h⟩ := hrel
      have HQ := Lib.hid h
      have HR := Lib.hid hr
      obtain ⟨i0, i1, i2, i3, i4, i5, i6, i7, i8, i9, if_⟩ := nd10 h.blk
      cases hs : starts q with
      | false =>
        have HS := Lib.hid hs
        have HF2 := Lib.hid (show applyB inner p = (a, q) by
          rw [hr]
          cases n with
          | zero => rfl
          | succ n => rw [applyGo_succ, hs]; rfl)
        clear hr h hs
        go_wp2_with fail
        refine (starts_any _ _ q D _ HQ.out.at_).mono ?_
        rw [HS.out]
        rintro e w6 ⟨rfl, hw⟩
        subst hw
        go_wp2_with fail
        go_ret
        obtain ⟨a1, a2⟩ := HQ.out.done (fun k hk => HP.out.low hk)
        rw [HF2.out]
        exact ⟨rfl, a1, a2⟩
      | true =>
        have HS := Lib.hid hs
        have hl := starts_len hs
        obtain ⟨n', rfl⟩ : ∃ n', n = n' + 1 := ⟨n - 1, by omega⟩
        have hlt2 := atom_lt MO.out q hs
        obtain ⟨⟨va', q'⟩, e6⟩ : ∃ r, atomB inner q = r := ⟨_, rfl⟩
        have hput := put_ts q' { nd0 p.here with kind := 4, a := a, b := va' }
        obtain ⟨⟨vp, q''⟩, e7⟩ : ∃ r, q'.put { nd0 p.here with kind := 4, a := a, b := va' } = r := ⟨_, rfl⟩
        have HF2 := Lib.hid (show applyB inner p = applyGo inner p.here n' vp q'' by
          rw [hr, applyGo_succ, hs]
          simp only [if_true, e6, e7])
        rw [e6] at hlt2
        rw [e7] at hput
        have HLT := Lib.hid hlt2
        have HPU := Lib.hid hput
        have E6 := Lib.hid e6
        have E7 := Lib.hid e7
        clear hr h hs e6 e7 hlt2 hput
        go_wp2_with fail
        refine (starts_any _ _ q D _ HQ.out.at_).mono ?_
        rw [HS.out]
        rintro e w6 ⟨rfl, hw⟩
        subst hw
        go_wp2_with fail
        refine (AT.out m _ _ _ _ (HQ.out.keep.ml HM.out hL.out) hg HQ.out.at_).mono ?_
        rw [E6.out]
        rintro e w7 ⟨rfl, hP, hK⟩
        have H7 := HQ.out.call hP hK
        obtain ⟨j0, j1, j2, j3, j4, j5, j6, j7, j8, j9, jf⟩ := nd10 H7.blk
        have H7 := LocN.b_ (LocN.kind_ H7 4) va'
        have H7 := Lib.hid H7
        clear hP hK i0 i1 i2 i3 i4 i5 i6 i7 i8 i9 if_
        go_wp2_with fail
        refine (put_any { nd0 p.here with kind := 4, a := a, b := va' } _ _ _ D _ H7.out.at_).mono ?_
        rw [E7.out]
        rintro e w8 ⟨rfl, hP, hK⟩
        have H8 := H7.out.call hP hK
        obtain ⟨l0, l1, l2, l3, l4, l5, l6, l7, l8, l9, lf⟩ := nd10 H8.blk
        have H8 := Lib.hid (LocN.a_ H8 vp)
        clear hP hK j0 j1 j2 j3 j4 j5 j6 j7 j8 j9 jf
        go_wp2_with fail
        refine ⟨⟨q'', vp, 4, va', n', ?_, HF2.out, H8.out⟩, ?_⟩
        · have h1 := HLT.out; have h2 := HPU.out; have h3 : q''.ts.length = q'.ts.length := congrArg List.length h2; omega
        · rw [PAt.tsLen H8.out.at_, PAt.tsLen HQ.out.at_]
          have h1 := HLT.out; have h2 := HPU.out; have h3 : q''.ts.length = q'.ts.length := congrArg List.length h2; omega
theorem apply_any (inner : Inner) (D : Int) (ih : PFun 38 inner D) (hmono : Mono inner) : PFun 109 (applyB inner) D := by
  intro m w pb p L hm hg h
  show Calls _ _ _ _ (Gave w pb D L (applyB inner p))
  cases his : p.is wDo with
  | true => exact apply_do inner D ih hmono m w pb p L hm hg h his
  | false => exact apply_atom inner D ih hmono m w pb p L hm hg h his
end Go.Proofs.YtiflfnnnbgmomaaDoor
