/- The walks of package parse: level. -/
import Derived.Test.YtiflfnnnbgmomaaDoorParseI
namespace Go.Proofs.YtiflfnnnbgmomaaDoor
set_option linter.unusedVariables false
set_option linter.unusedSimpArgs false
open Go.RowKit
set_option maxHeartbeats 2000000
set_option maxRecDepth 100000

/-- level, from l on -/
def LFun (l : Int) (F : Inner) (D : Int) : Prop := ∀ (m : Int) (w : World) (pb : Nat) (p : PS) (L : Nat → Prop), ML m w → 1 < pb → PAt w pb p D L →
  Calls Tryd.prog 89 #[.pointer (some ⟨pb, 0, none⟩), .int .i64 l] w (Gave w pb D L (F p))
theorem level_3 (inner : Inner) (D : Int) (ih : PFun 38 inner D) (hmono : Mono inner) : LFun 3 (applyB inner) D := by
  intro m w pb p L hm hg h
  have AP := Lib.hid (apply_any inner D ih hmono)
  have HP := Lib.hid h
  have hL := Lib.hid (h.low hg)
  have HM := Lib.hid hm
  have HK := Lib.hid (show KeepOn L w _ from (KeepOn.refl L w).alloc (fun k hk => (h.loc hk).1) (.cells #[.string { data := #[61, 61, 32, 60] }, .string { data := #[43, 32, 45] }, .string { data := #[42, 32, 47] }] 9))
  clear h ih hm hmono
  go_enter Tryd.func89, Tryd.ntmps89
  go_wp2_with fail
  refine (levels_any _).mono ?_
  rintro e w1 ⟨rfl, hw⟩
  subst hw
  go_wp2_with fail
  refine (AP.out m _ _ _ _ (HK.out.ml HM.out hL.out) hg (HP.out.alloc _)).mono ?_
  rintro e w2 ⟨rfl, hP, hK⟩
  go_wp2_with fail
  go_ret
  exact ⟨rfl, hP, HK.out.trans hK⟩
/-- the state of level's loop -/
def LevelAt (up : Inner) (l : Nat) (p : PS) (w0 : World) (pb : Nat) (D : Int) (L : Nat → Prop) (va vk : Value) (w : World) : Prop :=
  ∃ (q : PS) (a k : Int) (n : Nat), q.ts.length ≤ n ∧ levelUp up l p = levelGo up l n a q ∧ va = .int .i64 a ∧ vk = .int .i64 k ∧ k = primV (primB q l) ∧ PAt w pb q D L ∧ KeepOn L w0 w
/-- a token taken off, with a new block behind it -/
theorem Loc.popped {w0 w : World} {pb : Nat} {p q : PS} {D : Int} {L : Nat → Prop} {V : Value} (h : PAt (w.setCell ⟨pb, 0, none⟩ V) pb q D L) (k : KeepOn L w0 w) (hpb : ¬ L pb) (h0 : ∀ k, L k → k < w0.heap.size) (cs : Array Value) (t : TypeId) :
    Loc w0 ((w.setCell ⟨pb, 0, none⟩ V).alloc (.cells cs t)) pb q D L w.heap.size t cs := by
  have hz : (w.setCell ⟨pb, 0, none⟩ V).heap.size = w.heap.size := by simp
  have := Loc.start h (k.setCell (p := ⟨pb, 0, none⟩) hpb V) h0 cs t
  rwa [hz] at this
theorem level_2 (up : Inner) (D : Int) (ih : LFun 3 up D) (hmono : Mono up) : LFun 2 (levelUp up 2) D := by
  intro m w pb p L hm hg h
  have UP := Lib.hid ih
  have HP0 := Lib.hid h
  have hL := Lib.hid (h.low hg)
  have HM := Lib.hid hm
  have MO := Lib.hid hmono
  have h0 := Lib.hid (fun k hk => (h.loc (k := k) hk).1)
  have HNL := Lib.hid (show ¬ L pb from fun hL => (h.loc hL).2 rfl)
  have HK0 := Lib.hid (show KeepOn L w _ from (KeepOn.refl L w).alloc (fun k hk => (h.loc hk).1) (.cells #[.string { data := #[61, 61, 32, 60] }, .string { data := #[43, 32, 45] }, .string { data := #[42, 32, 47] }] 9))
  obtain ⟨⟨a1, q1⟩, e1⟩ : ∃ r, up p = r := ⟨_, rfl⟩
  have HF := Lib.hid (show levelUp up 2 p = levelGo up 2 q1.ts.length a1 q1 by unfold levelUp; simp only [e1])
  have E1 := Lib.hid e1
  clear h ih hm hmono e1
  go_enter Tryd.func89, Tryd.ntmps89
  go_wp2_with fail
  refine (levels_any _).mono ?_
  rintro e w1 ⟨rfl, hw⟩
  subst hw
  go_wp2_with fail
  refine (UP.out m _ _ _ _ (HK0.out.ml HM.out hL.out) hg (HP0.out.alloc _)).mono ?_
  rw [E1.out]
  rintro e w2 ⟨rfl, hP, hK⟩
  have HP1 := Lib.hid hP
  have HK1 := Lib.hid (HK0.out.trans hK)
  have hsz := hP.lt
  clear hP hK
  go_wp2_with fail
  refine (prim_any 2 (by decide) m _ (HK1.out.ml HM.out hL.out) (by omega) _ _ _ _ HP1.out).mono ?_
  obtain ⟨k1, hk1⟩ : ∃ k1, primV (primB q1 2) = k1 := ⟨_, rfl⟩
  rw [hk1]
  have HK1V := Lib.hid hk1
  clear hk1
  rintro e w3 ⟨rfl, hbl⟩
  have HP2 := Lib.hid (HP1.out.below hbl)
  have HK2 := Lib.hid (HK1.out.trans (KeepOn.of_below hbl (fun k hk => (HP1.out.loc hk).1)))
  clear hbl
  go_wp2_with fail
  go_loopw [5, 6] (fun va vk wr => LevelAt up 2 p w pb D L va vk wr) (fun _ _ wr => tsLen wr pb)
  case atStart => exact ⟨_, _, _, _, Nat.le_refl _, HF.out, rfl, rfl, HK1V.out.symm, HP2.out, HK2.out⟩
  case round =>
    obtain ⟨q, a, kv, n, hn, hr, rfl, rfl, hkv, h, hk⟩ := hrel
    have HP := Lib.hid h
    have HK := Lib.hid hk
    have hlt := h.lt
    cases hs : primB q 2 with
    | none =>
      have HF2 := Lib.hid (show levelUp up 2 p = (a, q) by
        rw [hr]
        cases n with
        | zero => rfl
        | succ n => rw [levelGo_succ, hs])
      obtain rfl : kv = -1 := by rw [hkv, hs]; rfl
      clear hr h hk hs hkv
      go_wp2_with fail
      go_ret
      rw [HF2.out]
      exact ⟨rfl, HP.out, HK.out⟩
    | some kk =>
      have hl := prim_len hs
      obtain ⟨n', rfl⟩ : ∃ n', n = n' + 1 := ⟨n - 1, by omega⟩
      obtain ⟨⟨vb, q'⟩, e6⟩ : ∃ r, up q.pop = r := ⟨_, rfl⟩
      have hmo := MO.out q.pop
      rw [e6] at hmo
      have hlt2 : q'.ts.length < q.ts.length := Nat.lt_of_le_of_lt hmo (pop_lt hl)
      have hput := put_ts q' { nd0 q.here with kind := 8, num := (kk : Int), a := a, b := vb }
      obtain ⟨⟨vp, q''⟩, e7⟩ : ∃ r, q'.put { nd0 q.here with kind := 8, num := (kk : Int), a := a, b := vb } = r := ⟨_, rfl⟩
      rw [e7] at hput
      have HF2 := Lib.hid (show levelUp up 2 p = levelGo up 2 n' vp q'' by
        rw [hr, levelGo_succ, hs]
        simp only [e6, e7]; rfl)
      have HLT := Lib.hid hlt2
      have HPU := Lib.hid hput
      have E6 := Lib.hid e6
      have E7 := Lib.hid e7
      obtain ⟨A, cap, ov, nv, ev, hB, hR⟩ := h
      obtain ⟨t0, r0, ht⟩ : ∃ t r, q.ts = t :: r := by
        cases hts : q.ts with
        | nil => rw [hts] at hl; simp at hl
        | cons t r => exact ⟨t, r, rfl⟩
      obtain ⟨c0, c1, c2, c3, c4, c5, hf⟩ := Blk.c6 (show Blk _ pb _ #[.slice A q.ts.length cap, .int .i64 q.fin, ov, nv, ev, .int .i64 D] from hB)
      obtain ⟨b, off, hA, hb, _⟩ := hR.pop ht
      have hcl := hR.capl
      have HB := Lib.hid hB
      have HR := Lib.hid hR
      have HT := Lib.hid ht
      have HA := Lib.hid hA
      rw [hA] at c0
      obtain ⟨nq, hnq⟩ : ∃ nq, nq = q.ts.length := ⟨_, rfl⟩
      rw [← hnq] at c0 hl hcl
      have HNQ := Lib.hid hnq
      obtain rfl : kv = (kk : Int) := by rw [hkv, hs]; rfl
      clear hr hk hs hkv e6 e7 hlt2 hput hmo hB hR ht hA hnq
      have h1 : (1 : Int) ≤ (nq : Int) := by omega
      have h2 : (nq : Int) ≤ (cap : Int) := by omega
      have h3 : ((kk : Int) ≥ 0) = True := by simp
      go_wp2_with fail
      refine (here_any _ _ q D L HP.out).mono ?_
      rintro e w6 ⟨rfl, hw⟩
      subst hw
      by_cases hc : cap = 1
      · subst hc
        go_wp2_with fail
        have HPo := PAt.popped HB.out HR.out HA.out HT.out HNQ.out (V := .slice (some ⟨b, off, none⟩) 0 0) (by rw [if_pos rfl, HA.out]; congr 1; omega)
        have H1 := Lib.hid (Loc.popped (p := q) HPo HK.out HNL.out h0.out (ndArr { nd0 q.here with kind := 8, num := (kk : Int), a := a }) 24)
        clear HPo
        refine (UP.out m _ _ _ _ (H1.out.keep.ml HM.out hL.out) hg H1.out.at_).mono ?_
        rw [E6.out]
        rintro e w7 ⟨rfl, hP, hK⟩
        have H2 := H1.out.call hP hK
        obtain ⟨j0, j1, j2, j3, j4, j5, j6, j7, j8, j9, jf⟩ := nd10 H2.blk
        have H2 := Lib.hid (LocN.b_ H2 vb)
        clear hP hK
        go_wp2_with fail
        refine (put_any { nd0 q.here with kind := 8, num := (kk : Int), a := a, b := vb } _ _ _ D _ H2.out.at_).mono ?_
        rw [E7.out]
        rintro e w8 ⟨rfl, hP, hK⟩
        have H3 := H2.out.call hP hK
        obtain ⟨hP3, hK3⟩ := H3.done (fun k hk => HP.out.low hk)
        have HP3 := Lib.hid hP3
        have HK3 := Lib.hid hK3
        have hsz := hP3.lt
        clear hP hK hP3 hK3 j0 j1 j2 j3 j4 j5 j6 j7 j8 j9 jf H3
        go_wp2_with fail
        refine (prim_any 2 (by decide) m _ (HK3.out.ml HM.out hL.out) (by omega) _ _ _ _ HP3.out).mono ?_
        rintro e w9 ⟨rfl, hbl⟩
        have HP4 := HP3.out.below hbl
        have HK4 := HK3.out.trans (KeepOn.of_below hbl (fun k hk => (HP3.out.loc hk).1))
        go_wp2_with fail
        refine ⟨⟨q'', vp, _, n', ?_, HF2.out, rfl, rfl, rfl, HP4, HK4⟩, ?_⟩
        · have h1 := HLT.out; have h2 := HPU.out; have h3 : q''.ts.length = q'.ts.length := congrArg List.length h2; omega
        · rw [PAt.tsLen HP4, PAt.tsLen HP.out]
          have h1 := HLT.out; have h2 := HPU.out; have h3 : q''.ts.length = q'.ts.length := congrArg List.length h2; omega
      · go_wp2_with fail
        have HPo := PAt.popped HB.out HR.out HA.out HT.out HNQ.out (V := .slice (some ⟨b, off + 4, none⟩) (nq - 1) (cap - 1)) (by rw [if_neg hc])
        have H1 := Lib.hid (Loc.popped (p := q) HPo HK.out HNL.out h0.out (ndArr { nd0 q.here with kind := 8, num := (kk : Int), a := a }) 24)
        clear HPo
        refine (UP.out m _ _ _ _ (H1.out.keep.ml HM.out hL.out) hg H1.out.at_).mono ?_
        rw [E6.out]
        rintro e w7 ⟨rfl, hP, hK⟩
        have H2 := H1.out.call hP hK
        obtain ⟨j0, j1, j2, j3, j4, j5, j6, j7, j8, j9, jf⟩ := nd10 H2.blk
        have H2 := Lib.hid (LocN.b_ H2 vb)
        clear hP hK
        go_wp2_with fail
        refine (put_any { nd0 q.here with kind := 8, num := (kk : Int), a := a, b := vb } _ _ _ D _ H2.out.at_).mono ?_
        rw [E7.out]
        rintro e w8 ⟨rfl, hP, hK⟩
        have H3 := H2.out.call hP hK
        obtain ⟨hP3, hK3⟩ := H3.done (fun k hk => HP.out.low hk)
        have HP3 := Lib.hid hP3
        have HK3 := Lib.hid hK3
        have hsz := hP3.lt
        clear hP hK hP3 hK3 j0 j1 j2 j3 j4 j5 j6 j7 j8 j9 jf H3
        go_wp2_with fail
        refine (prim_any 2 (by decide) m _ (HK3.out.ml HM.out hL.out) (by omega) _ _ _ _ HP3.out).mono ?_
        rintro e w9 ⟨rfl, hbl⟩
        have HP4 := HP3.out.below hbl
        have HK4 := HK3.out.trans (KeepOn.of_below hbl (fun k hk => (HP3.out.loc hk).1))
        go_wp2_with fail
        refine ⟨⟨q'', vp, _, n', ?_, HF2.out, rfl, rfl, rfl, HP4, HK4⟩, ?_⟩
        · have h1 := HLT.out; have h2 := HPU.out; have h3 : q''.ts.length = q'.ts.length := congrArg List.length h2; omega
        · rw [PAt.tsLen HP4, PAt.tsLen HP.out]
          have h1 := HLT.out; have h2 := HPU.out; have h3 : q''.ts.length = q'.ts.length := congrArg List.length h2; omega
theorem level_1 (up : Inner) (D : Int) (ih : LFun 2 up D) (hmono : Mono up) : LFun 1 (levelUp up 1) D := by
  intro m w pb p L hm hg h
  have UP := Lib.hid ih
  have HP0 := Lib.hid h
  have hL := Lib.hid (h.low hg)
  have HM := Lib.hid hm
  have MO := Lib.hid hmono
  have h0 := Lib.hid (fun k hk => (h.loc (k := k) hk).1)
  have HNL := Lib.hid (show ¬ L pb from fun hL => (h.loc hL).2 rfl)
  have HK0 := Lib.hid (show KeepOn L w _ from (KeepOn.refl L w).alloc (fun k hk => (h.loc hk).1) (.cells #[.string { data := #[61, 61, 32, 60] }, .string { data := #[43, 32, 45] }, .string { data := #[42, 32, 47] }] 9))
  obtain ⟨⟨a1, q1⟩, e1⟩ : ∃ r, up p = r := ⟨_, rfl⟩
  have HF := Lib.hid (show levelUp up 1 p = levelGo up 1 q1.ts.length a1 q1 by unfold levelUp; simp only [e1])
  have E1 := Lib.hid e1
  clear h ih hm hmono e1
  go_enter Tryd.func89, Tryd.ntmps89
  go_wp2_with fail
  refine (levels_any _).mono ?_
  rintro e w1 ⟨rfl, hw⟩
  subst hw
  go_wp2_with fail
  refine (UP.out m _ _ _ _ (HK0.out.ml HM.out hL.out) hg (HP0.out.alloc _)).mono ?_
  rw [E1.out]
  rintro e w2 ⟨rfl, hP, hK⟩
  have HP1 := Lib.hid hP
  have HK1 := Lib.hid (HK0.out.trans hK)
  have hsz := hP.lt
  clear hP hK
  go_wp2_with fail
  refine (prim_any 1 (by decide) m _ (HK1.out.ml HM.out hL.out) (by omega) _ _ _ _ HP1.out).mono ?_
  obtain ⟨k1, hk1⟩ : ∃ k1, primV (primB q1 1) = k1 := ⟨_, rfl⟩
  rw [hk1]
  have HK1V := Lib.hid hk1
  clear hk1
  rintro e w3 ⟨rfl, hbl⟩
  have HP2 := Lib.hid (HP1.out.below hbl)
  have HK2 := Lib.hid (HK1.out.trans (KeepOn.of_below hbl (fun k hk => (HP1.out.loc hk).1)))
  clear hbl
  go_wp2_with fail
  go_loopw [5, 6] (fun va vk wr => LevelAt up 1 p w pb D L va vk wr) (fun _ _ wr => tsLen wr pb)
  case atStart => exact ⟨_, _, _, _, Nat.le_refl _, HF.out, rfl, rfl, HK1V.out.symm, HP2.out, HK2.out⟩
  case round =>
    obtain ⟨q, a, kv, n, hn, hr, rfl, rfl, hkv, h, hk⟩ := hrel
    have HP := Lib.hid h
    have HK := Lib.hid hk
    have hlt := h.lt
    cases hs : primB q 1 with
    | none =>
      have HF2 := Lib.hid (show levelUp up 1 p = (a, q) by
        rw [hr]
        cases n with
        | zero => rfl
        | succ n => rw [levelGo_succ, hs])
      obtain rfl : kv = -1 := by rw [hkv, hs]; rfl
      clear hr h hk hs hkv
      go_wp2_with fail
      go_ret
      rw [HF2.out]
      exact ⟨rfl, HP.out, HK.out⟩
    | some kk =>
      have hl := prim_len hs
      obtain ⟨n', rfl⟩ : ∃ n', n = n' + 1 := ⟨n - 1, by omega⟩
      obtain ⟨⟨vb, q'⟩, e6⟩ : ∃ r, up q.pop = r := ⟨_, rfl⟩
      have hmo := MO.out q.pop
      rw [e6] at hmo
      have hlt2 : q'.ts.length < q.ts.length := Nat.lt_of_le_of_lt hmo (pop_lt hl)
      have hput := put_ts q' { nd0 q.here with kind := 8, num := (kk : Int), a := a, b := vb }
      obtain ⟨⟨vp, q''⟩, e7⟩ : ∃ r, q'.put { nd0 q.here with kind := 8, num := (kk : Int), a := a, b := vb } = r := ⟨_, rfl⟩
      rw [e7] at hput
      have HF2 := Lib.hid (show levelUp up 1 p = levelGo up 1 n' vp q'' by
        rw [hr, levelGo_succ, hs]
        simp only [e6, e7]; rfl)
      have HLT := Lib.hid hlt2
      have HPU := Lib.hid hput
      have E6 := Lib.hid e6
      have E7 := Lib.hid e7
      obtain ⟨A, cap, ov, nv, ev, hB, hR⟩ := h
      obtain ⟨t0, r0, ht⟩ : ∃ t r, q.ts = t :: r := by
        cases hts : q.ts with
        | nil => rw [hts] at hl; simp at hl
        | cons t r => exact ⟨t, r, rfl⟩
      obtain ⟨c0, c1, c2, c3, c4, c5, hf⟩ := Blk.c6 (show Blk _ pb _ #[.slice A q.ts.length cap, .int .i64 q.fin, ov, nv, ev, .int .i64 D] from hB)
      obtain ⟨b, off, hA, hb, _⟩ := hR.pop ht
      have hcl := hR.capl
      have HB := Lib.hid hB
      have HR := Lib.hid hR
      have HT := Lib.hid ht
      have HA := Lib.hid hA
      rw [hA] at c0
      obtain ⟨nq, hnq⟩ : ∃ nq, nq = q.ts.length := ⟨_, rfl⟩
      rw [← hnq] at c0 hl hcl
      have HNQ := Lib.hid hnq
      obtain rfl : kv = (kk : Int) := by rw [hkv, hs]; rfl
      clear hr hk hs hkv e6 e7 hlt2 hput hmo hB hR ht hA hnq
      have h1 : (1 : Int) ≤ (nq : Int) := by omega
      have h2 : (nq : Int) ≤ (cap : Int) := by omega
      have h3 : ((kk : Int) ≥ 0) = True := by simp
      go_wp2_with fail
      refine (here_any _ _ q D L HP.out).mono ?_
      rintro e w6 ⟨rfl, hw⟩
      subst hw
      by_cases hc : cap = 1
      · subst hc
        go_wp2_with fail
        have HPo := PAt.popped HB.out HR.out HA.out HT.out HNQ.out (V := .slice (some ⟨b, off, none⟩) 0 0) (by rw [if_pos rfl, HA.out]; congr 1; omega)
        have H1 := Lib.hid (Loc.popped (p := q) HPo HK.out HNL.out h0.out (ndArr { nd0 q.here with kind := 8, num := (kk : Int), a := a }) 24)
        clear HPo
        refine (UP.out m _ _ _ _ (H1.out.keep.ml HM.out hL.out) hg H1.out.at_).mono ?_
        rw [E6.out]
        rintro e w7 ⟨rfl, hP, hK⟩
        have H2 := H1.out.call hP hK
        obtain ⟨j0, j1, j2, j3, j4, j5, j6, j7, j8, j9, jf⟩ := nd10 H2.blk
        have H2 := Lib.hid (LocN.b_ H2 vb)
        clear hP hK
        go_wp2_with fail
        refine (put_any { nd0 q.here with kind := 8, num := (kk : Int), a := a, b := vb } _ _ _ D _ H2.out.at_).mono ?_
        rw [E7.out]
        rintro e w8 ⟨rfl, hP, hK⟩
        have H3 := H2.out.call hP hK
        obtain ⟨hP3, hK3⟩ := H3.done (fun k hk => HP.out.low hk)
        have HP3 := Lib.hid hP3
        have HK3 := Lib.hid hK3
        have hsz := hP3.lt
        clear hP hK hP3 hK3 j0 j1 j2 j3 j4 j5 j6 j7 j8 j9 jf H3
        go_wp2_with fail
        refine (prim_any 1 (by decide) m _ (HK3.out.ml HM.out hL.out) (by omega) _ _ _ _ HP3.out).mono ?_
        rintro e w9 ⟨rfl, hbl⟩
        have HP4 := HP3.out.below hbl
        have HK4 := HK3.out.trans (KeepOn.of_below hbl (fun k hk => (HP3.out.loc hk).1))
        go_wp2_with fail
        refine ⟨⟨q'', vp, _, n', ?_, HF2.out, rfl, rfl, rfl, HP4, HK4⟩, ?_⟩
        · have h1 := HLT.out; have h2 := HPU.out; have h3 : q''.ts.length = q'.ts.length := congrArg List.length h2; omega
        · rw [PAt.tsLen HP4, PAt.tsLen HP.out]
          have h1 := HLT.out; have h2 := HPU.out; have h3 : q''.ts.length = q'.ts.length := congrArg List.length h2; omega
      · go_wp2_with fail
        have HPo := PAt.popped HB.out HR.out HA.out HT.out HNQ.out (V := .slice (some ⟨b, off + 4, none⟩) (nq - 1) (cap - 1)) (by rw [if_neg hc])
        have H1 := Lib.hid (Loc.popped (p := q) HPo HK.out HNL.out h0.out (ndArr { nd0 q.here with kind := 8, num := (kk : Int), a := a }) 24)
        clear HPo
        refine (UP.out m _ _ _ _ (H1.out.keep.ml HM.out hL.out) hg H1.out.at_).mono ?_
        rw [E6.out]
        rintro e w7 ⟨rfl, hP, hK⟩
        have H2 := H1.out.call hP hK
        obtain ⟨j0, j1, j2, j3, j4, j5, j6, j7, j8, j9, jf⟩ := nd10 H2.blk
        have H2 := Lib.hid (LocN.b_ H2 vb)
        clear hP hK
        go_wp2_with fail
        refine (put_any { nd0 q.here with kind := 8, num := (kk : Int), a := a, b := vb } _ _ _ D _ H2.out.at_).mono ?_
        rw [E7.out]
        rintro e w8 ⟨rfl, hP, hK⟩
        have H3 := H2.out.call hP hK
        obtain ⟨hP3, hK3⟩ := H3.done (fun k hk => HP.out.low hk)
        have HP3 := Lib.hid hP3
        have HK3 := Lib.hid hK3
        have hsz := hP3.lt
        clear hP hK hP3 hK3 j0 j1 j2 j3 j4 j5 j6 j7 j8 j9 jf H3
        go_wp2_with fail
        refine (prim_any 1 (by decide) m _ (HK3.out.ml HM.out hL.out) (by omega) _ _ _ _ HP3.out).mono ?_
        rintro e w9 ⟨rfl, hbl⟩
        have HP4 := HP3.out.below hbl
        have HK4 := HK3.out.trans (KeepOn.of_below hbl (fun k hk => (HP3.out.loc hk).1))
        go_wp2_with fail
        refine ⟨⟨q'', vp, _, n', ?_, HF2.out, rfl, rfl, rfl, HP4, HK4⟩, ?_⟩
        · have h1 := HLT.out; have h2 := HPU.out; have h3 : q''.ts.length = q'.ts.length := congrArg List.length h2; omega
        · rw [PAt.tsLen HP4, PAt.tsLen HP.out]
          have h1 := HLT.out; have h2 := HPU.out; have h3 : q''.ts.length = q'.ts.length := congrArg List.length h2; omega
theorem level_0 (up : Inner) (D : Int) (ih : LFun 1 up D) (hmono : Mono up) : LFun 0 (levelUp up 0) D := by
  intro m w pb p L hm hg h
  have UP := Lib.hid ih
  have HP0 := Lib.hid h
  have hL := Lib.hid (h.low hg)
  have HM := Lib.hid hm
  have MO := Lib.hid hmono
  have h0 := Lib.hid (fun k hk => (h.loc (k := k) hk).1)
  have HNL := Lib.hid (show ¬ L pb from fun hL => (h.loc hL).2 rfl)
  have HK0 := Lib.hid (show KeepOn L w _ from (KeepOn.refl L w).alloc (fun k hk => (h.loc hk).1) (.cells #[.string { data := #[61, 61, 32, 60] }, .string { data := #[43, 32, 45] }, .string { data := #[42, 32, 47] }] 9))
  obtain ⟨⟨a1, q1⟩, e1⟩ : ∃ r, up p = r := ⟨_, rfl⟩
  have HF := Lib.hid (show levelUp up 0 p = levelGo up 0 q1.ts.length a1 q1 by unfold levelUp; simp only [e1])
  have E1 := Lib.hid e1
  clear h ih hm hmono e1
  go_enter Tryd.func89, Tryd.ntmps89
  go_wp2_with fail
  refine (levels_any _).mono ?_
  rintro e w1 ⟨rfl, hw⟩
  subst hw
  go_wp2_with fail
  refine (UP.out m _ _ _ _ (HK0.out.ml HM.out hL.out) hg (HP0.out.alloc _)).mono ?_
  rw [E1.out]
  rintro e w2 ⟨rfl, hP, hK⟩
  have HP1 := Lib.hid hP
  have HK1 := Lib.hid (HK0.out.trans hK)
  have hsz := hP.lt
  clear hP hK
  go_wp2_with fail
  refine (prim_any 0 (by decide) m _ (HK1.out.ml HM.out hL.out) (by omega) _ _ _ _ HP1.out).mono ?_
  obtain ⟨k1, hk1⟩ : ∃ k1, primV (primB q1 0) = k1 := ⟨_, rfl⟩
  rw [hk1]
  have HK1V := Lib.hid hk1
  clear hk1
  rintro e w3 ⟨rfl, hbl⟩
  have HP2 := Lib.hid (HP1.out.below hbl)
  have HK2 := Lib.hid (HK1.out.trans (KeepOn.of_below hbl (fun k hk => (HP1.out.loc hk).1)))
  clear hbl
  go_wp2_with fail
  go_loopw [5, 6] (fun va vk wr => LevelAt up 0 p w pb D L va vk wr) (fun _ _ wr => tsLen wr pb)
  case atStart => exact ⟨_, _, _, _, Nat.le_refl _, HF.out, rfl, rfl, HK1V.out.symm, HP2.out, HK2.out⟩
  case round =>
    obtain ⟨q, a, kv, n, hn, hr, rfl, rfl, hkv, h, hk⟩ := hrel
    have HP := Lib.hid h
    have HK := Lib.hid hk
    have hlt := h.lt
    cases hs : primB q 0 with
    | none =>
      have HF2 := Lib.hid (show levelUp up 0 p = (a, q) by
        rw [hr]
        cases n with
        | zero => rfl
        | succ n => rw [levelGo_succ, hs])
      obtain rfl : kv = -1 := by rw [hkv, hs]; rfl
      clear hr h hk hs hkv
      go_wp2_with fail
      go_ret
      rw [HF2.out]
      exact ⟨rfl, HP.out, HK.out⟩
    | some kk =>
      have hl := prim_len hs
      obtain ⟨n', rfl⟩ : ∃ n', n = n' + 1 := ⟨n - 1, by omega⟩
      obtain ⟨⟨vb, q'⟩, e6⟩ : ∃ r, up q.pop = r := ⟨_, rfl⟩
      have hmo := MO.out q.pop
      rw [e6] at hmo
      have hlt2 : q'.ts.length < q.ts.length := Nat.lt_of_le_of_lt hmo (pop_lt hl)
      have hput := put_ts q' { nd0 q.here with kind := 8, num := (kk : Int), a := a, b := vb }
      obtain ⟨⟨vp, q''⟩, e7⟩ : ∃ r, q'.put { nd0 q.here with kind := 8, num := (kk : Int), a := a, b := vb } = r := ⟨_, rfl⟩
      rw [e7] at hput
      have HF2 := Lib.hid (show levelUp up 0 p = (vp, q'') by
        rw [hr, levelGo_succ, hs]
        simp only [e6, e7]; rfl)
      have HLT := Lib.hid hlt2
      have HPU := Lib.hid hput
      have E6 := Lib.hid e6
      have E7 := Lib.hid e7
      obtain ⟨A, cap, ov, nv, ev, hB, hR⟩ := h
      obtain ⟨t0, r0, ht⟩ : ∃ t r, q.ts = t :: r := by
        cases hts : q.ts with
        | nil => rw [hts] at hl; simp at hl
        | cons t r => exact ⟨t, r, rfl⟩
      obtain ⟨c0, c1, c2, c3, c4, c5, hf⟩ := Blk.c6 (show Blk _ pb _ #[.slice A q.ts.length cap, .int .i64 q.fin, ov, nv, ev, .int .i64 D] from hB)
      obtain ⟨b, off, hA, hb, _⟩ := hR.pop ht
      have hcl := hR.capl
      have HB := Lib.hid hB
      have HR := Lib.hid hR
      have HT := Lib.hid ht
      have HA := Lib.hid hA
      rw [hA] at c0
      obtain ⟨nq, hnq⟩ : ∃ nq, nq = q.ts.length := ⟨_, rfl⟩
      rw [← hnq] at c0 hl hcl
      have HNQ := Lib.hid hnq
      obtain rfl : kv = (kk : Int) := by rw [hkv, hs]; rfl
      clear hr hk hs hkv e6 e7 hlt2 hput hmo hB hR ht hA hnq
      have h1 : (1 : Int) ≤ (nq : Int) := by omega
      have h2 : (nq : Int) ≤ (cap : Int) := by omega
      have h3 : ((kk : Int) ≥ 0) = True := by simp
      go_wp2_with fail
      refine (here_any _ _ q D L HP.out).mono ?_
      rintro e w6 ⟨rfl, hw⟩
      subst hw
      by_cases hc : cap = 1
      · subst hc
        go_wp2_with fail
        have HPo := PAt.popped HB.out HR.out HA.out HT.out HNQ.out (V := .slice (some ⟨b, off, none⟩) 0 0) (by rw [if_pos rfl, HA.out]; congr 1; omega)
        have H1 := Lib.hid (Loc.popped (p := q) HPo HK.out HNL.out h0.out (ndArr { nd0 q.here with kind := 8, num := (kk : Int), a := a }) 24)
        clear HPo
        refine (UP.out m _ _ _ _ (H1.out.keep.ml HM.out hL.out) hg H1.out.at_).mono ?_
        rw [E6.out]
        rintro e w7 ⟨rfl, hP, hK⟩
        have H2 := H1.out.call hP hK
        obtain ⟨j0, j1, j2, j3, j4, j5, j6, j7, j8, j9, jf⟩ := nd10 H2.blk
        have H2 := Lib.hid (LocN.b_ H2 vb)
        clear hP hK
        go_wp2_with fail
        refine (put_any { nd0 q.here with kind := 8, num := (kk : Int), a := a, b := vb } _ _ _ D _ H2.out.at_).mono ?_
        rw [E7.out]
        rintro e w8 ⟨rfl, hP, hK⟩
        have H3 := H2.out.call hP hK
        obtain ⟨hP3, hK3⟩ := H3.done (fun k hk => HP.out.low hk)
        have HP3 := Lib.hid hP3
        have HK3 := Lib.hid hK3
        have hsz := hP3.lt
        clear hP hK hP3 hK3 j0 j1 j2 j3 j4 j5 j6 j7 j8 j9 jf H3
        go_wp2_with fail
        go_ret
        show Gave _ _ _ _ _ _ _
        rw [HF2.out]
        exact ⟨rfl, HP3.out, HK3.out⟩
      · go_wp2_with fail
        have HPo := PAt.popped HB.out HR.out HA.out HT.out HNQ.out (V := .slice (some ⟨b, off + 4, none⟩) (nq - 1) (cap - 1)) (by rw [if_neg hc])
        have H1 := Lib.hid (Loc.popped (p := q) HPo HK.out HNL.out h0.out (ndArr { nd0 q.here with kind := 8, num := (kk : Int), a := a }) 24)
        clear HPo
        refine (UP.out m _ _ _ _ (H1.out.keep.ml HM.out hL.out) hg H1.out.at_).mono ?_
        rw [E6.out]
        rintro e w7 ⟨rfl, hP, hK⟩
        have H2 := H1.out.call hP hK
        obtain ⟨j0, j1, j2, j3, j4, j5, j6, j7, j8, j9, jf⟩ := nd10 H2.blk
        have H2 := Lib.hid (LocN.b_ H2 vb)
        clear hP hK
        go_wp2_with fail
        refine (put_any { nd0 q.here with kind := 8, num := (kk : Int), a := a, b := vb } _ _ _ D _ H2.out.at_).mono ?_
        rw [E7.out]
        rintro e w8 ⟨rfl, hP, hK⟩
        have H3 := H2.out.call hP hK
        obtain ⟨hP3, hK3⟩ := H3.done (fun k hk => HP.out.low hk)
        have HP3 := Lib.hid hP3
        have HK3 := Lib.hid hK3
        have hsz := hP3.lt
        clear hP hK hP3 hK3 j0 j1 j2 j3 j4 j5 j6 j7 j8 j9 jf H3
        go_wp2_with fail
        go_ret
        show Gave _ _ _ _ _ _ _
        rw [HF2.out]
        exact ⟨rfl, HP3.out, HK3.out⟩
theorem level_any (inner : Inner) (D : Int) (ih : PFun 38 inner D) (hmono : Mono inner) : LFun 0 (level0 inner) D :=
  level_0 _ D (level_1 _ D (level_2 _ D (level_3 inner D ih hmono) (apply_ts hmono)) (levelUp_ts (apply_ts hmono) 2)) (levelUp_ts (levelUp_ts (apply_ts hmono) 2) 1)
end Go.Proofs.YtiflfnnnbgmomaaDoor
