/- The walks of package parse: put. -/
import Derived.Test.YtiflfnnnbgmomaaDoorParseC
import Derived.Test.YtiflfnnnbgmomaaDoorInfo
import Derived.Deep.RegionLaw
import Derived.Deep.DrawnRows
namespace Go.Proofs.YtiflfnnnbgmomaaDoor
set_option linter.unusedVariables false
set_option linter.unusedSimpArgs false
open Go.RowKit
set_option maxHeartbeats 1000000
set_option maxRecDepth 100000
attribute [local go_sem ↓] Go.wp_at_zero Go.wp_at_succ



theorem PAt.bad_cell {w : World} {pb : Nat} {p : PS} {deep : Int} {L : Nat → Prop} (h : PAt w pb p deep L) (hb : p.bad = true) : ∃ v, w.cell? ⟨pb, 4, none⟩ = some (.iface 91 v) := by
  obtain ⟨A, cap, ov, nv, ev, hB, hR⟩ := h
  have he := hR.err
  unfold PS.bad at hb
  cases ho : p.err with
  | none => rw [ho] at hb; cases hb
  | some x =>
    rw [ho] at he
    obtain ⟨g, e, rfl, _⟩ := he
    exact ⟨_, hB.cell 4⟩
theorem fail_bad (p : PS) (c : Int) : (p.fail c).bad = true := by
  unfold PS.bad PS.fail
  cases h : p.err with
  | some x => simp [h]
  | none => rfl
theorem own_own_ne {w : World} {b1 b2 e1 e2 s1 s2 n1 n2 : Nat} {v1 v2 : Value} {x1 x2 : List Value} (h1 : w.ownsRow b1 e1 s1 v1 n1 x1) (h2 : w.ownsRow b2 e2 s2 v2 n2 x2) (hne : e1 ≠ e2) : v1.ownBlock = none ∨ v1.ownBlock ≠ v2.ownBlock := by
  rcases h1.2 with ⟨rfl, _⟩ | ⟨g, cp, cur, rfl, _, hh, _⟩
  · exact .inl rfl
  · refine .inr fun he => ?_
    exact own_blk_ne (t := e1) (cs := cur) h2 hh (Ne.symm hne) (he.symm.trans (by rfl))
theorem PRest.pushed_ns {w1 w5 : World} {pb : Nat} {p : PS} {L : Nat → Prop} {A : Option Addr} {cap : Nat} {ov nv ev v5 : Value} (hR : PRest w1 pb p L A cap ov nv ev) (x : Nd)
    (hown : w5.ownsRow (pb + 1) 24 10 v5 (p.ns.length + 1) (p.ns.flatMap ndCells ++ (ndArr x).toList)) (hg : w1.grownBy w5 nv.ownBlock) (hat : v5.ownBlock = nv.ownBlock ∨ v5.ownBlock = some w1.heap.size) (h512 : p.ns.length + 1 ≤ 512) :
    PRest w5 pb { p with ns := p.ns ++ [x] } L A cap ov v5 ev := by
  have hnb := fun k (h : nv.ownBlock = some k) => own_ge hR.nds k h
  refine ⟨hR.toks.keep fun q hq => World.cell?_of_block (hg.block _ (Nat.lt_trans hq hR.lt) (fun e => by have := hnb _ e.symm; omega)), hR.capl, hR.small,
    hR.ops.kept hg (own_own_ne hR.ops hR.nds (by decide)), ?_, hR.opl, ?_, hR.err.kept hg (fun g a e hB => own_blk_ne hR.nds hB (by decide)), fun k hk => ?_, hR.low, Nat.lt_of_lt_of_le hR.lt hg.size⟩
  · show w5.ownsRow (pb + 1) 24 10 v5 (p.ns ++ [x]).length ((p.ns ++ [x]).flatMap ndCells)
    rw [List.length_append, List.flatMap_append, List.length_singleton]
    have e : List.flatMap ndCells [x] = (ndArr x).toList := by simp [ndCells, ndArr]
    rw [e]
    exact hown
  · show (p.ns ++ [x]).length ≤ 512
    rw [List.length_append, List.length_singleton]; exact h512
  · obtain ⟨a1, a2, a3, a4⟩ := hR.loc k hk
    refine ⟨Nat.lt_of_lt_of_le a1 hg.size, a2, ?_, a4⟩
    rcases hat with h | h
    · rw [h]; exact a3
    · rw [h]; intro e; injection e with e; omega
theorem PAt.pushed_ns {w1 w5 : World} {pb : Nat} {p : PS} {deep : Int} {L : Nat → Prop} {A : Option Addr} {cap : Nat} {ov nv ev v5 : Value} (hB : Blk w1 pb 79 (pFields p deep A cap ov nv ev)) (hR : PRest w1 pb p L A cap ov nv ev) (x : Nd)
    (hown : w5.ownsRow (pb + 1) 24 10 v5 (p.ns.length + 1) (p.ns.flatMap ndCells ++ (ndArr x).toList)) (hg : w1.grownBy w5 nv.ownBlock) (hat : v5.ownBlock = nv.ownBlock ∨ v5.ownBlock = some w1.heap.size) (h512 : p.ns.length + 1 ≤ 512) :
    PAt (w5.setCell ⟨pb, 3, none⟩ v5) pb { p with ns := p.ns ++ [x] } deep L ∧ KeepOn L w1 (w5.setCell ⟨pb, 3, none⟩ v5) := by
  have h1 := (hR.pushed_ns x hown hg hat h512).keep (w' := w5.setCell ⟨pb, 3, none⟩ v5) (only_setCell (World.grownBy.refl _ _) (.inl rfl) _)
  exact ⟨⟨A, cap, ov, v5, ev, (hB.grown hg (Ne.symm (ownBlock_ge' hR.nds))).set_ 3 v5, h1⟩,
    (KeepOn.of_grown hg fun k hk => ⟨(hR.loc k hk).1, Ne.symm (hR.loc k hk).2.2.1⟩).setCell (fun hk => (hR.loc _ hk).2.1 rfl) _⟩
theorem put_any (x : Nd) (w : World) (pb : Nat) (p : PS) (deep : Int) (L : Nat → Prop) (h : PAt w pb p deep L) :
    Calls Tryd.prog 90 #[.pointer (some ⟨pb, 0, none⟩), ndV x] w fun e w' => e = .returned (.int .i64 (p.put x).1) ∧ PAt w' pb (p.put x).2 deep L ∧ KeepOn L w w' := by
  have HP := Lib.hid h
  have HP1 := Lib.hid (h.alloc (.cells (ndArr x) 24))
  have HK1 := Lib.hid ((KeepOn.refl L w).alloc (fun k hk => (h.loc hk).1) (.cells (ndArr x) 24))
  obtain ⟨A, cap, ov, nv, ev, hB, hR⟩ := h
  obtain ⟨c0, c1, c2, c3, c4, c5, hf⟩ := Blk.c6 (show Blk w pb _ #[.slice A p.ts.length cap, .int .i64 p.fin, ov, nv, ev, .int .i64 deep] from hB)
  have hlt := hR.lt
  obtain ⟨An, capn, hnv⟩ : ∃ An capn, nv = .slice An p.ns.length capn := by
    rcases hR.nds.2 with ⟨rfl, h0⟩ | ⟨g, cp, cur, rfl, _⟩
    · exact ⟨none, 0, by rw [h0]⟩
    · exact ⟨_, _, rfl⟩
  rw [hnv] at c3
  have hnl := hR.ndl
  by_cases h512 : p.ns.length = 512
  · have HF := Lib.hid (show p.put x = (0, p.fail 402) by unfold PS.put PS.full; rw [if_pos h512, if_pos (fail_bad p 402)])
    have k0 : ((p.ns.length : Int) == 512) = true := by rw [beq_iff_eq]; omega
    generalize p.ns.length = n at *
    clear hB hR h512 hnv
    go_enter Tryd.func90, Tryd.ntmps90
    go_wp2_with (go_at_call 40; refine (fail_any 402 _ (ErrIs.num _) _ _ _ deep L HP1.out).mono ?_; rintro e w3 ⟨rfl, hP3, hK3⟩
                 obtain ⟨v3, d3⟩ := hP3.bad_cell (fail_bad _ _))
    go_ret
    rw [HF.out]
    exact ⟨rfl, hP3, HK1.out.trans hK3⟩
  · have k0 : ((p.ns.length : Int) == 512) = false := by rw [beq_eq_false_iff_ne]; omega
    cases ho : p.err with
    | some y =>
      have HF := Lib.hid (show p.put x = (0, p) by
        have hfull : p.full = p := by unfold PS.full; rw [if_neg h512]
        unfold PS.put
        rw [hfull, if_pos (by unfold PS.bad; rw [ho]; rfl)])
      have he := hR.err
      rw [ho] at he
      obtain ⟨g, e, rfl, _⟩ := he
      generalize p.ns.length = n at *
      clear hB hR h512 hnv ho
      go_enter Tryd.func90, Tryd.ntmps90
      go_wp2
      go_ret
      rw [HF.out]
      exact ⟨rfl, HP1.out, HK1.out⟩
    | none =>
      have HF := Lib.hid (show p.put x = ((p.ns.length : Int), { p with ns := p.ns ++ [x] }) by
        have hfull : p.full = p := by unfold PS.full; rw [if_neg h512]
        unfold PS.put
        rw [hfull, if_neg (by unfold PS.bad; rw [ho]; decide)])
      have he := hR.err
      rw [ho] at he
      obtain rfl : ev = .nilIface := he
      have HB := Lib.hid hB
      have HR := Lib.hid hR
      have HNV := Lib.hid hnv
      have HO := Lib.hid (show w.ownsRow (pb + 1) 24 10 (.slice An p.ns.length capn) p.ns.length (p.ns.flatMap ndCells) by rw [← hnv]; exact hR.nds)
      have hno : (Value.slice An p.ns.length capn).ownBlock ≠ some pb := ownBlock_ge' HO.out
      obtain ⟨n, hn⟩ : ∃ n, p.ns.length = n := ⟨_, rfl⟩
      have HN := Lib.hid hn
      rw [hn] at c3 HO hno k0 hnl HF
      have hn2 : n ≤ 511 := by omega
      obtain ⟨i0, hi0, hz0, hz1, hz2⟩ := info_parts ndInfo
      clear hB hR h512 hnv ho hn
      go_enter Tryd.func90, Tryd.ntmps90
      go_wp2
      have hr1 : Reads ((w.alloc (.cells (ndArr x) 24)).alloc (.cells (ndArr x) 24)).drew (w.heap.size + 1 + 1) 10 (some ⟨w.heap.size + 1, 0, none⟩) 1 (ndArr x).toList := (Reads.new1 w (.cells (ndArr x) 24) (ndArr x) 24 1 10 rfl).drew
      have HR1 := Lib.hid hr1
      have HR1R := Lib.hid (show PRest ((w.alloc (.cells (ndArr x) 24)).alloc (.cells (ndArr x) 24)).drew pb p L A cap ov nv .nilIface from HR.out.keep (only_drew (only_alloc (only_alloc (World.grownBy.refl _ _) _) _)))
      have HK2 := Lib.hid (show KeepOn L w ((w.alloc (.cells (ndArr x) 24)).alloc (.cells (ndArr x) 24)).drew from (HK1.out.alloc (fun k hk => (HP.out.loc hk).1) _).drew)
      have HO1 := Lib.hid (show ((w.alloc (.cells (ndArr x) 24)).alloc (.cells (ndArr x) 24)).drew.ownsRow (pb + 1) 24 10 (.slice An n capn) n (p.ns.flatMap ndCells) from ((HO.out.alloc _).alloc _).drew)
      have HB1 := Lib.hid (show Blk ((w.alloc (.cells (ndArr x) 24)).alloc (.cells (ndArr x) 24)).drew pb _ _ from ((HB.out.alloc _).alloc _).drew)
      clear hr1
      go_region_law ((refine step_append_any _ rfl (.tmp 23) (.tmp 25) 25 rfl (pb + 1) 24 i0 _ 10 112 Tryd.underlying25 hi0 hz0 hz1 hz2 rfl (by omega) (.slice An n capn) n (p.ns.flatMap ndCells) (by rfl) HO1.out _ _ 1 1 _ (by rfl) HR1.out (one_nd x) (by unfold maxLen; omega) (by omega) (by simp; omega) ?_
                      intro v5 w5 hown5 hg5 hat5
                      obtain ⟨g5, cap5, hv5, hgb5, hgl5⟩ := hown5.form (by omega)
                      subst hv5
                      have B5 := HB1.out.grown hg5 (Ne.symm hno)
                      obtain ⟨d0, d1, d2, d3, d4, d5, df⟩ := Blk.c6 B5
                      have HO5 := Lib.hid hown5
                      have HG5 := Lib.hid hg5
                      have HAT5 := Lib.hid hat5
                      have HB5 := Lib.hid B5
                      clear hown5 hg5 hat5 B5))
      all_goals
        go_wp2
        go_ret
        rw [HF.out]
        obtain ⟨hp, hk⟩ := PAt.pushed_ns HB1.out (HR1R.out) x (by rw [HN.out]; exact HO5.out) (by rw [HNV.out, HN.out]; exact HG5.out) (by rw [HNV.out, HN.out]; exact HAT5.out) (by rw [HN.out]; omega)
        exact ⟨rfl, hp, HK2.out.trans hk⟩
end Go.Proofs.YtiflfnnnbgmomaaDoor
