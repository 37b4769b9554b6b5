/- The walk of parser.op. -/
import Derived.Test.YtiflfnnnbgmomaaDoorParseW
namespace Go.Proofs.YtiflfnnnbgmomaaDoor
set_option linter.unusedVariables false
set_option linter.unusedSimpArgs false
open Go.RowKit
set_option maxHeartbeats 2000000
set_option maxRecDepth 100000
attribute [local go_sem ↓] Go.wp_at_zero Go.wp_at_succ

theorem PRest.pushed_ops {w1 w5 : World} {pb : Nat} {p : PS} {L : Nat → Prop} {A : Option Addr} {cap : Nat} {ov nv ev v5 : Value} (hR : PRest w1 pb p L A cap ov nv ev) (x : OpD)
    (hown : w5.ownsRow (pb + 1) 36 3 v5 (p.ops.length + 1) (p.ops.flatMap opCells ++ opCells x)) (hg : w1.grownBy w5 ov.ownBlock) (hat : v5.ownBlock = ov.ownBlock ∨ v5.ownBlock = some w1.heap.size) (h4 : p.ops.length + 1 ≤ 4) :
    PRest w5 pb { p with ops := p.ops ++ [x] } L A cap v5 nv ev := by
  have hnb := fun k (h : ov.ownBlock = some k) => own_ge hR.ops k h
  refine ⟨hR.toks.keep fun q hq => World.cell?_of_block (hg.block _ (Nat.lt_trans hq hR.lt) (fun e => by have := hnb _ e.symm; omega)), hR.capl, hR.small,
    ?_, hR.nds.kept hg (own_own_ne hR.nds hR.ops (by decide)), ?_, hR.ndl, hR.err.kept hg (fun g a e hB => own_blk_ne hR.ops hB (by decide)), fun k hk => ?_, hR.low, Nat.lt_of_lt_of_le hR.lt hg.size⟩
  · show w5.ownsRow (pb + 1) 36 3 v5 (p.ops ++ [x]).length ((p.ops ++ [x]).flatMap opCells)
    rw [List.length_append, List.flatMap_append, List.length_singleton]
    have e : List.flatMap opCells [x] = opCells x := by simp
    rw [e]
    exact hown
  · show (p.ops ++ [x]).length ≤ 4
    rw [List.length_append, List.length_singleton]; exact h4
  · obtain ⟨a1, a2, a3, a4⟩ := hR.loc k hk
    refine ⟨Nat.lt_of_lt_of_le a1 hg.size, a2, a3, ?_⟩
    rcases hat with h | h
    · rw [h]; exact a4
    · rw [h]; intro e; injection e with e; omega
theorem PAt.pushed_ops {w1 w5 : World} {pb : Nat} {p : PS} {deep : Int} {L : Nat → Prop} {A : Option Addr} {cap : Nat} {ov nv ev v5 : Value} (hB : Blk w1 pb 79 (pFields p deep A cap ov nv ev)) (hR : PRest w1 pb p L A cap ov nv ev) (x : OpD)
    (hown : w5.ownsRow (pb + 1) 36 3 v5 (p.ops.length + 1) (p.ops.flatMap opCells ++ opCells x)) (hg : w1.grownBy w5 ov.ownBlock) (hat : v5.ownBlock = ov.ownBlock ∨ v5.ownBlock = some w1.heap.size) (h4 : p.ops.length + 1 ≤ 4) :
    PAt (w5.setCell ⟨pb, 2, none⟩ v5) pb { p with ops := p.ops ++ [x] } deep L ∧ KeepOn L w1 (w5.setCell ⟨pb, 2, none⟩ v5) := by
  have h1 := (hR.pushed_ops x hown hg hat h4).keep (w' := w5.setCell ⟨pb, 2, none⟩ v5) (only_setCell (World.grownBy.refl _ _) (.inl rfl) _)
  exact ⟨⟨A, cap, v5, nv, ev, (hB.grown hg (Ne.symm (ownBlock_ge' hR.ops))).set_ 2 v5, h1⟩,
    (KeepOn.of_grown hg fun k hk => ⟨(hR.loc k hk).1, Ne.symm (hR.loc k hk).2.2.2⟩).setCell (fun hk => (hR.loc _ hk).2.1 rfl) _⟩
theorem PAt.ops_cell {w : World} {pb : Nat} {p : PS} {deep : Int} {L : Nat → Prop} (h : PAt w pb p deep L) : ∃ Ao capo, w.cell? ⟨pb, 2, none⟩ = some (.slice Ao p.ops.length capo) ∧ p.ops.length ≤ 4 := by
  obtain ⟨A, cap, ov, nv, ev, hB, hR⟩ := h
  rcases hR.ops.2 with ⟨rfl, h0⟩ | ⟨g, cp, cur, rfl, _⟩
  · exact ⟨none, 0, by rw [hB.cell, h0]; rfl, hR.opl⟩
  · exact ⟨_, _, by rw [hB.cell]; rfl, hR.opl⟩
theorem op_parse (w : World) (pb : Nat) (p : PS) (deep : Int) (L : Nat → Prop) (h : PAt w pb p deep L) :
    Calls Tryd.prog 37 #[.pointer (some ⟨pb, 0, none⟩)] w fun e w' => e = .returned (.tuple #[]) ∧ PAt w' pb p.op deep L ∧ KeepOn L w w' := by
  have HP := Lib.hid h
  obtain ⟨Ao, capo, c2, hol⟩ := h.ops_cell
  by_cases h4 : p.ops.length = 4
  · have HF := Lib.hid (show p.op = p.fail 402 by unfold PS.op; rw [if_pos h4])
    have k4 : ((p.ops.length : Int) == 4) = true := by rw [beq_iff_eq]; omega
    generalize p.ops.length = n at *
    clear h h4
    go_enter Tryd.func37, Tryd.ntmps37
    go_wp2_with (go_at_call 40; refine (fail_any 402 _ (ErrIs.num _) _ _ _ deep L HP.out).mono ?_; rintro e w3 ⟨rfl, hP3, hK3⟩)
    refine bodyPost_ret (results_none rfl _ _ _) rfl ?_
    rw [HF.out]
    exact ⟨rfl, hP3, hK3⟩
  · have k4 : ((p.ops.length : Int) == 4) = false := by rw [beq_eq_false_iff_ne]; omega
    obtain ⟨p1, e1⟩ : ∃ q, p.must (tl { data := #[111, 112] }) = q := ⟨_, rfl⟩
    obtain ⟨⟨nm, p2⟩, e2⟩ : ∃ q, p1.name = q := ⟨_, rfl⟩
    obtain ⟨p3, e3⟩ : ∃ q, p2.must (tl { data := #[58] }) = q := ⟨_, rfl⟩
    obtain ⟨⟨a, p4⟩, e4⟩ : ∃ q, p3.base = q := ⟨_, rfl⟩
    obtain ⟨p5, e5⟩ : ∃ q, p4.must (tl { data := #[45, 62] }) = q := ⟨_, rfl⟩
    obtain ⟨⟨b, p6⟩, e6⟩ : ∃ q, p5.base = q := ⟨_, rfl⟩
    obtain ⟨p7, e7⟩ : ∃ q, p6.must (tl { data := #[59] }) = q := ⟨_, rfl⟩
    have HF := Lib.hid (show p.op = { p7 with ops := p7.ops ++ [⟨nm, a, b⟩] } by
      have f1 : p.must wOp = p1 := e1
      have f3 : p2.must wColon = p3 := e3
      have f5 : p4.must wArrow = p5 := e5
      have f7 : p6.must wSemi = p7 := e7
      unfold PS.op
      rw [if_neg h4]
      simp only [f1, e2, f3, e4, f5, e6, f7])
    have hops : p7.ops = p.ops := by
      have m1 := (must_ops p (tl { data := #[111, 112] })).1; rw [e1] at m1
      have m2 := (name_ops p1).1; rw [e2] at m2
      have m3 := (must_ops p2 (tl { data := #[58] })).1; rw [e3] at m3
      have m4 := (base_ops p3).1; rw [e4] at m4
      have m5 := (must_ops p4 (tl { data := #[45, 62] })).1; rw [e5] at m5
      have m6 := (base_ops p5).1; rw [e6] at m6
      have m7 := (must_ops p6 (tl { data := #[59] })).1; rw [e7] at m7
      exact m7.trans (m6.trans (m5.trans (m4.trans (m3.trans (m2.trans m1)))))
    have HOPS := Lib.hid hops
    have hol7 : p7.ops.length ≤ 3 := by rw [hops]; omega
    have E1 := Lib.hid e1
    have E2 := Lib.hid e2
    have E3 := Lib.hid e3
    have E4 := Lib.hid e4
    have E5 := Lib.hid e5
    have E6 := Lib.hid e6
    have E7 := Lib.hid e7
    clear h h4 e1 e2 e3 e4 e5 e6 e7 hops
    go_enter Tryd.func37, Tryd.ntmps37
    go_wp2_with fail
    refine (must_any _ _ _ _ deep L HP.out).mono ?_
    rw [E1.out]
    rintro e w1 ⟨rfl, hP1, hK1⟩
    have HP1 := Lib.hid hP1
    clear hP1
    go_wp2_with fail
    refine (name_any _ _ _ deep L HP1.out).mono ?_
    rw [E2.out]
    rintro e w2 ⟨rfl, hP2, hK2⟩
    have H2 := Lib.hid (Loc.start hP2 (hK1.trans hK2) (fun k hk => (HP.out.loc hk).1) #[.string (ba nm), .int .i64 0, .int .i64 0] 36)
    clear hP2 hK1 hK2
    go_wp2_with fail
    refine (must_any _ _ _ _ deep _ H2.out.at_).mono ?_
    rw [E3.out]
    rintro e w3 ⟨rfl, hP3, hK3⟩
    have H3 := Lib.hid (H2.out.call hP3 hK3)
    clear hP3 hK3
    go_wp2_with fail
    refine (base_parse _ _ _ deep _ H3.out.at_).mono ?_
    rw [E4.out]
    rintro e w4 ⟨rfl, hP4, hK4⟩
    have H4 := H3.out.call hP4 hK4
    obtain ⟨c0, c1, c2', cf⟩ := Blk.c3 H4.blk
    have H4' := Lib.hid (H4.set 1 (.int .i64 a))
    clear hP4 hK4 H4
    go_wp2_with fail
    refine (must_any _ _ _ _ deep _ H4'.out.at_).mono ?_
    rw [E5.out]
    rintro e w5 ⟨rfl, hP5, hK5⟩
    have H5 := Lib.hid (H4'.out.call hP5 hK5)
    clear hP5 hK5 c0 c1 c2' cf
    go_wp2_with fail
    refine (base_parse _ _ _ deep _ H5.out.at_).mono ?_
    rw [E6.out]
    rintro e w6 ⟨rfl, hP6, hK6⟩
    have H6 := H5.out.call hP6 hK6
    obtain ⟨c0, c1, c2', cf⟩ := Blk.c3 H6.blk
    have H6' := Lib.hid (H6.set 2 (.int .i64 b))
    clear hP6 hK6 H6
    go_wp2_with fail
    refine (must_any _ _ _ _ deep _ H6'.out.at_).mono ?_
    rw [E7.out]
    rintro e w7 ⟨rfl, hP7, hK7⟩
    have H7 := H6'.out.call hP7 hK7
    obtain ⟨hd7, hk7⟩ := H7.done (fun k hk => HP.out.low hk)
    obtain ⟨x0, x1, x2, _⟩ := Blk.c3 (show Blk _ _ _ #[.string (ba nm), .int .i64 a, .int .i64 b] from H7.blk)
    have HK7 := Lib.hid hk7
    have HP7 := Lib.hid hd7
    obtain ⟨A7, cap7, ov7, nv7, ev7, hB7, hR7⟩ := hd7
    have hlt7 := hR7.lt
    obtain ⟨Ao7, capo7, hov7⟩ : ∃ An capn, ov7 = .slice An p7.ops.length capn := by
      rcases hR7.ops.2 with ⟨rfl, h0⟩ | ⟨g, cp, cur, rfl, _⟩
      · exact ⟨none, 0, by rw [h0]⟩
      · exact ⟨_, _, rfl⟩
    obtain ⟨y0, y1, y2, y3, y4, y5, yf⟩ := Blk.c6 (show Blk w7 pb _ #[.slice A7 p7.ts.length cap7, .int .i64 p7.fin, ov7, nv7, ev7, .int .i64 deep] from hB7)
    have HB7 := Lib.hid hB7
    have HR7 := Lib.hid hR7
    have HOV := Lib.hid hov7
    have HO := Lib.hid (show w7.ownsRow (pb + 1) 36 3 (.slice Ao7 p7.ops.length capo7) p7.ops.length (p7.ops.flatMap opCells) by rw [← hov7]; exact hR7.ops)
    have hno : (Value.slice Ao7 p7.ops.length capo7).ownBlock ≠ some pb := ownBlock_ge' HO.out
    obtain ⟨n, hn⟩ : ∃ n, p7.ops.length = n := ⟨_, rfl⟩
    have HN := Lib.hid hn
    rw [hov7] at y2
    rw [hn] at y2 HO hno hol7
    obtain ⟨i0, hi0, hz0, hz1, hz2⟩ := info_parts opInfo
    have HOA : Hid ((w7.alloc (.cells #[.string (ba nm), .int .i64 a, .int .i64 b] 36)).drew.ownsRow (pb + 1) 36 3 (.slice Ao7 n capo7) n (p7.ops.flatMap opCells)) := Lib.hid (HO.out.alloc _).drew
    have HRA := Lib.hid (show Reads (w7.alloc (.cells #[.string (ba nm), .int .i64 a, .int .i64 b] 36)).drew (w7.heap.size + 1) 3 (some ⟨w7.heap.size, 0, none⟩) 1 (opCells ⟨nm, a, b⟩) from (Reads.new w7 #[.string (ba nm), .int .i64 a, .int .i64 b] 36 1 3 rfl).drew)
    have HBA := Lib.hid (show Blk (w7.alloc (.cells #[.string (ba nm), .int .i64 a, .int .i64 b] 36)).drew pb _ _ from (HB7.out.alloc _).drew)
    have HR1R := Lib.hid (show PRest (w7.alloc (.cells #[.string (ba nm), .int .i64 a, .int .i64 b] 36)).drew pb p7 L A7 cap7 ov7 nv7 ev7 from HR7.out.keep (only_drew (only_alloc (World.grownBy.refl _ _) _)))
    have HK2 := Lib.hid (show KeepOn L w (w7.alloc (.cells #[.string (ba nm), .int .i64 a, .int .i64 b] 36)).drew from (HK7.out.alloc (fun k hk => (HP.out.loc hk).1) _).drew)
    clear hP7 hK7 H7 hk7 hB7 hR7 hov7 hn c0 c1 c2' cf
    go_wp2
    go_region_law ((refine step_append_any _ rfl (.tmp 33) (.tmp 35) 29 rfl (pb + 1) 36 i0 _ 3 32 Tryd.underlying29 hi0 hz0 hz1 hz2 rfl (by omega) (.slice Ao7 n capo7) n (p7.ops.flatMap opCells) (by rfl) HOA.out _ _ 1 1 _ (by rfl) HRA.out (one_op ⟨nm, a, b⟩) (by unfold maxLen; omega) (by omega) (by simp; omega) ?_
                    intro v8 w8 hown8 hg8 hat8
                    obtain ⟨g8, cap8, hv8, hgb8, hgl8⟩ := hown8.form (by omega)
                    subst hv8
                    have B8 := HBA.out.grown hg8 (Ne.symm hno)
                    obtain ⟨d0, d1, d2, d3, d4, d5, df⟩ := Blk.c6 B8
                    have HO8 := Lib.hid hown8
                    have HG8 := Lib.hid hg8
                    have HAT8 := Lib.hid hat8
                    clear hown8 hg8 hat8 B8))
    all_goals
      go_wp2
      go_end0
      rw [HF.out]
      obtain ⟨hp, hk⟩ := PAt.pushed_ops HBA.out (HR1R.out) ⟨nm, a, b⟩ (by rw [HN.out]; exact HO8.out) (by rw [HOV.out, HN.out]; exact HG8.out) (by rw [HOV.out, HN.out]; exact HAT8.out) (by rw [HN.out]; omega)
      exact ⟨rfl, hp, HK2.out.trans hk⟩
end Go.Proofs.YtiflfnnnbgmomaaDoor
