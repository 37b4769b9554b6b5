/- The walk of tree.may. -/
import Derived.Test.YtiflfnnnbgmomaaDoorTreeD
namespace Go.Proofs.YtiflfnnnbgmomaaDoor
set_option linter.unusedVariables false
set_option linter.unusedSimpArgs false
open Go.RowKit
set_option maxHeartbeats 2000000
set_option maxRecDepth 100000
theorem may_u1 (n : Nd) (w : World) (hg : G w) (k1 : ¬ n.kind < 0) (k2 : ¬ 10 < n.kind) (k3 : ¬ n.pos < 0) (k4 : ¬ 4096 < n.pos) (m0 : 0 ≤ mostN n.kind) (m1 : ¬ n.num < 0) (m2 : ¬ mostN n.kind < n.num)
    (HM : Hid (mayB n false = ((!false || n.names.all nameMay) && isBare (((if false = true then n.noNames else n).noKids).noNum false)))) :
    Calls Tryd.prog 65 #[ndV n, .bool false] w fun e w' => e = .returned (.bool (mayB n false)) ∧ Below w.heap.size w w' := by
  have HMM := Lib.hid (show mayB n false = isBare (n.noKids.noNum false) by rw [HM.out]; simp)
  go_enter Tryd.func65, Tryd.ntmps65
  go_wp2_with (go_at_call 93; refine (most_any _ _).mono ?_; rintro e w2 ⟨rfl, hw2⟩; obtain rfl := hw2)
  have B1 : Blk (w.alloc (.cells (ndArr n) 24)) w.heap.size 24 (ndArr n) := Blk.new w _ _
  have hb1 : Below w.heap.size w (w.alloc (.cells (ndArr n) 24)) := (Below.refl _ _).alloc (Nat.le_refl _) _
  refine (kids_row n.kind _ _ (nd10 B1).1).mono ?_
  rintro e w2 ⟨A, rfl, hrow, hb2⟩
  have hz1 := hb1.size
  have hxl := B1.lt
  have B2 := B1.below hb2 hxl
  have hb3 := hb1.trans (hb2.mono hz1)
  skip
  obtain ⟨offs, hoffs⟩ : ∃ offs, kidOffs n.kind = offs := ⟨_, rfl⟩
  rw [hoffs] at hrow ⊢
  have hl3 : offs.length ≤ 3 := by rw [← hoffs]; exact kidOffs_le _
  have HO := Lib.hid hoffs
  clear hoffs B1 hb1 hb2
  go_wp2_with fail
  go_loopw [9, 61] (fun _ i wr => ∃ k, k ≤ offs.length ∧ i = .int .i64 k ∧ Blk wr w.heap.size 24 (clr (ndArr n) (offs.take k) (.int .i64 0)) ∧ RowAt wr (w.heap.size + 1) 104 A w.heap.size offs ∧ Below w.heap.size w wr) (fun _ i _ => offs.length - (intOf i).toNat)
  case atStart => exact ⟨0, Nat.zero_le _, rfl, B2, fun h => (hrow h).imp fun g hg => ⟨hg.1, Nat.le_trans hxl hg.2.1, hg.2.2⟩, hb3⟩
  case round =>
    obtain ⟨k, hk, rfl, hB, hR, hbr⟩ := hrel
    by_cases hlt : k < offs.length
    · obtain ⟨g, rfl, hg1, hG⟩ := hR (by omega)
      have p1 := (hG.cell k).trans (ptrs_at _ _ k hlt)
      obtain ⟨v, hv⟩ : ∃ v, (clr (ndArr n) (offs.take k) (.int .i64 0))[offs[k]]? = some v := by
        have ho : offs[k] ≤ 3 := (by have := HO.out; subst this; exact (kidOff_lt n.kind k hlt).2)
        rw [Array.getElem?_eq_getElem (by rw [clr_size]; show offs[k] < 10; omega)]
        exact ⟨_, rfl⟩
      have p2 := (hB.cell _).trans hv
      have p3 := hB.frozen offs[k]
      have HV := Lib.hid hv
      clear hv
      go_wp2_with fail
      go_roundw
      case rel => exact ⟨k + 1, by omega, by go_num, by rw [clr_step _ _ _ k hlt]; exact hB.set_ _ _, fun _ => ⟨g, rfl, hg1, hG.far (by show g ≠ w.heap.size; omega) _⟩, hbr.setCell (Nat.le_refl _) _⟩
      case measure => simp [intOf]; omega
    · have hkl : k = offs.length := by omega
      subst hkl
      rw [List.take_length, ← HO.out, clr_kids] at hB
      obtain ⟨q, hq⟩ : ∃ q, n.noKids = q := ⟨_, rfl⟩
      rw [hq] at hB
      have HQ := Lib.hid hq
      clear hq hR hrow B2
      obtain ⟨c0, c1, c2, c3, c4, c5, c6, c7, c8, c9, hf⟩ := nd10 hB
      have E := eql_bare { q with num := 0 }
      dsimp only at E
      go_wp2_with fail
      go_ret
      refine ⟨ret_bool ?_, hbr.setCell (Nat.le_refl _) _⟩
      rw [HMM.out, ← HQ.out]
      unfold Nd.noNum
      rw [noKids_kind, decide_eq_true m0]
      simp
theorem may_n1 (n : Nd) (hok : NdOk n) (w : World) (hg : G w) (k1 : ¬ n.kind < 0) (k2 : ¬ 10 < n.kind) (k3 : ¬ n.pos < 0) (k4 : ¬ 4096 < n.pos) (m0 : 0 ≤ mostN n.kind) (m1 : ¬ n.num < 0) (m2 : ¬ mostN n.kind < n.num)
    (HM : Hid (mayB n true = ((!true || n.names.all nameMay) && isBare (((if true = true then n.noNames else n).noKids).noNum true)))) :
    Calls Tryd.prog 65 #[ndV n, .bool true] w fun e w' => e = .returned (.bool (mayB n true)) ∧ Below w.heap.size w w' := by
  have HK0 := Lib.hid (noNames_kind n)
  go_enter Tryd.func65, Tryd.ntmps65
  go_wp2_with (go_at_call 93; refine (most_any _ _).mono ?_; rintro e w2 ⟨rfl, hw2⟩; obtain rfl := hw2)
  have B0 : Blk (w.alloc (.cells (ndArr n) 24)) w.heap.size 24 (ndArr n) := Blk.new w _ _
  have hb0 : Below w.heap.size w (w.alloc (.cells (ndArr n) 24)) := (Below.refl _ _).alloc (Nat.le_refl _) _
  refine (names_row n.kind _ _ (nd10 B0).1).mono ?_
  rintro e w1 ⟨A0, rfl, hrow0, hb1⟩
  have hz0 := hb0.size
  have hxl0 := B0.lt
  have B1 := B0.below hb1 hxl0
  have hb2 := hb0.trans (hb1.mono hz0)
  have hl4 : (nameOffs n.kind).length ≤ 4 := nameOffs_le _
  have hln := names_len n
  have HLN := Lib.hid hln
  clear B0 hb0 hb1 hln
  go_wp2_with fail
  go_loopw [7, 47] (fun _ i wr => ∃ k, k ≤ (nameOffs n.kind).length ∧ i = .int .i64 k ∧ (n.names.take k).all nameMay = true ∧ Blk wr w.heap.size 24 (clr (ndArr n) ((nameOffs n.kind).take k) (.string (ba []))) ∧ RowAt wr (w.heap.size + 1) 153 A0 w.heap.size (nameOffs n.kind) ∧ Below w.heap.size w wr) (fun _ i _ => (nameOffs n.kind).length - (intOf i).toNat)
  case atStart => exact ⟨0, Nat.zero_le _, rfl, rfl, B1, fun h => (hrow0 h).imp fun g hg => ⟨hg.1, Nat.le_trans hxl0 hg.2.1, hg.2.2⟩, hb2⟩
  case round =>
    obtain ⟨k, hk, rfl, hall, hB, hR, hbr⟩ := hrel
    have HALL := Lib.hid hall
    clear hall
    by_cases hlt : k < (nameOffs n.kind).length
    · obtain ⟨g, rfl, hg1, hG⟩ := hR (by omega)
      have p1 := (hG.cell k).trans (ptrs_at _ _ k hlt)
      have hln' : k < n.names.length := by have := HLN.out; omega
      have p2 := (hB.cell _).trans (clr_name_at n k hlt hln')
      have p3 := hB.frozen (nameOffs n.kind)[k]
      obtain ⟨s, hs⟩ : ∃ s, n.names[k] = s := ⟨_, rfl⟩
      have hsz : (ba s).size ≤ maxLen := by
        rw [ba_size, ← hs]; exact hok _ (names_mem n _ (List.getElem_mem hln'))
      rw [hs] at p2
      have HS := Lib.hid hs
      clear hs
      have hgr := hg.below hbr
      cases hnm : nameMay s
      all_goals have HNM := Lib.hid hnm
      all_goals clear hnm
      · have HF := Lib.hid (show mayB n true = false by
          rw [HM.out]
          have : n.names.all nameMay = false := by
            rw [List.all_eq_false]
            exact ⟨s, by rw [← HS.out]; exact List.getElem_mem hln', by rw [HNM.out]; simp⟩
          rw [this]; rfl)
        go_wp2_with (go_at_call 62; refine (nameMay_any _ hsz _ hgr).mono ?_; rintro e w3 ⟨rfl, hb3⟩; rw [tl_ba, HNM.out])
        go_ret
        exact ⟨ret_bool HF.out.symm, hbr.trans (hb3.mono hbr.size)⟩
      · go_wp2_with (go_at_call 62; refine (nameMay_any _ hsz _ hgr).mono ?_; rintro e w3 ⟨rfl, hb3⟩; rw [tl_ba, HNM.out]
                     have B3 := hB.below hb3 hB.lt
                     have G3 := hG.below hb3 hG.lt
                     have q2 := (B3.cell (nameOffs n.kind)[k]).trans (clr_name_at n k hlt hln')
                     have q3 := B3.frozen (nameOffs n.kind)[k])
        go_roundw
        case rel =>
          refine ⟨k + 1, by omega, by go_num, ?_, by rw [clr_step _ _ _ k hlt]; exact B3.set_ _ _, fun _ => ⟨g, rfl, hg1, G3.far (by show g ≠ w.heap.size; omega) _⟩, (hbr.trans (hb3.mono hbr.size)).setCell (Nat.le_refl _) _⟩
          rw [List.take_succ_eq_append_getElem hln', List.all_append, HALL.out, HS.out]
          simp [HNM.out]
        case measure => simp [intOf]; omega
    · have hkl : k = (nameOffs n.kind).length := by omega
      subst hkl
      rw [List.take_length, clr_names] at hB
      obtain ⟨m, hm, hkm⟩ : ∃ m : Nd, m = n.noNames ∧ m.kind = n.kind := ⟨_, rfl, noNames_kind n⟩
      rw [← hm] at hB
      have HMM := Lib.hid (show mayB n true = isBare (m.noKids.noNum true) by
        rw [HM.out, hm]
        have : n.names.all nameMay = true := by
          have := HALL.out
          rwa [List.take_of_length_le (by rw [HLN.out]; exact Nat.le_refl _)] at this
        rw [this]; simp)
      have HK := Lib.hid hkm
      clear hm hkm hrow0 hR B1 hb2
      have B1 := hB
      have hb1 := hbr
      clear hB hbr
      go_wp2_with fail
      refine (kids_row m.kind _ _ (nd10 B1).1).mono ?_
      rintro e w2 ⟨A, rfl, hrow, hb2⟩
      have hz1 := hb1.size
      have hxl := B1.lt
      have B2 := B1.below hb2 hxl
      have hb3 := hb1.trans (hb2.mono hz1)
      rw [HK.out] at hrow ⊢
      obtain ⟨offs, hoffs⟩ : ∃ offs, kidOffs n.kind = offs := ⟨_, rfl⟩
      rw [hoffs] at hrow ⊢
      have hl3 : offs.length ≤ 3 := by rw [← hoffs]; exact kidOffs_le _
      have HO := Lib.hid hoffs
      clear hoffs B1 hb1 hb2
      go_wp2_with fail
      go_loopw [9, 61] (fun _ i wr => ∃ k, k ≤ offs.length ∧ i = .int .i64 k ∧ Blk wr w.heap.size 24 (clr (ndArr m) (offs.take k) (.int .i64 0)) ∧ RowAt wr (w.heap.size + 1) 104 A w.heap.size offs ∧ Below w.heap.size w wr) (fun _ i _ => offs.length - (intOf i).toNat)
      case atStart => exact ⟨0, Nat.zero_le _, rfl, B2, fun h => (hrow h).imp fun g hg => ⟨hg.1, Nat.le_trans hxl hg.2.1, hg.2.2⟩, hb3⟩
      case round =>
        obtain ⟨k, hk, rfl, hB, hR, hbr⟩ := hrel
        by_cases hlt : k < offs.length
        · obtain ⟨g, rfl, hg1, hG⟩ := hR (by omega)
          have p1 := (hG.cell k).trans (ptrs_at _ _ k hlt)
          obtain ⟨v, hv⟩ : ∃ v, (clr (ndArr m) (offs.take k) (.int .i64 0))[offs[k]]? = some v := by
            have ho : offs[k] ≤ 3 := (by have := HO.out; subst this; exact (kidOff_lt n.kind k hlt).2)
            rw [Array.getElem?_eq_getElem (by rw [clr_size]; show offs[k] < 10; omega)]
            exact ⟨_, rfl⟩
          have p2 := (hB.cell _).trans hv
          have p3 := hB.frozen offs[k]
          have HV := Lib.hid hv
          clear hv
          go_wp2_with fail
          go_roundw
          case rel => exact ⟨k + 1, by omega, by go_num, by rw [clr_step _ _ _ k hlt]; exact hB.set_ _ _, fun _ => ⟨g, rfl, hg1, hG.far (by show g ≠ w.heap.size; omega) _⟩, hbr.setCell (Nat.le_refl _) _⟩
          case measure => simp [intOf]; omega
        · have hkl : k = offs.length := by omega
          subst hkl
          rw [List.take_length, ← HO.out, ← HK.out, clr_kids] at hB
          obtain ⟨q, hq⟩ : ∃ q, m.noKids = q := ⟨_, rfl⟩
          rw [hq] at hB
          have HQ := Lib.hid hq
          clear hq hR hrow B2
          obtain ⟨c0, c1, c2, c3, c4, c5, c6, c7, c8, c9, hf⟩ := nd10 hB
          have E := eql_bare { q with num := 0 }
          dsimp only at E
          go_wp2_with fail
          go_ret
          refine ⟨ret_bool ?_, hbr.setCell (Nat.le_refl _) _⟩
          rw [HMM.out, ← HQ.out]
          unfold Nd.noNum
          rw [noKids_kind, HK.out, decide_eq_true m0]
          simp
theorem may_u0 (n : Nd) (w : World) (hg : G w) (k1 : ¬ n.kind < 0) (k2 : ¬ 10 < n.kind) (k3 : ¬ n.pos < 0) (k4 : ¬ 4096 < n.pos) (m0 : ¬ 0 ≤ mostN n.kind)
    (HM : Hid (mayB n false = ((!false || n.names.all nameMay) && isBare (((if false = true then n.noNames else n).noKids).noNum false)))) :
    Calls Tryd.prog 65 #[ndV n, .bool false] w fun e w' => e = .returned (.bool (mayB n false)) ∧ Below w.heap.size w w' := by
  have HMM := Lib.hid (show mayB n false = isBare (n.noKids.noNum false) by rw [HM.out]; simp)
  go_enter Tryd.func65, Tryd.ntmps65
  go_wp2_with (go_at_call 93; refine (most_any _ _).mono ?_; rintro e w2 ⟨rfl, hw2⟩; obtain rfl := hw2)
  have B1 : Blk (w.alloc (.cells (ndArr n) 24)) w.heap.size 24 (ndArr n) := Blk.new w _ _
  have hb1 : Below w.heap.size w (w.alloc (.cells (ndArr n) 24)) := (Below.refl _ _).alloc (Nat.le_refl _) _
  refine (kids_row n.kind _ _ (nd10 B1).1).mono ?_
  rintro e w2 ⟨A, rfl, hrow, hb2⟩
  have hz1 := hb1.size
  have hxl := B1.lt
  have B2 := B1.below hb2 hxl
  have hb3 := hb1.trans (hb2.mono hz1)
  skip
  obtain ⟨offs, hoffs⟩ : ∃ offs, kidOffs n.kind = offs := ⟨_, rfl⟩
  rw [hoffs] at hrow ⊢
  have hl3 : offs.length ≤ 3 := by rw [← hoffs]; exact kidOffs_le _
  have HO := Lib.hid hoffs
  clear hoffs B1 hb1 hb2
  go_wp2_with fail
  go_loopw [9, 61] (fun _ i wr => ∃ k, k ≤ offs.length ∧ i = .int .i64 k ∧ Blk wr w.heap.size 24 (clr (ndArr n) (offs.take k) (.int .i64 0)) ∧ RowAt wr (w.heap.size + 1) 104 A w.heap.size offs ∧ Below w.heap.size w wr) (fun _ i _ => offs.length - (intOf i).toNat)
  case atStart => exact ⟨0, Nat.zero_le _, rfl, B2, fun h => (hrow h).imp fun g hg => ⟨hg.1, Nat.le_trans hxl hg.2.1, hg.2.2⟩, hb3⟩
  case round =>
    obtain ⟨k, hk, rfl, hB, hR, hbr⟩ := hrel
    by_cases hlt : k < offs.length
    · obtain ⟨g, rfl, hg1, hG⟩ := hR (by omega)
      have p1 := (hG.cell k).trans (ptrs_at _ _ k hlt)
      obtain ⟨v, hv⟩ : ∃ v, (clr (ndArr n) (offs.take k) (.int .i64 0))[offs[k]]? = some v := by
        have ho : offs[k] ≤ 3 := (by have := HO.out; subst this; exact (kidOff_lt n.kind k hlt).2)
        rw [Array.getElem?_eq_getElem (by rw [clr_size]; show offs[k] < 10; omega)]
        exact ⟨_, rfl⟩
      have p2 := (hB.cell _).trans hv
      have p3 := hB.frozen offs[k]
      have HV := Lib.hid hv
      clear hv
      go_wp2_with fail
      go_roundw
      case rel => exact ⟨k + 1, by omega, by go_num, by rw [clr_step _ _ _ k hlt]; exact hB.set_ _ _, fun _ => ⟨g, rfl, hg1, hG.far (by show g ≠ w.heap.size; omega) _⟩, hbr.setCell (Nat.le_refl _) _⟩
      case measure => simp [intOf]; omega
    · have hkl : k = offs.length := by omega
      subst hkl
      rw [List.take_length, ← HO.out, clr_kids] at hB
      obtain ⟨q, hq⟩ : ∃ q, n.noKids = q := ⟨_, rfl⟩
      rw [hq] at hB
      have HQ := Lib.hid hq
      clear hq hR hrow B2
      obtain ⟨c0, c1, c2, c3, c4, c5, c6, c7, c8, c9, hf⟩ := nd10 hB
      cases hnum : numbered q.kind
      all_goals have HNU := Lib.hid hnum
      all_goals clear hnum
      · have E := eql_bare q
        go_wp2_with (go_at_call 67; refine (numbered_any _ _).mono ?_; rintro e w5 ⟨rfl, hw5⟩; obtain rfl := hw5; rw [HNU.out])
        go_ret
        refine ⟨ret_bool ?_, hbr⟩
        have hn' := HNU.out
        rw [← HQ.out, noKids_kind] at hn'
        rw [HMM.out, ← HQ.out]
        unfold Nd.noNum
        rw [noKids_kind, hn', decide_eq_false (by omega)]
        simp
      · have E := eql_bare { q with num := 0 }
        dsimp only at E
        go_wp2_with (go_at_call 67; refine (numbered_any _ _).mono ?_; rintro e w5 ⟨rfl, hw5⟩; obtain rfl := hw5; rw [HNU.out])
        go_ret
        refine ⟨ret_bool ?_, hbr.setCell (Nat.le_refl _) _⟩
        have hn' := HNU.out
        rw [← HQ.out, noKids_kind] at hn'
        rw [HMM.out, ← HQ.out]
        unfold Nd.noNum
        rw [noKids_kind, hn', decide_eq_false (by omega)]
        simp
theorem may_n0 (n : Nd) (hok : NdOk n) (w : World) (hg : G w) (k1 : ¬ n.kind < 0) (k2 : ¬ 10 < n.kind) (k3 : ¬ n.pos < 0) (k4 : ¬ 4096 < n.pos) (m0 : ¬ 0 ≤ mostN n.kind)
    (HM : Hid (mayB n true = ((!true || n.names.all nameMay) && isBare (((if true = true then n.noNames else n).noKids).noNum true)))) :
    Calls Tryd.prog 65 #[ndV n, .bool true] w fun e w' => e = .returned (.bool (mayB n true)) ∧ Below w.heap.size w w' := by
  have HK0 := Lib.hid (noNames_kind n)
  go_enter Tryd.func65, Tryd.ntmps65
  go_wp2_with (go_at_call 93; refine (most_any _ _).mono ?_; rintro e w2 ⟨rfl, hw2⟩; obtain rfl := hw2)
  have B0 : Blk (w.alloc (.cells (ndArr n) 24)) w.heap.size 24 (ndArr n) := Blk.new w _ _
  have hb0 : Below w.heap.size w (w.alloc (.cells (ndArr n) 24)) := (Below.refl _ _).alloc (Nat.le_refl _) _
  refine (names_row n.kind _ _ (nd10 B0).1).mono ?_
  rintro e w1 ⟨A0, rfl, hrow0, hb1⟩
  have hz0 := hb0.size
  have hxl0 := B0.lt
  have B1 := B0.below hb1 hxl0
  have hb2 := hb0.trans (hb1.mono hz0)
  have hl4 : (nameOffs n.kind).length ≤ 4 := nameOffs_le _
  have hln := names_len n
  have HLN := Lib.hid hln
  clear B0 hb0 hb1 hln
  go_wp2_with fail
  go_loopw [7, 47] (fun _ i wr => ∃ k, k ≤ (nameOffs n.kind).length ∧ i = .int .i64 k ∧ (n.names.take k).all nameMay = true ∧ Blk wr w.heap.size 24 (clr (ndArr n) ((nameOffs n.kind).take k) (.string (ba []))) ∧ RowAt wr (w.heap.size + 1) 153 A0 w.heap.size (nameOffs n.kind) ∧ Below w.heap.size w wr) (fun _ i _ => (nameOffs n.kind).length - (intOf i).toNat)
  case atStart => exact ⟨0, Nat.zero_le _, rfl, rfl, B1, fun h => (hrow0 h).imp fun g hg => ⟨hg.1, Nat.le_trans hxl0 hg.2.1, hg.2.2⟩, hb2⟩
  case round =>
    obtain ⟨k, hk, rfl, hall, hB, hR, hbr⟩ := hrel
    have HALL := Lib.hid hall
    clear hall
    by_cases hlt : k < (nameOffs n.kind).length
    · obtain ⟨g, rfl, hg1, hG⟩ := hR (by omega)
      have p1 := (hG.cell k).trans (ptrs_at _ _ k hlt)
      have hln' : k < n.names.length := by have := HLN.out; omega
      have p2 := (hB.cell _).trans (clr_name_at n k hlt hln')
      have p3 := hB.frozen (nameOffs n.kind)[k]
      obtain ⟨s, hs⟩ : ∃ s, n.names[k] = s := ⟨_, rfl⟩
      have hsz : (ba s).size ≤ maxLen := by
        rw [ba_size, ← hs]; exact hok _ (names_mem n _ (List.getElem_mem hln'))
      rw [hs] at p2
      have HS := Lib.hid hs
      clear hs
      have hgr := hg.below hbr
      cases hnm : nameMay s
      all_goals have HNM := Lib.hid hnm
      all_goals clear hnm
      · have HF := Lib.hid (show mayB n true = false by
          rw [HM.out]
          have : n.names.all nameMay = false := by
            rw [List.all_eq_false]
            exact ⟨s, by rw [← HS.out]; exact List.getElem_mem hln', by rw [HNM.out]; simp⟩
          rw [this]; rfl)
        go_wp2_with (go_at_call 62; refine (nameMay_any _ hsz _ hgr).mono ?_; rintro e w3 ⟨rfl, hb3⟩; rw [tl_ba, HNM.out])
        go_ret
        exact ⟨ret_bool HF.out.symm, hbr.trans (hb3.mono hbr.size)⟩
      · go_wp2_with (go_at_call 62; refine (nameMay_any _ hsz _ hgr).mono ?_; rintro e w3 ⟨rfl, hb3⟩; rw [tl_ba, HNM.out]
                     have B3 := hB.below hb3 hB.lt
                     have G3 := hG.below hb3 hG.lt
                     have q2 := (B3.cell (nameOffs n.kind)[k]).trans (clr_name_at n k hlt hln')
                     have q3 := B3.frozen (nameOffs n.kind)[k])
        go_roundw
        case rel =>
          refine ⟨k + 1, by omega, by go_num, ?_, by rw [clr_step _ _ _ k hlt]; exact B3.set_ _ _, fun _ => ⟨g, rfl, hg1, G3.far (by show g ≠ w.heap.size; omega) _⟩, (hbr.trans (hb3.mono hbr.size)).setCell (Nat.le_refl _) _⟩
          rw [List.take_succ_eq_append_getElem hln', List.all_append, HALL.out, HS.out]
          simp [HNM.out]
        case measure => simp [intOf]; omega
    · have hkl : k = (nameOffs n.kind).length := by omega
      subst hkl
      rw [List.take_length, clr_names] at hB
      obtain ⟨m, hm, hkm⟩ : ∃ m : Nd, m = n.noNames ∧ m.kind = n.kind := ⟨_, rfl, noNames_kind n⟩
      rw [← hm] at hB
      have HMM := Lib.hid (show mayB n true = isBare (m.noKids.noNum true) by
        rw [HM.out, hm]
        have : n.names.all nameMay = true := by
          have := HALL.out
          rwa [List.take_of_length_le (by rw [HLN.out]; exact Nat.le_refl _)] at this
        rw [this]; simp)
      have HK := Lib.hid hkm
      clear hm hkm hrow0 hR B1 hb2
      have B1 := hB
      have hb1 := hbr
      clear hB hbr
      go_wp2_with fail
      refine (kids_row m.kind _ _ (nd10 B1).1).mono ?_
      rintro e w2 ⟨A, rfl, hrow, hb2⟩
      have hz1 := hb1.size
      have hxl := B1.lt
      have B2 := B1.below hb2 hxl
      have hb3 := hb1.trans (hb2.mono hz1)
      rw [HK.out] at hrow ⊢
      obtain ⟨offs, hoffs⟩ : ∃ offs, kidOffs n.kind = offs := ⟨_, rfl⟩
      rw [hoffs] at hrow ⊢
      have hl3 : offs.length ≤ 3 := by rw [← hoffs]; exact kidOffs_le _
      have HO := Lib.hid hoffs
      clear hoffs B1 hb1 hb2
      go_wp2_with fail
      go_loopw [9, 61] (fun _ i wr => ∃ k, k ≤ offs.length ∧ i = .int .i64 k ∧ Blk wr w.heap.size 24 (clr (ndArr m) (offs.take k) (.int .i64 0)) ∧ RowAt wr (w.heap.size + 1) 104 A w.heap.size offs ∧ Below w.heap.size w wr) (fun _ i _ => offs.length - (intOf i).toNat)
      case atStart => exact ⟨0, Nat.zero_le _, rfl, B2, fun h => (hrow h).imp fun g hg => ⟨hg.1, Nat.le_trans hxl hg.2.1, hg.2.2⟩, hb3⟩
      case round =>
        obtain ⟨k, hk, rfl, hB, hR, hbr⟩ := hrel
        by_cases hlt : k < offs.length
        · obtain ⟨g, rfl, hg1, hG⟩ := hR (by omega)
          have p1 := (hG.cell k).trans (ptrs_at _ _ k hlt)
          obtain ⟨v, hv⟩ : ∃ v, (clr (ndArr m) (offs.take k) (.int .i64 0))[offs[k]]? = some v := by
            have ho : offs[k] ≤ 3 := (by have := HO.out; subst this; exact (kidOff_lt n.kind k hlt).2)
            rw [Array.getElem?_eq_getElem (by rw [clr_size]; show offs[k] < 10; omega)]
            exact ⟨_, rfl⟩
          have p2 := (hB.cell _).trans hv
          have p3 := hB.frozen offs[k]
          have HV := Lib.hid hv
          clear hv
          go_wp2_with fail
          go_roundw
          case rel => exact ⟨k + 1, by omega, by go_num, by rw [clr_step _ _ _ k hlt]; exact hB.set_ _ _, fun _ => ⟨g, rfl, hg1, hG.far (by show g ≠ w.heap.size; omega) _⟩, hbr.setCell (Nat.le_refl _) _⟩
          case measure => simp [intOf]; omega
        · have hkl : k = offs.length := by omega
          subst hkl
          rw [List.take_length, ← HO.out, ← HK.out, clr_kids] at hB
          obtain ⟨q, hq⟩ : ∃ q, m.noKids = q := ⟨_, rfl⟩
          rw [hq] at hB
          have HQ := Lib.hid hq
          clear hq hR hrow B2
          obtain ⟨c0, c1, c2, c3, c4, c5, c6, c7, c8, c9, hf⟩ := nd10 hB
          have E := eql_bare q
          go_wp2_with fail
          go_ret
          refine ⟨ret_bool ?_, hbr⟩
          rw [HMM.out, ← HQ.out]
          unfold Nd.noNum
          rw [noKids_kind, HK.out, decide_eq_false (by omega)]
          simp
end Go.Proofs.YtiflfnnnbgmomaaDoor
