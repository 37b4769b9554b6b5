/- The walk of scope.within. -/
import Derived.Test.YtiflfnnnbgmomaaDoorScopeJ
namespace Go.Proofs.YtiflfnnnbgmomaaDoor
open Go.RowKit
set_option maxHeartbeats 2000000
set_option maxRecDepth 100000
attribute [local go_sem ↓] Go.wp_at_zero Go.wp_at_succ

def WithinLaw (p : Pg) (A : Option Addr) (c : Nat) (A' : Option Addr) (c' : Nat) (f : Nat) : Prop := ∀ (a names b : Nat) (w : World), Fits p.nodes f a → names + 2 * f ≤ 1000000 →
  Blk w b 31 #[.slice A p.ops.length c, .slice A' p.nodes.length c'] → PgAt w w.heap.size A A' p →
  Calls Tryd.prog 43 #[.pointer (some ⟨b, 0, none⟩), .int .i64 (a : Int), .int .i64 (names : Int)] w fun e w' => e = .returned (.bool (withinB p f a names)) ∧ Below w.heap.size w w'
def withinRest (p : Pg) (f : Nat) (x : Nd) (names : Nat) : Bool := withinKids (withinB p f) x names 0 x.kids
theorem withinB_succ (p : Pg) (f : Nat) (a : Int) (names : Nat) : withinB p (f + 1) a names =
    let x := p.nodes.getD a.toNat default
    let most : Int := if x.kind = 0 then names else p.ops.length
    if numbered x.kind && (decide (x.num < 0) || decide (most ≤ x.num)) then false else withinRest p f x names := rfl
theorem withinKids_cons (g : Int → Nat → Bool) (x : Nd) (names i : Nat) (k : Int) (r : List Int) : withinKids g x names i (k :: r) = if g k (names + bindsN x.kind i) then withinKids g x names (i + 1) r else false := rfl

theorem within_step (p : Pg) (A : Option Addr) (c : Nat) (A' : Option Addr) (c' : Nat) (hol : p.ops.length ≤ 1000000) (hnl : p.nodes.length ≤ 1000000) (f : Nat) (ih : WithinLaw p A c A' c' f) : WithinLaw p A c A' c' (f + 1) := by
  intro a names b w hF hnm hB hA
  unfold WithinLaw at ih
  obtain ⟨ha0, ha1, hkids⟩ := hF
  rw [Int.toNat_natCast] at hkids
  have ha : a < p.nodes.length := by omega
  obtain ⟨x, hxx⟩ : ∃ x, p.nodes.getD a default = x := ⟨_, rfl⟩
  have hsucc := withinB_succ p f (a : Int) names
  rw [Int.toNat_natCast, hxx] at hsucc
  rw [hxx] at hkids
  have hx : p.nodes[a] = x := by rw [← hxx, List.getD_eq_getElem?_getD, List.getElem?_eq_getElem ha]; rfl
  obtain ⟨nb, off, rfl, hnb, hc⟩ := hA.nodes (by omega)
  have hca := hc a ha
  rw [hx] at hca
  obtain ⟨e0, e1, e2, e3, e4, e5, e6, e7, e8, e9⟩ := hca
  have HA := Lib.hid hA
  have HB := Lib.hid hB
  have HK := Lib.hid hkids
  have IH := Lib.hid ih
  have HL := Lib.hid (kidOffs_len x)
  obtain ⟨b0, b1, _⟩ := hB.c2
  have hblt := hB.lt
  have T1 := Blk.new w 24 (ndArr x)
  obtain ⟨d0, d1, d2, d3, d4, d5, d6, d7, d8, d9, _⟩ := nd10 T1
  have HT1 := Lib.hid T1
  have hb1 : Below w.heap.size w (w.alloc (.cells (ndArr x) 24)) := (Below.refl _ _).alloc (Nat.le_refl _) _
  have HB1 := Lib.hid hb1
  unfold ndArr at d0 d1 d2 d3 d4 d5 d6 d7 d8 d9
  clear hx hxx hc hA hB hkids ih T1 hb1
  have key : (((x.kind == 0) = true ∧ numbered x.kind = true ∧ withinB p (f + 1) a names = (if decide (x.num < 0) || decide ((names : Int) ≤ x.num) then false else withinRest p f x names)) ∨
      ((x.kind == 0) = false ∧ numbered x.kind = true ∧ withinB p (f + 1) a names = (if decide (x.num < 0) || decide ((p.ops.length : Int) ≤ x.num) then false else withinRest p f x names))) ∨
      ((x.kind == 0) = false ∧ numbered x.kind = false ∧ withinB p (f + 1) a names = withinRest p f x names) := by
    by_cases h0 : x.kind = 0
    · exact .inl (.inl ⟨by simpa using h0, by rw [h0]; rfl, by rw [hsucc]; simp only [h0]; rfl⟩)
    · cases hn : numbered x.kind with
      | true => exact .inl (.inr ⟨by simpa using h0, rfl, by rw [hsucc]; simp only [h0, hn, if_false, Bool.true_and]⟩)
      | false => exact .inr ⟨by simpa using h0, rfl, by rw [hsucc]; simp only [hn, Bool.false_and]; rfl⟩
  clear hsucc
  rcases key with (⟨k0, hnum, hv⟩ | ⟨k0, hnum, hv⟩) | ⟨k0, hnum, hv⟩
  all_goals have HN := Lib.hid hnum
  all_goals clear hnum
  · by_cases h1 : x.num < 0
    · have HV := Lib.hid (show withinB p (f + 1) a names = false by rw [hv]; simp [h1])
      clear hv
      go_enter Tryd.func43, Tryd.ntmps43
      go_wp2_with (go_at_call 67; refine (numbered_any _ _).mono ?_; rintro e w4 ⟨rfl, hw4⟩; obtain rfl := hw4; rw [HN.out])
      go_ret
      exact ⟨ret_bool HV.out.symm, HB1.out⟩
    by_cases h2 : (names : Int) ≤ x.num
    · have HV := Lib.hid (show withinB p (f + 1) a names = false by rw [hv]; simp [h2])
      clear hv
      go_enter Tryd.func43, Tryd.ntmps43
      go_wp2_with (go_at_call 67; refine (numbered_any _ _).mono ?_; rintro e w4 ⟨rfl, hw4⟩; obtain rfl := hw4; rw [HN.out])
      go_ret
      exact ⟨ret_bool HV.out.symm, HB1.out⟩
    have HV := Lib.hid (show withinB p (f + 1) a names = withinKids (withinB p f) x names 0 (x.kids.drop 0) by rw [hv]; simp [h1, h2, withinRest])
    clear hv
    go_enter Tryd.func43, Tryd.ntmps43
    go_wp2_with (go_at_call 67; refine (numbered_any _ _).mono ?_; rintro e w4 ⟨rfl, hw4⟩; obtain rfl := hw4; rw [HN.out])
    refine (kids_row x.kind _ _ d0).mono ?_
    rintro e w7 ⟨A7, rfl, hrow7, hb7⟩
    have HR7 := Lib.hid (show RowAt w7 (w.heap.size + 1) 104 A7 w.heap.size (kidOffs x.kind) from RowAt.le hrow7 (by simp))
    have HC7 := Lib.hid (HT1.out.below hb7 HT1.out.lt)
    have HB7 := Lib.hid (HB1.out.trans (hb7.mono HB1.out.size))
    clear hrow7 hb7 d0 d1 d2 d3 d4 d5 d6 d7 d8 d9
    go_wp2_with fail
    go_loopw [9, 10, 43] (fun _ _ i wr => ∃ k : Nat, k ≤ (kidOffs x.kind).length ∧ i = .int .i64 k ∧ withinB p (f + 1) a names = withinKids (withinB p f) x names k (x.kids.drop k) ∧ Blk wr w.heap.size 24 (ndArr x) ∧ RowAt wr (w.heap.size + 1) 104 A7 w.heap.size (kidOffs x.kind) ∧ Below w.heap.size w wr) (fun _ _ i _ => (kidOffs x.kind).length - (intOf i).toNat)
    case atStart => exact ⟨0, Nat.zero_le _, rfl, HV.out, HC7.out, HR7.out, HB7.out⟩
    case round =>
      obtain ⟨k, hk, rfl, hr, hC, hrow, hbr⟩ := hrel
      have HR := Lib.hid hr
      have HC := Lib.hid hC
      have HBR := Lib.hid hbr
      have hzr : w.heap.size < wr.heap.size := hC.lt
      obtain ⟨d0, _⟩ := nd10 hC
      clear hr hC hbr
      by_cases hlt : k < (kidOffs x.kind).length
      · have hlk : k < x.kids.length := by rw [← HL.out]; exact hlt
        obtain ⟨g, rfl, hg, hG⟩ := hrow (Nat.lt_of_le_of_lt (Nat.zero_le _) hlt)
        have p1 := (hG.cell k).trans (ptrs_at _ _ k hlt)
        have p2 := (HC.out.cell _).trans (kid_at0 x k hlt hlk)
        obtain ⟨o, ho⟩ : ∃ o, (kidOffs x.kind)[k] = o := ⟨_, rfl⟩
        rw [ho] at p1 p2
        have HFK := HK.out x.kids[k] (List.getElem_mem hlk)
        have hdr := List.drop_eq_getElem_cons hlk
        obtain ⟨kv, hkv⟩ : ∃ kv, x.kids[k] = kv := ⟨_, rfl⟩
        rw [hkv] at p2 HFK hdr
        obtain ⟨m, rfl⟩ : ∃ m : Nat, kv = (m : Int) := ⟨kv.toNat, by cases f with | zero => exact HFK.elim | succ f => have := HFK.1; omega⟩
        have HFM := Lib.hid HFK
        have HDR := Lib.hid hdr
        have hk2 : k ≤ 2 := by have := kidOffs_le x.kind; omega
        have HGG := Lib.hid hG
        obtain ⟨q, hq⟩ : ∃ q, bindsN x.kind k = q := ⟨_, rfl⟩
        have hq2 : q ≤ 2 := by rw [← hq]; exact bindsN_le _ _
        have HQ := Lib.hid hq
        clear ho hkv HFK hdr hG hrow hlk hq
        have ix : ∀ w, (Instr.index 121 (.agg #[.int .i64 (bindsN x.kind 0 : Int), .int .i64 (bindsN x.kind 1 : Int), .int .i64 (bindsN x.kind 2 : Int)]) (.int .i64 (k : Int))).run Tryd.prog w = .ok (.int .i64 (q : Int)) w := by
          intro w
          rw [idx121 k hk2, ← HQ.out]
          match k, hk2 with
          | 0, _ => rfl
          | 1, _ => rfl
          | 2, _ => rfl
        have NM : Hid (∀ w, Blk w b 31 #[.slice A p.ops.length c, .slice (some ⟨nb, off, none⟩) p.nodes.length c'] → PgAt w w.heap.size A (some ⟨nb, off, none⟩) p →
            Calls Tryd.prog 43 #[.pointer (some ⟨b, 0, none⟩), .int .i64 (m : Int), .int .i64 ((names : Int) + (q : Int))] w fun e w' => e = .returned (.bool (withinB p f m (names + q))) ∧ Below w.heap.size w w') := fun w h1 h2 => by
          have := IH.out m (names + q) b w HFM.out (by omega) h1 h2
          rwa [show ((names + q : Nat) : Int) = (names : Int) + (q : Int) by omega] at this
        have hsum : IntKind.i64.wrap ((names : Int) + (q : Int)) = (names : Int) + (q : Int) := IntWalk.i64_in _ (by omega)
        go_wp2_with fail
        cases hres : withinB p f m (names + q)
        all_goals have HRES := Lib.hid hres
        all_goals clear hres
        · have HF := Lib.hid (show withinB p (f + 1) a names = false by
            rw [HR.out, HDR.out, withinKids_cons, HQ.out, HRES.out]; rfl)
          go_region_with (first
            | (go_at_call 68; refine (binds_any _ _).mono ?_; rintro e w5 ⟨rfl, hb5⟩
               have q5 := (hb5.cell (p := ⟨w.heap.size, o, none⟩) hzr).trans p2
               have HB5 := Lib.hid (HBR.out.drew.trans (hb5.mono HBR.out.size))
               have HP5 := Lib.hid (HB.out.below HB5.out hblt)
               have HA5 := Lib.hid (HA.out.below HB5.out))
            | (go_at_call 43; refine (NM.out _ HP5.out HA5.out).mono ?_; rw [HRES.out]; rintro e w6 ⟨rfl, hb6⟩
               have HB6 := Lib.hid (HB5.out.trans (hb6.mono HB5.out.size))))
          all_goals
            go_wp2_with fail
            go_ret
            exact ⟨ret_bool HF.out.symm, HB6.out⟩
        · have HF := Lib.hid (show withinB p (f + 1) a names = withinKids (withinB p f) x names (k + 1) (x.kids.drop (k + 1)) by
            rw [HR.out, HDR.out, withinKids_cons, HQ.out, HRES.out]; rfl)
          go_region_with (first
            | (go_at_call 68; refine (binds_any _ _).mono ?_; rintro e w5 ⟨rfl, hb5⟩
               have q5 := (hb5.cell (p := ⟨w.heap.size, o, none⟩) hzr).trans p2
               have HB5 := Lib.hid (HBR.out.drew.trans (hb5.mono HBR.out.size))
               have HC5 := Lib.hid (HC.out.drew.below hb5 HC.out.lt)
               have HG5 := Lib.hid (HGG.out.drew.below hb5 HGG.out.lt)
               have HP5 := Lib.hid (HB.out.below HB5.out hblt)
               have HA5 := Lib.hid (HA.out.below HB5.out))
            | (go_at_call 43; refine (NM.out _ HP5.out HA5.out).mono ?_; rw [HRES.out]; rintro e w6 ⟨rfl, hb6⟩
               have HB6 := Lib.hid (HB5.out.trans (hb6.mono HB5.out.size))
               have HC6 := Lib.hid (HC5.out.below hb6 HC5.out.lt)
               have HG6 := Lib.hid (HG5.out.below hb6 HG5.out.lt)))
          all_goals
            go_wp2_with fail
            go_roundw
            case rel => exact ⟨k + 1, by omega, by go_num, HF.out, HC6.out, fun _ => ⟨g, rfl, hg, HG6.out⟩, HB6.out⟩
            case measure => simp [intOf]; omega
      · have HF := Lib.hid (show withinB p (f + 1) a names = true by
          rw [HR.out, List.drop_of_length_le (by rw [← HL.out]; omega)]; rfl)
        go_wp2_with fail
        go_ret
        exact ⟨ret_bool HF.out.symm, HBR.out⟩
  · by_cases h1 : x.num < 0
    · have HV := Lib.hid (show withinB p (f + 1) a names = false by rw [hv]; simp [h1])
      clear hv
      go_enter Tryd.func43, Tryd.ntmps43
      go_wp2_with (go_at_call 67; refine (numbered_any _ _).mono ?_; rintro e w4 ⟨rfl, hw4⟩; obtain rfl := hw4; rw [HN.out])
      go_ret
      exact ⟨ret_bool HV.out.symm, HB1.out⟩
    by_cases h2 : (p.ops.length : Int) ≤ x.num
    · have HV := Lib.hid (show withinB p (f + 1) a names = false by rw [hv]; simp [h2])
      clear hv
      go_enter Tryd.func43, Tryd.ntmps43
      go_wp2_with (go_at_call 67; refine (numbered_any _ _).mono ?_; rintro e w4 ⟨rfl, hw4⟩; obtain rfl := hw4; rw [HN.out])
      go_ret
      exact ⟨ret_bool HV.out.symm, HB1.out⟩
    have HV := Lib.hid (show withinB p (f + 1) a names = withinKids (withinB p f) x names 0 (x.kids.drop 0) by rw [hv]; simp [h1, h2, withinRest])
    clear hv
    go_enter Tryd.func43, Tryd.ntmps43
    go_wp2_with (go_at_call 67; refine (numbered_any _ _).mono ?_; rintro e w4 ⟨rfl, hw4⟩; obtain rfl := hw4; rw [HN.out])
    refine (kids_row x.kind _ _ d0).mono ?_
    rintro e w7 ⟨A7, rfl, hrow7, hb7⟩
    have HR7 := Lib.hid (show RowAt w7 (w.heap.size + 1) 104 A7 w.heap.size (kidOffs x.kind) from RowAt.le hrow7 (by simp))
    have HC7 := Lib.hid (HT1.out.below hb7 HT1.out.lt)
    have HB7 := Lib.hid (HB1.out.trans (hb7.mono HB1.out.size))
    clear hrow7 hb7 d0 d1 d2 d3 d4 d5 d6 d7 d8 d9
    go_wp2_with fail
    go_loopw [9, 10, 43] (fun _ _ i wr => ∃ k : Nat, k ≤ (kidOffs x.kind).length ∧ i = .int .i64 k ∧ withinB p (f + 1) a names = withinKids (withinB p f) x names k (x.kids.drop k) ∧ Blk wr w.heap.size 24 (ndArr x) ∧ RowAt wr (w.heap.size + 1) 104 A7 w.heap.size (kidOffs x.kind) ∧ Below w.heap.size w wr) (fun _ _ i _ => (kidOffs x.kind).length - (intOf i).toNat)
    case atStart => exact ⟨0, Nat.zero_le _, rfl, HV.out, HC7.out, HR7.out, HB7.out⟩
    case round =>
      obtain ⟨k, hk, rfl, hr, hC, hrow, hbr⟩ := hrel
      have HR := Lib.hid hr
      have HC := Lib.hid hC
      have HBR := Lib.hid hbr
      have hzr : w.heap.size < wr.heap.size := hC.lt
      obtain ⟨d0, _⟩ := nd10 hC
      clear hr hC hbr
      by_cases hlt : k < (kidOffs x.kind).length
      · have hlk : k < x.kids.length := by rw [← HL.out]; exact hlt
        obtain ⟨g, rfl, hg, hG⟩ := hrow (Nat.lt_of_le_of_lt (Nat.zero_le _) hlt)
        have p1 := (hG.cell k).trans (ptrs_at _ _ k hlt)
        have p2 := (HC.out.cell _).trans (kid_at0 x k hlt hlk)
        obtain ⟨o, ho⟩ : ∃ o, (kidOffs x.kind)[k] = o := ⟨_, rfl⟩
        rw [ho] at p1 p2
        have HFK := HK.out x.kids[k] (List.getElem_mem hlk)
        have hdr := List.drop_eq_getElem_cons hlk
        obtain ⟨kv, hkv⟩ : ∃ kv, x.kids[k] = kv := ⟨_, rfl⟩
        rw [hkv] at p2 HFK hdr
        obtain ⟨m, rfl⟩ : ∃ m : Nat, kv = (m : Int) := ⟨kv.toNat, by cases f with | zero => exact HFK.elim | succ f => have := HFK.1; omega⟩
        have HFM := Lib.hid HFK
        have HDR := Lib.hid hdr
        have hk2 : k ≤ 2 := by have := kidOffs_le x.kind; omega
        have HGG := Lib.hid hG
        obtain ⟨q, hq⟩ : ∃ q, bindsN x.kind k = q := ⟨_, rfl⟩
        have hq2 : q ≤ 2 := by rw [← hq]; exact bindsN_le _ _
        have HQ := Lib.hid hq
        clear ho hkv HFK hdr hG hrow hlk hq
        have ix : ∀ w, (Instr.index 121 (.agg #[.int .i64 (bindsN x.kind 0 : Int), .int .i64 (bindsN x.kind 1 : Int), .int .i64 (bindsN x.kind 2 : Int)]) (.int .i64 (k : Int))).run Tryd.prog w = .ok (.int .i64 (q : Int)) w := by
          intro w
          rw [idx121 k hk2, ← HQ.out]
          match k, hk2 with
          | 0, _ => rfl
          | 1, _ => rfl
          | 2, _ => rfl
        have NM : Hid (∀ w, Blk w b 31 #[.slice A p.ops.length c, .slice (some ⟨nb, off, none⟩) p.nodes.length c'] → PgAt w w.heap.size A (some ⟨nb, off, none⟩) p →
            Calls Tryd.prog 43 #[.pointer (some ⟨b, 0, none⟩), .int .i64 (m : Int), .int .i64 ((names : Int) + (q : Int))] w fun e w' => e = .returned (.bool (withinB p f m (names + q))) ∧ Below w.heap.size w w') := fun w h1 h2 => by
          have := IH.out m (names + q) b w HFM.out (by omega) h1 h2
          rwa [show ((names + q : Nat) : Int) = (names : Int) + (q : Int) by omega] at this
        have hsum : IntKind.i64.wrap ((names : Int) + (q : Int)) = (names : Int) + (q : Int) := IntWalk.i64_in _ (by omega)
        go_wp2_with fail
        cases hres : withinB p f m (names + q)
        all_goals have HRES := Lib.hid hres
        all_goals clear hres
        · have HF := Lib.hid (show withinB p (f + 1) a names = false by
            rw [HR.out, HDR.out, withinKids_cons, HQ.out, HRES.out]; rfl)
          go_region_with (first
            | (go_at_call 68; refine (binds_any _ _).mono ?_; rintro e w5 ⟨rfl, hb5⟩
               have q5 := (hb5.cell (p := ⟨w.heap.size, o, none⟩) hzr).trans p2
               have HB5 := Lib.hid (HBR.out.drew.trans (hb5.mono HBR.out.size))
               have HP5 := Lib.hid (HB.out.below HB5.out hblt)
               have HA5 := Lib.hid (HA.out.below HB5.out))
            | (go_at_call 43; refine (NM.out _ HP5.out HA5.out).mono ?_; rw [HRES.out]; rintro e w6 ⟨rfl, hb6⟩
               have HB6 := Lib.hid (HB5.out.trans (hb6.mono HB5.out.size))))
          all_goals
            go_wp2_with fail
            go_ret
            exact ⟨ret_bool HF.out.symm, HB6.out⟩
        · have HF := Lib.hid (show withinB p (f + 1) a names = withinKids (withinB p f) x names (k + 1) (x.kids.drop (k + 1)) by
            rw [HR.out, HDR.out, withinKids_cons, HQ.out, HRES.out]; rfl)
          go_region_with (first
            | (go_at_call 68; refine (binds_any _ _).mono ?_; rintro e w5 ⟨rfl, hb5⟩
               have q5 := (hb5.cell (p := ⟨w.heap.size, o, none⟩) hzr).trans p2
               have HB5 := Lib.hid (HBR.out.drew.trans (hb5.mono HBR.out.size))
               have HC5 := Lib.hid (HC.out.drew.below hb5 HC.out.lt)
               have HG5 := Lib.hid (HGG.out.drew.below hb5 HGG.out.lt)
               have HP5 := Lib.hid (HB.out.below HB5.out hblt)
               have HA5 := Lib.hid (HA.out.below HB5.out))
            | (go_at_call 43; refine (NM.out _ HP5.out HA5.out).mono ?_; rw [HRES.out]; rintro e w6 ⟨rfl, hb6⟩
               have HB6 := Lib.hid (HB5.out.trans (hb6.mono HB5.out.size))
               have HC6 := Lib.hid (HC5.out.below hb6 HC5.out.lt)
               have HG6 := Lib.hid (HG5.out.below hb6 HG5.out.lt)))
          all_goals
            go_wp2_with fail
            go_roundw
            case rel => exact ⟨k + 1, by omega, by go_num, HF.out, HC6.out, fun _ => ⟨g, rfl, hg, HG6.out⟩, HB6.out⟩
            case measure => simp [intOf]; omega
      · have HF := Lib.hid (show withinB p (f + 1) a names = true by
          rw [HR.out, List.drop_of_length_le (by rw [← HL.out]; omega)]; rfl)
        go_wp2_with fail
        go_ret
        exact ⟨ret_bool HF.out.symm, HBR.out⟩
  · have HV := Lib.hid (show withinB p (f + 1) a names = withinKids (withinB p f) x names 0 (x.kids.drop 0) by rw [hv]; simp [withinRest])
    clear hv
    go_enter Tryd.func43, Tryd.ntmps43
    go_wp2_with (go_at_call 67; refine (numbered_any _ _).mono ?_; rintro e w4 ⟨rfl, hw4⟩; obtain rfl := hw4; rw [HN.out])
    refine (kids_row x.kind _ _ d0).mono ?_
    rintro e w7 ⟨A7, rfl, hrow7, hb7⟩
    have HR7 := Lib.hid (show RowAt w7 (w.heap.size + 1) 104 A7 w.heap.size (kidOffs x.kind) from RowAt.le hrow7 (by simp))
    have HC7 := Lib.hid (HT1.out.below hb7 HT1.out.lt)
    have HB7 := Lib.hid (HB1.out.trans (hb7.mono HB1.out.size))
    clear hrow7 hb7 d0 d1 d2 d3 d4 d5 d6 d7 d8 d9
    go_wp2_with fail
    go_loopw [9, 10, 43] (fun _ _ i wr => ∃ k : Nat, k ≤ (kidOffs x.kind).length ∧ i = .int .i64 k ∧ withinB p (f + 1) a names = withinKids (withinB p f) x names k (x.kids.drop k) ∧ Blk wr w.heap.size 24 (ndArr x) ∧ RowAt wr (w.heap.size + 1) 104 A7 w.heap.size (kidOffs x.kind) ∧ Below w.heap.size w wr) (fun _ _ i _ => (kidOffs x.kind).length - (intOf i).toNat)
    case atStart => exact ⟨0, Nat.zero_le _, rfl, HV.out, HC7.out, HR7.out, HB7.out⟩
    case round =>
      obtain ⟨k, hk, rfl, hr, hC, hrow, hbr⟩ := hrel
      have HR := Lib.hid hr
      have HC := Lib.hid hC
      have HBR := Lib.hid hbr
      have hzr : w.heap.size < wr.heap.size := hC.lt
      obtain ⟨d0, _⟩ := nd10 hC
      clear hr hC hbr
      by_cases hlt : k < (kidOffs x.kind).length
      · have hlk : k < x.kids.length := by rw [← HL.out]; exact hlt
        obtain ⟨g, rfl, hg, hG⟩ := hrow (Nat.lt_of_le_of_lt (Nat.zero_le _) hlt)
        have p1 := (hG.cell k).trans (ptrs_at _ _ k hlt)
        have p2 := (HC.out.cell _).trans (kid_at0 x k hlt hlk)
        obtain ⟨o, ho⟩ : ∃ o, (kidOffs x.kind)[k] = o := ⟨_, rfl⟩
        rw [ho] at p1 p2
        have HFK := HK.out x.kids[k] (List.getElem_mem hlk)
        have hdr := List.drop_eq_getElem_cons hlk
        obtain ⟨kv, hkv⟩ : ∃ kv, x.kids[k] = kv := ⟨_, rfl⟩
        rw [hkv] at p2 HFK hdr
        obtain ⟨m, rfl⟩ : ∃ m : Nat, kv = (m : Int) := ⟨kv.toNat, by cases f with | zero => exact HFK.elim | succ f => have := HFK.1; omega⟩
        have HFM := Lib.hid HFK
        have HDR := Lib.hid hdr
        have hk2 : k ≤ 2 := by have := kidOffs_le x.kind; omega
        have HGG := Lib.hid hG
        obtain ⟨q, hq⟩ : ∃ q, bindsN x.kind k = q := ⟨_, rfl⟩
        have hq2 : q ≤ 2 := by rw [← hq]; exact bindsN_le _ _
        have HQ := Lib.hid hq
        clear ho hkv HFK hdr hG hrow hlk hq
        have ix : ∀ w, (Instr.index 121 (.agg #[.int .i64 (bindsN x.kind 0 : Int), .int .i64 (bindsN x.kind 1 : Int), .int .i64 (bindsN x.kind 2 : Int)]) (.int .i64 (k : Int))).run Tryd.prog w = .ok (.int .i64 (q : Int)) w := by
          intro w
          rw [idx121 k hk2, ← HQ.out]
          match k, hk2 with
          | 0, _ => rfl
          | 1, _ => rfl
          | 2, _ => rfl
        have NM : Hid (∀ w, Blk w b 31 #[.slice A p.ops.length c, .slice (some ⟨nb, off, none⟩) p.nodes.length c'] → PgAt w w.heap.size A (some ⟨nb, off, none⟩) p →
            Calls Tryd.prog 43 #[.pointer (some ⟨b, 0, none⟩), .int .i64 (m : Int), .int .i64 ((names : Int) + (q : Int))] w fun e w' => e = .returned (.bool (withinB p f m (names + q))) ∧ Below w.heap.size w w') := fun w h1 h2 => by
          have := IH.out m (names + q) b w HFM.out (by omega) h1 h2
          rwa [show ((names + q : Nat) : Int) = (names : Int) + (q : Int) by omega] at this
        have hsum : IntKind.i64.wrap ((names : Int) + (q : Int)) = (names : Int) + (q : Int) := IntWalk.i64_in _ (by omega)
        go_wp2_with fail
        cases hres : withinB p f m (names + q)
        all_goals have HRES := Lib.hid hres
        all_goals clear hres
        · have HF := Lib.hid (show withinB p (f + 1) a names = false by
            rw [HR.out, HDR.out, withinKids_cons, HQ.out, HRES.out]; rfl)
          go_region_with (first
            | (go_at_call 68; refine (binds_any _ _).mono ?_; rintro e w5 ⟨rfl, hb5⟩
               have q5 := (hb5.cell (p := ⟨w.heap.size, o, none⟩) hzr).trans p2
               have HB5 := Lib.hid (HBR.out.drew.trans (hb5.mono HBR.out.size))
               have HP5 := Lib.hid (HB.out.below HB5.out hblt)
               have HA5 := Lib.hid (HA.out.below HB5.out))
            | (go_at_call 43; refine (NM.out _ HP5.out HA5.out).mono ?_; rw [HRES.out]; rintro e w6 ⟨rfl, hb6⟩
               have HB6 := Lib.hid (HB5.out.trans (hb6.mono HB5.out.size))))
          all_goals
            go_wp2_with fail
            go_ret
            exact ⟨ret_bool HF.out.symm, HB6.out⟩
        · have HF := Lib.hid (show withinB p (f + 1) a names = withinKids (withinB p f) x names (k + 1) (x.kids.drop (k + 1)) by
            rw [HR.out, HDR.out, withinKids_cons, HQ.out, HRES.out]; rfl)
          go_region_with (first
            | (go_at_call 68; refine (binds_any _ _).mono ?_; rintro e w5 ⟨rfl, hb5⟩
               have q5 := (hb5.cell (p := ⟨w.heap.size, o, none⟩) hzr).trans p2
               have HB5 := Lib.hid (HBR.out.drew.trans (hb5.mono HBR.out.size))
               have HC5 := Lib.hid (HC.out.drew.below hb5 HC.out.lt)
               have HG5 := Lib.hid (HGG.out.drew.below hb5 HGG.out.lt)
               have HP5 := Lib.hid (HB.out.below HB5.out hblt)
               have HA5 := Lib.hid (HA.out.below HB5.out))
            | (go_at_call 43; refine (NM.out _ HP5.out HA5.out).mono ?_; rw [HRES.out]; rintro e w6 ⟨rfl, hb6⟩
               have HB6 := Lib.hid (HB5.out.trans (hb6.mono HB5.out.size))
               have HC6 := Lib.hid (HC5.out.below hb6 HC5.out.lt)
               have HG6 := Lib.hid (HG5.out.below hb6 HG5.out.lt)))
          all_goals
            go_wp2_with fail
            go_roundw
            case rel => exact ⟨k + 1, by omega, by go_num, HF.out, HC6.out, fun _ => ⟨g, rfl, hg, HG6.out⟩, HB6.out⟩
            case measure => simp [intOf]; omega
      · have HF := Lib.hid (show withinB p (f + 1) a names = true by
          rw [HR.out, List.drop_of_length_le (by rw [← HL.out]; omega)]; rfl)
        go_wp2_with fail
        go_ret
        exact ⟨ret_bool HF.out.symm, HBR.out⟩
theorem within_any (p : Pg) (A : Option Addr) (c : Nat) (A' : Option Addr) (c' : Nat) (hol : p.ops.length ≤ 1000000) (hnl : p.nodes.length ≤ 1000000) : ∀ f : Nat, WithinLaw p A c A' c' f
  | 0 => fun a names b w h => h.elim
  | f + 1 => within_step p A c A' c' hol hnl f (within_any p A c A' c' hol hnl f)
end Go.Proofs.YtiflfnnnbgmomaaDoor
