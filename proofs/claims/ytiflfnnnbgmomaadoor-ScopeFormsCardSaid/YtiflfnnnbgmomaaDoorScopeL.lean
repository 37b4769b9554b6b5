/- The walk of scope.May; Num. -/
import Derived.Test.YtiflfnnnbgmomaaDoorScopeK
namespace Go.Proofs.YtiflfnnnbgmomaaDoor
open Go.RowKit
set_option maxHeartbeats 2000000
set_option maxRecDepth 100000

theorem scopeMay_any (p : Pg) (A : Option Addr) (c : Nat) (A' : Option Addr) (c' : Nat) (hok : PgOk p) (w : World) (hg : G w) (hA : PgAt w w.heap.size A A' p) :
    Calls Tryd.prog 21 #[pgV p A c A' c'] w fun e w' => e = .returned (.bool (scopeMayB p)) ∧ Below w.heap.size w w' := by
  have hb1 : Below w.heap.size w (w.alloc (.cells #[.slice A p.ops.length c, .slice A' p.nodes.length c'] 31)) := (Below.refl _ _).alloc (Nat.le_refl _) _
  have B1 := Blk.new w 31 #[.slice A p.ops.length c, .slice A' p.nodes.length c']
  have hg1 := hg.below hb1
  have hA1 := hA.below hb1
  have HO := Lib.hid hA1.ops
  have HF := Lib.hid (show scopeMayB p = (opsMayB p.ops && !twiceB p.ops && shapedB p.nodes false && withinB p p.nodes.length ((p.nodes.length : Int) - 1) 0) from rfl)
  have HAA := Lib.hid hA1
  clear hA1
  cases hm : opsMayB p.ops with
  | false =>
    have HM := Lib.hid hm
    rw [hm] at HF
    clear hm
    go_enter Tryd.func21, Tryd.ntmps21
    go_wp2_with (go_at_call 41; refine (opsMay_any A c _ hok.olen hok.ook _ hg1 HO.out).mono ?_; rintro e w3 ⟨rfl, hb3⟩; rw [HM.out])
    go_ret
    exact ⟨ret_bool HF.out.symm, after_alloc hb3⟩
  | true =>
  have HM := Lib.hid hm
  rw [hm] at HF
  cases ht : twiceB p.ops with
  | true =>
    have HT := Lib.hid ht
    rw [ht] at HF
    clear hm ht
    go_enter Tryd.func21, Tryd.ntmps21
    go_wp2_with (first
      | (go_at_call 41; refine (opsMay_any A c _ hok.olen hok.ook _ hg1 HO.out).mono ?_; rintro e w3 ⟨rfl, hb3⟩; rw [HM.out]
         obtain ⟨c0, c1, _⟩ := (B1.below hb3 B1.lt).c2
         have HO3 := Lib.hid (HO.out.below hb3))
      | (go_at_call 23; refine (twice_any A c p.ops hok.olen _ HO3.out).mono ?_; rintro e w4 ⟨rfl, hb4⟩; rw [HT.out]))
    go_ret
    have h3 := after_alloc hb3
    exact ⟨ret_bool HF.out.symm, h3.trans (hb4.mono h3.size)⟩
  | false =>
  have HT := Lib.hid ht
  rw [ht] at HF
  cases hs : shapedB p.nodes false with
  | false =>
    have HS := Lib.hid hs
    rw [hs] at HF
    clear hm ht hs
    go_enter Tryd.func21, Tryd.ntmps21
    go_wp2_with (first
      | (go_at_call 41; refine (opsMay_any A c _ hok.olen hok.ook _ hg1 HO.out).mono ?_; rintro e w3 ⟨rfl, hb3⟩; rw [HM.out]
         have B3 := B1.below hb3 B1.lt
         obtain ⟨c0, c1, _⟩ := B3.c2
         have hg3 := hg1.below hb3
         have HA3 := Lib.hid (HAA.out.below hb3)
         have HO3 := Lib.hid HA3.out.ops)
      | (go_at_call 23; refine (twice_any A c p.ops hok.olen _ HO3.out).mono ?_; rintro e w4 ⟨rfl, hb4⟩; rw [HT.out]
         have B4 := B3.below hb4 B3.lt
         obtain ⟨d0, d1, _⟩ := B4.c2
         have hg4 := hg3.below hb4
         have HN4 := Lib.hid (HA3.out.below hb4).nodes)
      | (go_at_call 42; refine (shaped_any A' c' _ false hok.nlen hok.nok _ hg4 HN4.out).mono ?_; rintro e w5 ⟨rfl, hb5⟩; rw [HS.out]))
    go_ret
    have h3 := after_alloc hb3
    have h4 := h3.trans (hb4.mono h3.size)
    exact ⟨ret_bool HF.out.symm, h4.trans (hb5.mono h4.size)⟩
  | true =>
    have HS := Lib.hid hs
    rw [hs] at HF
    obtain ⟨hn1, hn2, hfit⟩ := fits_of_shaped _ _ hs
    have hol : p.ops.length ≤ 4 := by unfold opsMayB at hm; simp only [Bool.and_eq_true, decide_eq_true_eq] at hm; exact hm.1
    have e1 : ((p.nodes.length : Int) - 1) = ((p.nodes.length - 1 : Nat) : Int) := by omega
    have WI : ∀ (b : Nat) (w : World), Blk w b 31 #[.slice A p.ops.length c, .slice A' p.nodes.length c'] → PgAt w w.heap.size A A' p →
        Calls Tryd.prog 43 #[.pointer (some ⟨b, 0, none⟩), .int .i64 ((p.nodes.length : Int) - 1), .int .i64 0] w fun e w' => e = .returned (.bool (withinB p p.nodes.length ((p.nodes.length : Int) - 1) 0)) ∧ Below w.heap.size w w' := fun b w h1 h2 => by
      rw [e1] at hfit ⊢
      exact within_any p A c A' c' (by omega) (by omega) p.nodes.length (p.nodes.length - 1) 0 b w hfit (by omega) h1 h2
    have WI := Lib.hid WI
    clear hm ht hs hfit e1
    go_enter Tryd.func21, Tryd.ntmps21
    go_wp2_with (first
      | (go_at_call 41; refine (opsMay_any A c _ hok.olen hok.ook _ hg1 HO.out).mono ?_; rintro e w3 ⟨rfl, hb3⟩; rw [HM.out]
         have B3 := B1.below hb3 B1.lt
         obtain ⟨c0, c1, _⟩ := B3.c2
         have hg3 := hg1.below hb3
         have HA3 := Lib.hid (HAA.out.below hb3)
         have HO3 := Lib.hid HA3.out.ops)
      | (go_at_call 23; refine (twice_any A c p.ops hok.olen _ HO3.out).mono ?_; rintro e w4 ⟨rfl, hb4⟩; rw [HT.out]
         have B4 := B3.below hb4 B3.lt
         obtain ⟨d0, d1, _⟩ := B4.c2
         have hg4 := hg3.below hb4
         have HA4 := Lib.hid (HA3.out.below hb4)
         have HN4 := Lib.hid HA4.out.nodes)
      | (go_at_call 42; refine (shaped_any A' c' _ false hok.nlen hok.nok _ hg4 HN4.out).mono ?_; rintro e w5 ⟨rfl, hb5⟩; rw [HS.out]
         have B5 := B4.below hb5 B4.lt
         obtain ⟨f0, f1, _⟩ := B5.c2
         have HA5 := Lib.hid (HA4.out.below hb5))
      | (go_at_call 43; refine (WI.out _ _ B5 HA5.out).mono ?_; rintro e w6 ⟨rfl, hb6⟩))
    go_ret
    have h3 := after_alloc hb3
    have h4 := h3.trans (hb4.mono h3.size)
    have h5 := h4.trans (hb5.mono h4.size)
    exact ⟨ret_bool (by rw [HF.out]; rfl), h5.trans (hb6.mono h5.size)⟩
theorem num_any (n : Int) (w : World) : Calls Tryd.prog 13 #[.int .i64 n] w fun e w' => e = .returned (.int .i64 n) ∧ w' = w := by
  go_enter Tryd.func13, Tryd.ntmps13
  go_wp2
  go_ret
  exact ⟨rfl, rfl⟩
end Go.Proofs.YtiflfnnnbgmomaaDoor
