/- The walk of resolver.op. -/
import Derived.Test.YtiflfnnnbgmomaaDoorScopeC
namespace Go.Proofs.YtiflfnnnbgmomaaDoor
open Go.RowKit
set_option maxHeartbeats 1000000
set_option maxRecDepth 100000

theorem opIs_any (o : OpD) (s : Bs) (b : Nat) (w : World) (hb : w.cell? ⟨b, 0, none⟩ = some (.string (ba s))) (hlt : b < w.heap.size) :
    Calls Tryd.prog 74 #[opV o, .pointer (some ⟨b, 0, none⟩)] w fun e w' => e = .returned (.bool (decide (o.name = s))) ∧ Below w.heap.size w w' := by
  go_enter Tryd.func74, Tryd.ntmps74
  go_wp2_with fail
  go_ret
  refine ⟨ret_bool ?_, (Below.refl _ _).alloc (Nat.le_refl _) _⟩
  show ((ba o.name).toList == (ba s).toList) = _
  rw [← beq_toListBytes, ba_beq]
theorem idxO_eq (os : List OpD) (s : Bs) : idxO os s = idxI (fun o => decide (o.name = s)) os := rfl
theorem indexOp_any (A : Option Addr) (c : Nat) (os : List OpD) (s : Bs) (nb : Nat) (hlen : os.length ≤ maxLen) (w : World) (hnb : w.cell? ⟨nb, 0, none⟩ = some (.string (ba s))) (hlt0 : nb < w.heap.size) (hA : OpsAt w w.heap.size A os) :
    Calls Tryd.prog 73 #[.slice A os.length c, .func (.func 74) #[] #[.pointer (some ⟨nb, 0, none⟩)]] w fun e w' => e = .returned (.int .i64 (idxO os s)) ∧ Below w.heap.size w w' := by
  have hlen' := hlen
  unfold maxLen at hlen'
  have HA := Lib.hid hA
  clear hA
  go_enter Tryd.func73, Tryd.ntmps73
  go_wp2_with fail
  go_loopw [5, 8] (fun _ i wr => ∃ k : Nat, k ≤ os.length ∧ i = .int .i64 k ∧ (os.take k).any (fun o => decide (o.name = s)) = false ∧ Below w.heap.size w wr) (fun _ i _ => os.length - (intOf i).toNat)
  case atStart => exact ⟨0, Nat.zero_le _, rfl, rfl, Below.refl _ _⟩
  case round =>
    obtain ⟨k, hk, rfl, hall, hbr⟩ := hrel
    have HALL := Lib.hid hall
    clear hall
    by_cases hlt : k < os.length
    · obtain ⟨b, off, rfl, hb, hc⟩ := HA.out (by omega)
      have hcells := OpsAt.at_ (c := 0) hc hbr hb k hlt rfl
      obtain ⟨x, hx⟩ : ∃ x, os[k] = x := ⟨_, rfl⟩
      rw [hx] at hcells
      obtain ⟨c0, c1, c2⟩ := hcells
      have HX := Lib.hid hx
      have hn2 : wr.cell? ⟨nb, 0, none⟩ = some (.string (ba s)) := (hbr.cell (p := ⟨nb, 0, none⟩) hlt0).trans hnb
      have hlt2 : nb < wr.heap.size := Nat.lt_of_lt_of_le hlt0 hbr.size
      clear hx hc
      cases hm : decide (x.name = s)
      all_goals have HM := Lib.hid hm
      all_goals clear hm
      · go_wp2_with (go_at_call 74; refine (opIs_any x s nb _ hn2 hlt2).mono ?_; rintro e w3 ⟨rfl, hb3⟩; rw [HM.out])
        go_roundw
        case rel =>
          refine ⟨k + 1, by omega, by go_num, ?_, hbr.trans (hb3.mono hbr.size)⟩
          rw [List.take_succ_eq_append_getElem hlt, List.any_append, HALL.out, HX.out]
          simp only [List.any_cons, List.any_nil, HM.out, Bool.or_false]
        case measure => simp [intOf]; omega
      · have HF := Lib.hid (idxI_hit (fun o => decide (o.name = s)) os k hlt HALL.out (by show decide (os[k].name = s) = true; rw [HX.out]; exact HM.out))
        go_wp2_with (go_at_call 74; refine (opIs_any x s nb _ hn2 hlt2).mono ?_; rintro e w3 ⟨rfl, hb3⟩; rw [HM.out])
        go_ret
        exact ⟨ret_int HF.out.symm, hbr.trans (hb3.mono hbr.size)⟩
    · have HF := Lib.hid (show idxO os s = -1 by
        have := HALL.out
        rw [List.take_of_length_le (by omega)] at this
        exact idxI_none _ _ this)
      go_wp2_with fail
      go_ret
      exact ⟨ret_int HF.out.symm, hbr⟩
theorem op_any (rb : Nat) (A : Option Addr) (c : Nat) (os : List OpD) (s : Bs) (hlen : os.length ≤ maxLen) (w : World) (h0 : w.cell? ⟨rb, 0, none⟩ = some (.slice A os.length c)) (hlt : rb < w.heap.size) (hA : OpsAt w w.heap.size A os) :
    Calls Tryd.prog 48 #[.pointer (some ⟨rb, 0, none⟩), .string (ba s)] w fun e w' => e = .returned (.int .i64 (idxO os s)) ∧ Below w.heap.size w w' := by
  have hb1 : Below w.heap.size w (w.alloc (.cells #[.string (ba s)] 9)) := (Below.refl _ _).alloc (Nat.le_refl _) _
  have B1 := Blk.new w 9 #[.string (ba s)]
  have HA1 := Lib.hid (hA.below hb1)
  go_enter Tryd.func48, Tryd.ntmps48
  go_wp2_with (go_at_call 73; refine (indexOp_any A c os s w.heap.size hlen _ B1.c1.1 B1.lt HA1.out).mono ?_; rintro e w3 ⟨rfl, hb3⟩)
  go_ret
  exact ⟨rfl, after_alloc hb3⟩
end Go.Proofs.YtiflfnnnbgmomaaDoor
