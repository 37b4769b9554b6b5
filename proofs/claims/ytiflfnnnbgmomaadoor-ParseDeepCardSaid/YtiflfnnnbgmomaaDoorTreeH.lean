/- The walks of tree.Shaped, OpsMay, May. -/
import Derived.Test.YtiflfnnnbgmomaaDoorTreeG
namespace Go.Proofs.YtiflfnnnbgmomaaDoor
set_option linter.unusedVariables false
set_option linter.unusedSimpArgs false
open Go.RowKit
set_option maxHeartbeats 1000000
set_option maxRecDepth 100000

theorem shaped_any (A : Option Addr) (c : Nat) (ns : List Nd) (named : Bool) (hlen : ns.length ≤ maxLen) (hok : ∀ n ∈ ns, NdOk n) (w : World) (hg : G w) (hA : NodesAt w w.heap.size A ns) :
    Calls Tryd.prog 42 #[.slice A ns.length c, .bool named] w fun e w' => e = .returned (.bool (shapedB ns named)) ∧ Below w.heap.size w w' := by
  have hlen' := hlen
  unfold maxLen at hlen'
  by_cases h1 : ns.length < 1
  · have HF := Lib.hid (show shapedB ns named = false by unfold shapedB; rw [decide_eq_true h1]; rfl)
    go_enter Tryd.func42, Tryd.ntmps42
    go_wp2_with fail
    go_ret
    exact ⟨ret_bool HF.out.symm, Below.refl _ _⟩
  by_cases h2 : 512 < ns.length
  · have HF := Lib.hid (show shapedB ns named = false by unfold shapedB; rw [decide_eq_true h2]; simp)
    go_enter Tryd.func42, Tryd.ntmps42
    go_wp2_with fail
    go_ret
    exact ⟨ret_bool HF.out.symm, Below.refl _ _⟩
  have HS := Lib.hid (show shapedB ns named = (ns.all (mayB · named) && decide (beginB ns ns.length ((ns.length : Int) - 1) = 0)) by
    unfold shapedB; rw [decide_eq_false h1, decide_eq_false h2]; rfl)
  obtain ⟨b, off, rfl, hb, hc⟩ := hA (by omega)
  have HC := Lib.hid hc
  have HA := Lib.hid hA
  have HOK := Lib.hid hok
  clear hc hA hok
  go_enter Tryd.func42, Tryd.ntmps42
  go_wp2_with fail
  go_loopw [6, 17] (fun _ i wr => ∃ k : Nat, k ≤ ns.length ∧ i = .int .i64 k ∧ (ns.take k).all (mayB · named) = true ∧ Below w.heap.size w wr) (fun _ i _ => ns.length - (intOf i).toNat)
  case atStart => exact ⟨0, Nat.zero_le _, rfl, rfl, Below.refl _ _⟩
  case round =>
    obtain ⟨k, hk, rfl, hall, hbr⟩ := hrel
    have HALL := Lib.hid hall
    clear hall
    by_cases hlt : k < ns.length
    · obtain ⟨x, hx⟩ : ∃ x, ns[k] = x := ⟨_, rfl⟩
      have hxa := HC.out k hlt
      rw [hx] at hxa
      have hcells : Cells10 wr b (off + k * 10) x := by
        unfold Cells10 at hxa ⊢
        simp only [hbr.cell (p := ⟨b, _, none⟩) hb]
        exact hxa
      obtain ⟨c0, c1, c2, c3, c4, c5, c6, c7, c8, c9⟩ := hcells
      have hxok : NdOk x := HOK.out x (by rw [← hx]; exact List.getElem_mem hlt)
      have HX := Lib.hid hx
      have hba : Below w.heap.size w (wr.alloc (.cells (ndArr x) 24)) := hbr.alloc hbr.size _
      have hgr := hg.below hba
      clear hx hxa
      cases hm : mayB x named
      all_goals have HM := Lib.hid hm
      all_goals clear hm
      · have HF := Lib.hid (show shapedB ns named = false by
          rw [HS.out]
          have : ns.all (mayB · named) = false := by
            rw [List.all_eq_false]
            exact ⟨x, by rw [← HX.out]; exact List.getElem_mem hlt, by rw [HM.out]; simp⟩
          rw [this]; rfl)
        go_wp2_with (go_at_call 65; refine (may_any x named hxok _ hgr).mono ?_; rintro e w3 ⟨rfl, hb3⟩; rw [HM.out])
        go_ret
        exact ⟨ret_bool HF.out.symm, hba.trans (hb3.mono hba.size)⟩
      · go_wp2_with (go_at_call 65; refine (may_any x named hxok _ hgr).mono ?_; rintro e w3 ⟨rfl, hb3⟩; rw [HM.out])
        go_roundw
        case rel =>
          refine ⟨k + 1, by omega, by go_num, ?_, hba.trans (hb3.mono hba.size)⟩
          rw [List.take_succ_eq_append_getElem hlt, List.all_append, HALL.out, HX.out]
          simp [HM.out]
        case measure => simp [intOf]; omega
    · have HF := Lib.hid (show shapedB ns named = decide (beginB ns ns.length ((ns.length : Int) - 1) = 0) by
        rw [HS.out]
        have := HALL.out
        rw [List.take_of_length_le (by omega)] at this
        rw [this]; rfl)
      obtain ⟨m, hm⟩ : ∃ m, ns.length = m + 1 := ⟨ns.length - 1, by omega⟩
      have hmn : ((ns.length : Int) - 1) = (m : Nat) := by omega
      have HMN := Lib.hid hmn
      have HAr := Lib.hid (HA.out.below hbr)
      have hml : m < ns.length := by omega
      clear hm hmn
      go_wp2_with (go_at_call 66; rw [HMN.out]; refine (begin_any _ c ns hlen ns.length m _ hml hml HAr.out).mono ?_; rintro e w5 ⟨rfl, hb5⟩)
      go_ret
      refine ⟨ret_bool ?_, hbr.trans (hb5.mono hbr.size)⟩
      rw [HF.out, HMN.out]
      rfl
end Go.Proofs.YtiflfnnnbgmomaaDoor
