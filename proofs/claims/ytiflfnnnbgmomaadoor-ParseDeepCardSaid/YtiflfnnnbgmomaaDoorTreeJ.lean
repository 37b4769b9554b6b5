/- The walks of slices.IndexFunc and ContainsFunc over operations, OpsMay, May. -/
import Derived.Test.YtiflfnnnbgmomaaDoorTreeI
namespace Go.Proofs.YtiflfnnnbgmomaaDoor
set_option linter.unusedVariables false
set_option linter.unusedSimpArgs false
open Go.RowKit
set_option maxHeartbeats 1000000
set_option maxRecDepth 100000

/-- the first place where a predicate holds; -1: nowhere -/
def idxI {α : Type} (p : α → Bool) (l : List α) : Int := match l.findIdx? p with | some i => (i : Int) | none => -1
theorem idxI_hit {α : Type} (p : α → Bool) (l : List α) (k : Nat) (hk : k < l.length) (hall : (l.take k).any p = false) (h : p l[k] = true) : idxI p l = k := by
  have : l.findIdx? p = some k := by
    rw [List.findIdx?_eq_some_iff_getElem]
    refine ⟨hk, h, fun j hj => ?_⟩
    rw [List.any_eq_false] at hall
    have := hall l[j] (by rw [List.mem_take_iff_getElem]; exact ⟨j, by omega, rfl⟩)
    simpa using this
  unfold idxI
  rw [this]
theorem idxI_none {α : Type} (p : α → Bool) (l : List α) (hall : l.any p = false) : idxI p l = -1 := by
  have : l.findIdx? p = none := by
    rw [List.findIdx?_eq_none_iff]
    rw [List.any_eq_false] at hall
    intro x hx
    simpa using hall x hx
  unfold idxI
  rw [this]
theorem idxI_any {α : Type} (p : α → Bool) (l : List α) : decide (0 ≤ idxI p l) = l.any p := by
  cases h : l.any p with
  | false => rw [idxI_none p l h]; rfl
  | true =>
    unfold idxI
    cases hf : l.findIdx? p with
    | some i => simp
    | none =>
      rw [List.findIdx?_eq_none_iff] at hf
      rw [List.any_eq_true] at h
      obtain ⟨x, hx, hp⟩ := h
      rw [hf x hx] at hp
      cases hp

theorem indexBad_any (A : Option Addr) (c : Nat) (os : List OpD) (hlen : os.length ≤ maxLen) (hok : ∀ o ∈ os, o.name.length ≤ maxLen) (w : World) (hg : G w) (hA : OpsAt w w.heap.size A os) :
    Calls Tryd.prog 73 #[.slice A os.length c, .func (.func 61) #[] #[]] w fun e w' => e = .returned (.int .i64 (idxI opBad os)) ∧ Below w.heap.size w w' := by
  have hlen' := hlen
  unfold maxLen at hlen'
  have HA := Lib.hid hA
  have HOK := Lib.hid hok
  clear hA hok
  go_enter Tryd.func73, Tryd.ntmps73
  go_wp2_with fail
  go_loopw [5, 8] (fun _ i wr => ∃ k : Nat, k ≤ os.length ∧ i = .int .i64 k ∧ (os.take k).any opBad = false ∧ Below w.heap.size w wr) (fun _ i _ => os.length - (intOf i).toNat)
  case atStart => exact ⟨0, Nat.zero_le _, rfl, rfl, Below.refl _ _⟩
  case round =>
    obtain ⟨k, hk, rfl, hall, hbr⟩ := hrel
    have HALL := Lib.hid hall
    clear hall
    by_cases hlt : k < os.length
    · obtain ⟨b, off, rfl, hb, hc⟩ := HA.out (by omega)
      have hcells := OpsAt.at_ (c := 0) hc hbr hb k hlt rfl
      obtain ⟨x, hx⟩ : ∃ x, os[k] = x := ⟨_, rfl⟩
      rw [hx] at hcells
      obtain ⟨c0, c1, c2⟩ := hcells
      have hxok := HOK.out x (by rw [← hx]; exact List.getElem_mem hlt)
      have HX := Lib.hid hx
      have hgr := hg.below hbr
      clear hx hc
      cases hm : opBad x
      all_goals have HM := Lib.hid hm
      all_goals clear hm
      · go_wp2_with (go_at_call 61; refine (opBad_any x hxok _ hgr).mono ?_; rintro e w3 ⟨rfl, hb3⟩; rw [HM.out])
        go_roundw
        case rel =>
          refine ⟨k + 1, by omega, by go_num, ?_, hbr.trans (hb3.mono hbr.size)⟩
          rw [List.take_succ_eq_append_getElem hlt, List.any_append, HALL.out, HX.out]
          simp [HM.out]
        case measure => simp [intOf]; omega
      · have HF := Lib.hid (idxI_hit opBad os k hlt HALL.out (by rw [HX.out]; exact HM.out))
        go_wp2_with (go_at_call 61; refine (opBad_any x hxok _ hgr).mono ?_; rintro e w3 ⟨rfl, hb3⟩; rw [HM.out])
        go_ret
        exact ⟨ret_int HF.out.symm, hbr.trans (hb3.mono hbr.size)⟩
    · have HF := Lib.hid (show idxI opBad os = -1 by
        have := HALL.out
        rw [List.take_of_length_le (by omega)] at this
        exact idxI_none _ _ this)
      go_wp2_with fail
      go_ret
      exact ⟨ret_int HF.out.symm, hbr⟩
theorem opsMay_any (A : Option Addr) (c : Nat) (os : List OpD) (hlen : os.length ≤ maxLen) (hok : ∀ o ∈ os, o.name.length ≤ maxLen) (w : World) (hg : G w) (hA : OpsAt w w.heap.size A os) :
    Calls Tryd.prog 41 #[.slice A os.length c] w fun e w' => e = .returned (.bool (opsMayB os)) ∧ Below w.heap.size w w' := by
  have hlen' := hlen
  unfold maxLen at hlen'
  by_cases h4 : os.length ≤ 4
  · have HF := Lib.hid (show opsMayB os = !(decide (0 ≤ idxI opBad os)) by unfold opsMayB; rw [decide_eq_true h4, idxI_any]; rfl)
    go_enter Tryd.func41, Tryd.ntmps41
    go_wp2_with (first
      | (go_at_call 73; refine (indexBad_any A c os hlen hok _ hg hA).mono ?_; rintro e w3 ⟨rfl, hb3⟩)
      | go_in)
    go_ret
    exact ⟨ret_bool HF.out.symm, hb3⟩
  · have HF := Lib.hid (show opsMayB os = false by unfold opsMayB; rw [decide_eq_false h4]; rfl)
    go_enter Tryd.func41, Tryd.ntmps41
    go_wp2_with fail
    go_ret
    exact ⟨ret_bool HF.out.symm, Below.refl _ _⟩
end Go.Proofs.YtiflfnnnbgmomaaDoor
