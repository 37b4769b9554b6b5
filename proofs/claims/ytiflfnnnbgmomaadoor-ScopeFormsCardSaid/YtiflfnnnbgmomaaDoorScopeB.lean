/- The walk of scope.twice. -/
import Derived.Test.YtiflfnnnbgmomaaDoorScopeA
namespace Go.Proofs.YtiflfnnnbgmomaaDoor
open Go.RowKit
set_option maxHeartbeats 1000000
set_option maxRecDepth 100000
theorem MapIs.kept {w w' : World} {b : Nat} {ss : List Bs} (h : MapIs w b ss) (hk : w'.heap[b]? = w.heap[b]?) : MapIs w' b ss := by
  obtain ⟨es, c, h1, h2⟩ := h
  exact ⟨es, c, hk.trans h1, h2⟩
theorem MapIs.lt {w : World} {b : Nat} {ss : List Bs} (h : MapIs w b ss) : b < w.heap.size := by
  obtain ⟨es, c, h1, _⟩ := h
  exact (Array.getElem?_eq_some_iff.1 h1).1
theorem MapIs.alloc {w : World} {b : Nat} {ss : List Bs} (h : MapIs w b ss) (o : Obj) : MapIs (w.alloc o) b ss := h.kept (Below.heap_alloc w o b h.lt)
theorem twiceGo_step (os : List OpD) (k : Nat) (h : k < os.length) {R : Bool} (hr : R = twiceGo ((os.take k).map (·.name)) (os.drop k)) :
    (((os.take k).map (·.name)).contains os[k].name = true → R = true) ∧ (((os.take k).map (·.name)).contains os[k].name = false → R = twiceGo ((os.take (k + 1)).map (·.name)) (os.drop (k + 1))) := by
  rw [List.drop_eq_getElem_cons h, twiceGo] at hr
  constructor
  · intro hc; rw [hr, hc]; rfl
  · intro hc
    rw [hr, hc, List.take_succ_eq_append_getElem h, List.map_append]
    rfl
theorem twice_any (A : Option Addr) (c : Nat) (os : List OpD) (hlen : os.length ≤ maxLen) (w : World) (hA : OpsAt w w.heap.size A os) :
    Calls Tryd.prog 23 #[.slice A os.length c] w fun e w' => e = .returned (.bool (twiceB os)) ∧ Below w.heap.size w w' := by
  have hlen' := hlen
  unfold maxLen at hlen'
  have HA := Lib.hid hA
  clear hA
  have hmm := @run_makeMap Tryd.prog
  go_enter Tryd.func23, Tryd.ntmps23
  go_wp2_with fail
  go_loopw [5, 9] (fun _ i wr => ∃ k : Nat, k ≤ os.length ∧ i = .int .i64 k ∧ twiceB os = twiceGo ((os.take k).map (·.name)) (os.drop k) ∧ MapIs wr w.heap.size ((os.take k).map (·.name)) ∧ Below w.heap.size w wr) (fun _ i _ => os.length - (intOf i).toNat)
  case atStart =>
    refine ⟨0, Nat.zero_le _, rfl, rfl, ⟨#[], 0, ?_, rfl⟩, (Below.refl _ _).alloc (Nat.le_refl _) _⟩
    exact heap_alloc_new w _
  case round =>
    obtain ⟨k, hk, rfl, hr, hM, hbr⟩ := hrel
    by_cases hlt : k < os.length
    · obtain ⟨b, off, rfl, hb, hc⟩ := HA.out (by omega)
      have hcells := OpsAt.at_ (c := 0) hc hbr hb k hlt rfl
      have HR := Lib.hid (twiceGo_step os k hlt hr)
      clear hr
      obtain ⟨x, hx⟩ : ∃ x, os[k] = x := ⟨_, rfl⟩
      rw [hx] at hcells HR
      obtain ⟨c0, c1, c2⟩ := hcells
      have HX := Lib.hid hx
      clear hc hx
      have hM1 := hM.alloc (.cells #[.string (ba x.name), .int .i64 x.src, .int .i64 x.dst] 36)
      have hlook := map_look _ _ _ x.name hM1
      cases hs : ((os.take k).map (·.name)).contains x.name with
      | true =>
        rw [hs] at hlook
        have HF := Lib.hid (HR.out.1 hs)
        clear hs
        go_wp2_with fail
        go_ret
        exact ⟨ret_bool HF.out.symm, hbr.alloc hbr.size _⟩
      | false =>
        rw [hs] at hlook
        obtain ⟨w3, hput, hM3, hg3⟩ := map_put _ _ _ x.name hM1 hs
        have HF := Lib.hid (HR.out.2 hs)
        have HM3 := Lib.hid hM3
        clear hs
        go_wp2_with fail
        go_roundw
        case rel =>
          refine ⟨k + 1, by omega, by go_num, HF.out, ?_, (hbr.alloc hbr.size _).grown hg3 (by simp; have := hbr.size; omega) (fun k hk => by injection hk with hk; omega)⟩
          rw [List.take_succ_eq_append_getElem hlt, List.map_append, HX.out]
          exact HM3.out
        case measure => simp [intOf]; omega
    · have HF := Lib.hid (show twiceB os = false by
        rw [hr, List.drop_of_length_le (by omega)]; rfl)
      clear hr
      go_wp2_with fail
      go_ret
      exact ⟨ret_bool HF.out.symm, hbr⟩
end Go.Proofs.YtiflfnnnbgmomaaDoor
