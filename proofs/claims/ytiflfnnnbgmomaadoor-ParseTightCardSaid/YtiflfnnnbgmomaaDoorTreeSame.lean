/- The walk of tree.Same. -/
import Derived.Test.YtiflfnnnbgmomaaDoorSame
namespace Go.Proofs.YtiflfnnnbgmomaaDoor
set_option linter.unusedVariables false
set_option linter.unusedSimpArgs false
open Go.RowKit
set_option maxHeartbeats 2000000
set_option maxRecDepth 100000

/-- a node without its place -/
def Nd.unpos (x : Nd) : Nd := { x with pos := 0 }
def sameB (a b : List Nd) : Bool := decide (a.map Nd.unpos = b.map Nd.unpos)
theorem eql_nd (x y : Nd) (w : World) :
    (binOp .eql 24 (.agg #[.int .i64 x.kind, .int .i64 x.a, .int .i64 x.b, .int .i64 x.c, .int .i64 x.num, .string (ba x.name), .string (ba x.x), .string (ba x.y), .string (ba x.z), .int .i64 0])
      (.agg #[.int .i64 y.kind, .int .i64 y.a, .int .i64 y.b, .int .i64 y.c, .int .i64 y.num, .string (ba y.name), .string (ba y.x), .string (ba y.y), .string (ba y.z), .int .i64 0])).run Tryd.prog w
      = .ok (.bool (decide (x.unpos = y.unpos))) w := by
  rw [run_eql_struct]
  have := eqin_nd x.unpos y.unpos w
  rw [show (Op.equalIn 10000 24 (.agg #[.int .i64 x.kind, .int .i64 x.a, .int .i64 x.b, .int .i64 x.c, .int .i64 x.num, .string (ba x.name), .string (ba x.x), .string (ba x.y), .string (ba x.z), .int .i64 0])
      (.agg #[.int .i64 y.kind, .int .i64 y.a, .int .i64 y.b, .int .i64 y.c, .int .i64 y.num, .string (ba y.name), .string (ba y.x), .string (ba y.y), .string (ba y.z), .int .i64 0])).run Tryd.prog w = _ from this]
  rfl
theorem same1_any (x y : Nd) (w : World) :
    Calls Tryd.prog 34 #[.agg (ndArr x), .agg (ndArr y)] w fun e w' => e = .returned (.bool (decide (x.unpos = y.unpos))) ∧ Below w.heap.size w w' := by
  have hq := eql_nd x y
  have hu : ((ndArr x).setIfInBounds 9 (.int .i64 0)) = ndArr x.unpos := rfl
  have hv : ((ndArr y).setIfInBounds 9 (.int .i64 0)) = ndArr y.unpos := rfl
  have BX := (Blk.new w 24 (ndArr x.unpos)).alloc (.cells (ndArr y.unpos) 24)
  have BY := Blk.new1 w (.cells (ndArr x.unpos) 24) 24 (ndArr y.unpos)
  obtain ⟨c0, c1, c2, c3, c4, c5, c6, c7, c8, c9, cf⟩ := nd10 BX
  obtain ⟨d0, d1, d2, d3, d4, d5, d6, d7, d8, d9, df⟩ := nd10 BY
  have hb : Below w.heap.size w ((w.alloc (.cells (ndArr x.unpos) 24)).alloc (.cells (ndArr y.unpos) 24)) := ((Below.refl _ _).alloc (Nat.le_refl _) _).alloc (by simp) _
  show Calls _ _ #[.agg #[.int .i64 x.kind, .int .i64 x.a, .int .i64 x.b, .int .i64 x.c, .int .i64 x.num, .string (ba x.name), .string (ba x.x), .string (ba x.y), .string (ba x.z), .int .i64 x.pos], .agg #[.int .i64 y.kind, .int .i64 y.a, .int .i64 y.b, .int .i64 y.c, .int .i64 y.num, .string (ba y.name), .string (ba y.x), .string (ba y.y), .string (ba y.z), .int .i64 y.pos]] _ _
  go_enter Tryd.func34, Tryd.ntmps34
  go_wp2_with fail
  go_ret
  exact ⟨rfl, hb⟩
theorem equalNodes_any (A A' : Option Addr) (c c' : Nat) (a b : List Nd) (ha : a.length ≤ maxLen) (w : World) (hA : NodesAt w w.heap.size A a) (hB : NodesAt w w.heap.size A' b) :
    Calls Tryd.prog 33 #[.slice A a.length c, .slice A' b.length c', .func (.func 34) #[] #[]] w fun e w' => e = .returned (.bool (sameB a b)) ∧ Below w.heap.size w w' := by
  unfold maxLen at ha
  by_cases hl : a.length = b.length
  · have hl1 : ((a.length : Int) != (b.length : Int)) = false := by simp; omega
    have hl2 : a.length ≤ b.length := by omega
    have hl3 : b.length ≤ a.length := by omega
    have HA := Lib.hid hA
    have HB := Lib.hid hB
    clear hl hA hB
    go_enter Tryd.func33, Tryd.ntmps33
    go_wp2_with fail
    go_loopw [17] (fun i wr => ∃ k : Nat, k ≤ a.length ∧ i = .int .i64 k ∧ (a.map Nd.unpos).take k = (b.map Nd.unpos).take k ∧ Below w.heap.size w wr) (fun i _ => a.length - (intOf i).toNat)
    case atStart => exact ⟨0, Nat.zero_le _, rfl, rfl, Below.refl _ _⟩
    case round =>
      obtain ⟨k, hk, rfl, ht, hbr⟩ := hrel
      have HT := Lib.hid ht
      clear ht
      by_cases hlt : k < a.length
      · have hlt2 : k < b.length := by omega
        have hi1 : (k : Int) < (a.length : Int) := by omega
        have hi2 : (k : Int) < (b.length : Int) := by omega
        obtain ⟨b1, o1, rfl, hb1, hc1⟩ := (HA.out.below hbr) (by omega)
        obtain ⟨b2, o2, rfl, hb2, hc2⟩ := (HB.out.below hbr) (by omega)
        have c1 := hc1 k hlt
        have c2 := hc2 k hlt2
        obtain ⟨x, hx⟩ : ∃ x, a[k] = x := ⟨_, rfl⟩
        obtain ⟨y, hy⟩ : ∃ y, b[k] = y := ⟨_, rfl⟩
        rw [hx] at c1
        rw [hy] at c2
        obtain ⟨d0, d1, d2, d3, d4, d5, d6, d7, d8, d9⟩ := c1
        obtain ⟨f0, f1, f2, f3, f4, f5, f6, f7, f8, f9⟩ := c2
        have HX := Lib.hid (show (a.map Nd.unpos)[k]'(by simpa using hlt) = x.unpos by simp [hx])
        have HY := Lib.hid (show (b.map Nd.unpos)[k]'(by simpa using hlt2) = y.unpos by simp [hy])
        have hbn := hbr.trans (((Below.refl wr.heap.size wr).alloc (Nat.le_refl _) (.cells (ndArr x) 24)).alloc (by simp) (.cells (ndArr y) 24) |>.mono hbr.size)
        clear hc1 hc2 hx hy
        cases he : decide (x.unpos = y.unpos)
        all_goals
          have HE := Lib.hid he
          clear he
          go_wp2_with fail
          refine (same1_any x y _).mono ?_
          rw [HE.out]
          rintro e w3 ⟨rfl, hb3⟩
          go_wp2_with fail
        · go_ret
          refine ⟨ret_bool ?_, hbn.trans (hb3.mono hbn.size)⟩
          unfold sameB
          rw [eq_comm, decide_eq_false_iff_not]
          intro hab
          have h1 : (a.map Nd.unpos)[k]'(by simpa using hlt) = (b.map Nd.unpos)[k]'(by simpa using hlt2) := by simp only [hab]
          rw [HX.out, HY.out] at h1
          exact absurd h1 (of_decide_eq_false HE.out)
        · go_roundw
          case rel => exact ⟨k + 1, by omega, by go_num, take_eq_step _ _ k (by simpa using hlt) (by simpa using hlt2) HT.out (by rw [HX.out, HY.out]; exact of_decide_eq_true HE.out), hbn.trans (hb3.mono hbn.size)⟩
          case measure => simp [intOf]; omega
      · have HF := Lib.hid (show sameB a b = true by
          have := HT.out
          rw [List.take_of_length_le (by simp; omega), List.take_of_length_le (by simp; omega)] at this
          unfold sameB
          rw [this]
          exact decide_eq_true rfl)
        go_wp2_with fail
        go_ret
        exact ⟨ret_bool HF.out.symm, hbr⟩
  · have hl1 : ((a.length : Int) != (b.length : Int)) = true := by simp; omega
    have HF := Lib.hid (show sameB a b = false by
      unfold sameB
      rw [decide_eq_false_iff_not]; intro h
      have := congrArg List.length h
      simp at this
      exact hl this)
    clear hl
    go_enter Tryd.func33, Tryd.ntmps33
    go_wp2
    go_ret
    exact ⟨ret_bool HF.out.symm, Below.refl _ _⟩
theorem treeSame_any (A A' : Option Addr) (c c' : Nat) (a b : List Nd) (ha : a.length ≤ maxLen) (w : World) (hA : NodesAt w w.heap.size A a) (hB : NodesAt w w.heap.size A' b) :
    Calls Tryd.prog 16 #[.slice A a.length c, .slice A' b.length c'] w fun e w' => e = .returned (.bool (sameB a b)) ∧ Below w.heap.size w w' := by
  have HE := Lib.hid (equalNodes_any A A' c c' a b ha w hA hB)
  clear hA hB
  go_enter Tryd.func16, Tryd.ntmps16
  go_wp2_with fail
  refine HE.out.mono ?_
  rintro e w2 ⟨rfl, hb⟩
  go_wp2_with fail
  go_ret
  exact ⟨rfl, hb⟩
end Go.Proofs.YtiflfnnnbgmomaaDoor
