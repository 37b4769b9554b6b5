/- The walks of SameNodes, SameOps. -/
import Derived.Test.YtiflfnnnbgmomaaDoorTreeK
import Derived.Test.YtiflfnnnbgmomaaDoorRowIs
namespace Go.Proofs.YtiflfnnnbgmomaaDoor
set_option linter.unusedVariables false
set_option linter.unusedSimpArgs false
open Go.RowKit
set_option maxHeartbeats 2000000
set_option maxRecDepth 100000

theorem eqin_nd (x y : Nd) (w : World) :
    (Op.equalIn 10000 24 (.agg #[.int .i64 x.kind, .int .i64 x.a, .int .i64 x.b, .int .i64 x.c, .int .i64 x.num, .string (ba x.name), .string (ba x.x), .string (ba x.y), .string (ba x.z), .int .i64 x.pos])
      (.agg #[.int .i64 y.kind, .int .i64 y.a, .int .i64 y.b, .int .i64 y.c, .int .i64 y.num, .string (ba y.name), .string (ba y.x), .string (ba y.y), .string (ba y.z), .int .i64 y.pos])).run Tryd.prog w
      = .ok (decide (x = y)) w := by
  rw [show (decide (x = y)) = (x.kind == y.kind && (x.a == y.a && (x.b == y.b && (x.c == y.c && (x.num == y.num && (ba x.name == ba y.name && (ba x.x == ba y.x && (ba x.y == ba y.y && (ba x.z == ba y.z && (x.pos == y.pos && true)))))))))) from ?_]
  · exact eqA_of (d := 9999) (w := w) Tryd.underlying24 (by kernel_rfl) (eqf_cons (by decide) (by kernel_rfl) (by kernel_rfl) (eqi (d := 9998) Tryd.underlying3 x.kind y.kind) (eqf_cons (by decide) (by kernel_rfl) (by kernel_rfl) (eqi (d := 9998) Tryd.underlying3 x.a y.a) (eqf_cons (by decide) (by kernel_rfl) (by kernel_rfl) (eqi (d := 9998) Tryd.underlying3 x.b y.b) (eqf_cons (by decide) (by kernel_rfl) (by kernel_rfl) (eqi (d := 9998) Tryd.underlying3 x.c y.c) (eqf_cons (by decide) (by kernel_rfl) (by kernel_rfl) (eqi (d := 9998) Tryd.underlying3 x.num y.num) (eqf_cons (by decide) (by kernel_rfl) (by kernel_rfl) (eqs (d := 9998) Tryd.underlying9 (ba x.name) (ba y.name)) (eqf_cons (by decide) (by kernel_rfl) (by kernel_rfl) (eqs (d := 9998) Tryd.underlying9 (ba x.x) (ba y.x)) (eqf_cons (by decide) (by kernel_rfl) (by kernel_rfl) (eqs (d := 9998) Tryd.underlying9 (ba x.y) (ba y.y)) (eqf_cons (by decide) (by kernel_rfl) (by kernel_rfl) (eqs (d := 9998) Tryd.underlying9 (ba x.z) (ba y.z)) (eqf_cons (by decide) (by kernel_rfl) (by kernel_rfl) (eqi (d := 9998) Tryd.underlying3 x.pos y.pos) (eqf_nil)))))))))))
  · obtain ⟨k, a, b, c, m, s, x1, y1, z1, p⟩ := x
    obtain ⟨k', a', b', c', m', s', x1', y1', z1', p'⟩ := y
    rw [Bool.eq_iff_iff]
    simp only [decide_eq_true_eq, Nd.mk.injEq, Bool.and_eq_true, beq_iff_eq, ba_beq, Bool.and_true]
theorem neq_nd (x y : Nd) (w : World) :
    (binOp .neq 24 (.agg #[.int .i64 x.kind, .int .i64 x.a, .int .i64 x.b, .int .i64 x.c, .int .i64 x.num, .string (ba x.name), .string (ba x.x), .string (ba x.y), .string (ba x.z), .int .i64 x.pos])
      (.agg #[.int .i64 y.kind, .int .i64 y.a, .int .i64 y.b, .int .i64 y.c, .int .i64 y.num, .string (ba y.name), .string (ba y.x), .string (ba y.y), .string (ba y.z), .int .i64 y.pos])).run Tryd.prog w
      = .ok (.bool (!decide (x = y))) w := by
  rw [run_neq_struct, eqin_nd]; rfl
theorem eqin_op (x y : OpD) (w : World) :
    (Op.equalIn 10000 36 (.agg #[.string (ba x.name), .int .i64 x.src, .int .i64 x.dst]) (.agg #[.string (ba y.name), .int .i64 y.src, .int .i64 y.dst])).run Tryd.prog w = .ok (decide (x = y)) w := by
  rw [show (decide (x = y)) = (ba x.name == ba y.name && (x.src == y.src && (x.dst == y.dst && true))) from ?_]
  · exact eqA_of (d := 9999) (w := w) Tryd.underlying36 (by kernel_rfl) (eqf_cons (by decide) (by kernel_rfl) (by kernel_rfl) (eqs (d := 9998) Tryd.underlying9 (ba x.name) (ba y.name)) (eqf_cons (by decide) (by kernel_rfl) (by kernel_rfl) (eqi (d := 9998) Tryd.underlying3 x.src y.src) (eqf_cons (by decide) (by kernel_rfl) (by kernel_rfl) (eqi (d := 9998) Tryd.underlying3 x.dst y.dst) (eqf_nil))))
  · obtain ⟨s, a, b⟩ := x
    obtain ⟨s', a', b'⟩ := y
    rw [Bool.eq_iff_iff]
    simp only [decide_eq_true_eq, OpD.mk.injEq, Bool.and_eq_true, beq_iff_eq, ba_beq, Bool.and_true]
theorem neq_op (x y : OpD) (w : World) :
    (binOp .neq 36 (.agg #[.string (ba x.name), .int .i64 x.src, .int .i64 x.dst]) (.agg #[.string (ba y.name), .int .i64 y.src, .int .i64 y.dst])).run Tryd.prog w = .ok (.bool (!decide (x = y))) w := by
  rw [run_neq_struct, eqin_op]; rfl
theorem take_eq_step {α : Type} (a b : List α) (k : Nat) (ha : k < a.length) (hb : k < b.length) (h : a.take k = b.take k) (he : a[k] = b[k]) : a.take (k + 1) = b.take (k + 1) := by
  rw [List.take_succ_eq_append_getElem ha, List.take_succ_eq_append_getElem hb, h, he]
theorem sameNodes_any (A A' : Option Addr) (c c' : Nat) (a b : List Nd) (ha : a.length ≤ maxLen) (w : World) (hA : NodesAt w w.heap.size A a) (hB : NodesAt w w.heap.size A' b) :
    Calls Tryd.prog 20 #[.slice A a.length c, .slice A' b.length c'] w fun e w' => e = .returned (.bool (decide (a = b))) ∧ ∃ n, w' = w.drewN n := by
  unfold maxLen at ha
  by_cases hl : a.length = b.length
  · have hl1 : ((a.length : Int) != (b.length : Int)) = false := by simp; omega
    have hl2 : a.length ≤ b.length := by omega
    have hl3 : b.length ≤ a.length := by omega
    have HA := Lib.hid hA
    have HB := Lib.hid hB
    clear hl hA hB
    go_enter Tryd.func20, Tryd.ntmps20
    go_wp2
    go_loopw [5] (fun i wr => ∃ k : Nat, k ≤ a.length ∧ i = .int .i64 k ∧ a.take k = b.take k ∧ ∃ n, wr = w.drewN n) (fun i _ => a.length - (intOf i).toNat)
    case atStart => exact ⟨0, Nat.zero_le _, rfl, rfl, 0, rfl⟩
    case round =>
      obtain ⟨k, hk, rfl, ht, n, rfl⟩ := hrel
      have HT := Lib.hid ht
      clear ht
      by_cases hlt : k < a.length
      · have hlt2 : k < b.length := by omega
        have hi1 : (k : Int) < (a.length : Int) := by omega
        have hi2 : (k : Int) < (b.length : Int) := by omega
        obtain ⟨b1, o1, rfl, _, hc1⟩ := HA.out (by omega)
        obtain ⟨b2, o2, rfl, _, hc2⟩ := HB.out (by omega)
        have c1 := hc1 k hlt
        have c2 := hc2 k hlt2
        obtain ⟨x, hx⟩ : ∃ x, a[k] = x := ⟨_, rfl⟩
        obtain ⟨y, hy⟩ : ∃ y, b[k] = y := ⟨_, rfl⟩
        rw [hx] at c1
        rw [hy] at c2
        obtain ⟨d0, d1, d2, d3, d4, d5, d6, d7, d8, d9⟩ := c1
        obtain ⟨f0, f1, f2, f3, f4, f5, f6, f7, f8, f9⟩ := c2
        have HX := Lib.hid hx
        have HY := Lib.hid hy
        have hneq := neq_nd x y
        clear hc1 hc2 hx hy
        cases he : decide (x = y)
        all_goals
          rw [he] at hneq
          have HE := Lib.hid he
          clear he
          go_wp2
          go_quiet (fail)
          go_wp2
        · go_ret
          refine ⟨ret_bool ?_, n + nq, by rw [World.drewN_drewN]⟩
          rw [eq_comm, decide_eq_false_iff_not]
          intro hab
          have h1 : a[k] = b[k] := by simp [hab]
          rw [HX.out, HY.out] at h1
          exact absurd h1 (of_decide_eq_false HE.out)
        · go_roundw
          case rel => exact ⟨k + 1, by omega, by go_num, take_eq_step a b k hlt hlt2 HT.out (by rw [HX.out, HY.out]; exact of_decide_eq_true HE.out), _, rfl⟩
          case measure => simp [intOf]; omega
      · have HF := Lib.hid (show decide (a = b) = true by
          have := HT.out
          rw [List.take_of_length_le (by omega), List.take_of_length_le (by omega)] at this
          simp [this])
        go_wp2
        go_ret
        exact ⟨ret_bool HF.out.symm, n, rfl⟩
  · have hl1 : ((a.length : Int) != (b.length : Int)) = true := by simp; omega
    have HF := Lib.hid (show decide (a = b) = false by
      rw [decide_eq_false_iff_not]; intro h; exact hl (by rw [h]))
    clear hl
    go_enter Tryd.func20, Tryd.ntmps20
    go_wp2
    go_ret
    exact ⟨ret_bool HF.out.symm, 0, rfl⟩
theorem sameOps_any (A A' : Option Addr) (c c' : Nat) (a b : List OpD) (ha : a.length ≤ maxLen) (w : World) (hA : OpsAt w w.heap.size A a) (hB : OpsAt w w.heap.size A' b) :
    Calls Tryd.prog 17 #[.slice A a.length c, .slice A' b.length c'] w fun e w' => e = .returned (.bool (decide (a = b))) ∧ ∃ n, w' = w.drewN n := by
  unfold maxLen at ha
  by_cases hl : a.length = b.length
  · have hl1 : ((a.length : Int) != (b.length : Int)) = false := by simp; omega
    have hl2 : a.length ≤ b.length := by omega
    have hl3 : b.length ≤ a.length := by omega
    have HA := Lib.hid hA
    have HB := Lib.hid hB
    clear hl hA hB
    go_enter Tryd.func17, Tryd.ntmps17
    go_wp2
    go_loopw [5] (fun i wr => ∃ k : Nat, k ≤ a.length ∧ i = .int .i64 k ∧ a.take k = b.take k ∧ ∃ n, wr = w.drewN n) (fun i _ => a.length - (intOf i).toNat)
    case atStart => exact ⟨0, Nat.zero_le _, rfl, rfl, 0, rfl⟩
    case round =>
      obtain ⟨k, hk, rfl, ht, n, rfl⟩ := hrel
      have HT := Lib.hid ht
      clear ht
      by_cases hlt : k < a.length
      · have hlt2 : k < b.length := by omega
        have hi1 : (k : Int) < (a.length : Int) := by omega
        have hi2 : (k : Int) < (b.length : Int) := by omega
        obtain ⟨b1, o1, rfl, _, hc1⟩ := HA.out (by omega)
        obtain ⟨b2, o2, rfl, _, hc2⟩ := HB.out (by omega)
        have c1 := hc1 k hlt
        have c2 := hc2 k hlt2
        obtain ⟨x, hx⟩ : ∃ x, a[k] = x := ⟨_, rfl⟩
        obtain ⟨y, hy⟩ : ∃ y, b[k] = y := ⟨_, rfl⟩
        rw [hx] at c1
        rw [hy] at c2
        obtain ⟨d0, d1, d2⟩ := c1
        obtain ⟨f0, f1, f2⟩ := c2
        have HX := Lib.hid hx
        have HY := Lib.hid hy
        have hneq := neq_op x y
        clear hc1 hc2 hx hy
        cases he : decide (x = y)
        all_goals
          rw [he] at hneq
          have HE := Lib.hid he
          clear he
          go_wp2
          go_quiet (fail)
          go_wp2
        · go_ret
          refine ⟨ret_bool ?_, n + nq, by rw [World.drewN_drewN]⟩
          rw [eq_comm, decide_eq_false_iff_not]
          intro hab
          have h1 : a[k] = b[k] := by simp [hab]
          rw [HX.out, HY.out] at h1
          exact absurd h1 (of_decide_eq_false HE.out)
        · go_roundw
          case rel => exact ⟨k + 1, by omega, by go_num, take_eq_step a b k hlt hlt2 HT.out (by rw [HX.out, HY.out]; exact of_decide_eq_true HE.out), _, rfl⟩
          case measure => simp [intOf]; omega
      · have HF := Lib.hid (show decide (a = b) = true by
          have := HT.out
          rw [List.take_of_length_le (by omega), List.take_of_length_le (by omega)] at this
          simp [this])
        go_wp2
        go_ret
        exact ⟨ret_bool HF.out.symm, n, rfl⟩
  · have hl1 : ((a.length : Int) != (b.length : Int)) = true := by simp; omega
    have HF := Lib.hid (show decide (a = b) = false by
      rw [decide_eq_false_iff_not]; intro h; exact hl (by rw [h]))
    clear hl
    go_enter Tryd.func17, Tryd.ntmps17
    go_wp2
    go_ret
    exact ⟨ret_bool HF.out.symm, 0, rfl⟩
end Go.Proofs.YtiflfnnnbgmomaaDoor
