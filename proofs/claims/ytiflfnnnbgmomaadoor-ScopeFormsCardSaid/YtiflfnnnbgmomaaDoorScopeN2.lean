/- The law ScopeForms: its walk, three cases. -/
import Derived.Test.YtiflfnnnbgmomaaDoorScopeN
import Derived.BigQuiet
import Derived.Deep.QuietTactic
namespace Go.Proofs.YtiflfnnnbgmomaaDoor
open Go.RowKit
set_option maxHeartbeats 4000000
set_option maxRecDepth 100000

theorem scopeForms_6 (which : Int) (hk : wrap64 ((IntKind.u64.wrap which).tmod 12) = 6) (w : World) (hg : GE w) :
    Calls Tryd.prog 3 #[.int .i64 which] w fun e w' => e = .returned (.bool true) ∧ Below w.heap.size w w' := by
  go_enter Tryd.func3, Tryd.ntmps3
  go_wp2_with fail
  refine (scopeAwake_any w hg).mono ?_
  rintro e w1 ⟨rfl, hb1⟩
  have hg1 := hg.below hb1
  go_wp2_with fail
  change Calls Tryd.prog _ #[.agg #[.slice (some ⟨w1.heap.size + 17, 0, none⟩) 1 1, .slice (some ⟨w1.heap.size + 9, 0, none⟩) 3 3]] ((allocs w1 (fObjs w1.heap.size)).alloc (.cells (fOps.flatMap opCells).toArray 36)) _
  have hW := allocs_below (fObjs w1.heap.size) w1 w1.heap.size (Nat.le_refl _)
  have N1 := blk_allocs (fObjs w1.heap.size) w1 9 _ _ rfl
  have N0 := blk_allocs (fObjs w1.heap.size) w1 3 _ _ rfl
  have R1 := blk_allocs (fObjs w1.heap.size) w1 15 _ _ rfl
  have V1 := blk_allocs (fObjs w1.heap.size) w1 16 _ _ rfl
  have hsz : (allocs w1 (fObjs w1.heap.size)).heap.size = w1.heap.size + 17 := allocs_size _ _
  generalize allocs w1 (fObjs w1.heap.size) = W at *
  have hb2 : Below W.heap.size W (W.alloc (.cells (fOps.flatMap opCells).toArray 36)) := (Below.refl _ _).alloc (Nat.le_refl _) _
  have BO := Blk.new W 36 (fOps.flatMap opCells).toArray
  rw [hsz] at BO
  have hgW := (hg1.below hW).below hb2
  have hbW := (hb1.trans (hW.mono hb1.size)).trans (hb2.mono (Nat.le_trans hb1.size hW.size))
  have PA : PgAt _ _ (some ⟨w1.heap.size + 17, 0, none⟩) (some ⟨w1.heap.size + 9, 0, none⟩) ⟨fOps, fN6⟩ := ⟨ops_of_blk BO, nodes_of_blk (N1.below hb2 N1.lt)⟩
  refine (resolve_any ⟨fOps, fN6⟩ _ 1 _ 3 fOk6 _ hgW PA).mono ?_
  obtain ⟨a, ha⟩ := fRes6
  rw [ha]
  clear ha
  rintro e w3 ⟨rfl, hb3⟩
  have N3 := (N0.below hb2 N0.lt).below hb3 (N0.below hb2 N0.lt).lt
  have R3 := (R1.below hb2 R1.lt).below hb3 (R1.below hb2 R1.lt).lt
  have V3 := (V1.below hb2 V1.lt).below hb3 (V1.below hb2 V1.lt).lt
  have hg3 := hgW.below hb3
  have hb03 := hbW.trans (hb3.mono hbW.size)
  clear hb3 N1 N0 R1 V1 BO hgW hbW PA hb2 hW hb1 hg1
  have hb4 : Below w3.heap.size w3 ((w3.alloc (.cells #[.slice none 0 0, .slice none 0 0] 31)).alloc (.cells (fOps2.flatMap opCells).toArray 36)) := ((Below.refl _ _).alloc (Nat.le_refl _) _).alloc (by simp) _
  have R4 := R3.below hb4 R3.lt
  have V4 := V3.below hb4 V3.lt
  have r0 : ((w3.alloc (.cells #[.slice none 0 0, .slice none 0 0] 31)).alloc (.cells #[.string { data := #[97] }, .int .i64 0, .int .i64 0, .string { data := #[97] }, .int .i64 0, .int .i64 0] 36)).cell? ⟨w1.heap.size + 1 + 1 + 1 + 1 + 1 + 1 + 1 + 1 + 1 + 1 + 1 + 1 + 1 + 1 + 1, 0, none⟩ = some (.slice (some ⟨w1.heap.size + 1 + 1 + 1, 0, none⟩) 2 2) := R4.cell 0
  have BT := (Blk.new w3 31 #[.slice none 0 0, .slice none 0 0]).alloc (.cells (fOps2.flatMap opCells).toArray 36)
  have BO := Blk.new1 w3 (.cells #[.slice none 0 0, .slice none 0 0] 31) 36 (fOps2.flatMap opCells).toArray
  have PB : PgAt _ _ (some ⟨w3.heap.size + 1, 0, none⟩) (some ⟨w1.heap.size + 3, 0, none⟩) ⟨fOps2, fN0⟩ := ⟨ops_of_blk BO, nodes_of_blk (N3.below hb4 N3.lt)⟩
  have hg4 := hg3.below hb4
  have hb04 := hb03.trans (hb4.mono hb03.size)
  clear BO
  go_wp2_with fail
  refine (resolve_any ⟨fOps2, fN0⟩ _ 2 _ 2 fOk _ hg4 PB).mono ?_
  rw [fRes]
  rintro e w5 ⟨rfl, hb5⟩
  have V5 := (V4.below hb5 V4.lt).alloc (.cells #[.slice none 0 0, .slice none 0 0] 31)
  have T5 := (BT.below hb5 BT.lt).alloc (.cells #[.slice none 0 0, .slice none 0 0] 31)
  have v5 : (w5.alloc (.cells #[.slice none 0 0, .slice none 0 0] 31)).cell? ⟨w1.heap.size + 1 + 1 + 1 + 1 + 1 + 1 + 1 + 1 + 1 + 1 + 1 + 1 + 1 + 1 + 1 + 1, 6, none⟩ = some (.int .i64 601) := V5.cell 6
  obtain ⟨t0, t1, _⟩ := Blk.c2 T5
  have hb05 := (hb04.trans (hb5.mono hb04.size))
  have hb06 := hb05.alloc hb05.size (.cells #[.slice none 0 0, .slice none 0 0] 31)
  clear hb5 hb04 hg4 PB BT V4 R4 r0 hb4 hb03 V3 R3 N3 V5 T5
  go_wp2_with fail
  go_quiet ((go_at_call 13; exact Calls.quiet_of_same (num_any _ _)))
  go_wp2_with fail
  go_ret
  exact ⟨rfl, below_drewN hb06 _⟩
theorem scopeForms_7 (which : Int) (hk : wrap64 ((IntKind.u64.wrap which).tmod 12) = 7) (w : World) (hg : GE w) :
    Calls Tryd.prog 3 #[.int .i64 which] w fun e w' => e = .returned (.bool true) ∧ Below w.heap.size w w' := by
  go_enter Tryd.func3, Tryd.ntmps3
  go_wp2_with fail
  refine (scopeAwake_any w hg).mono ?_
  rintro e w1 ⟨rfl, hb1⟩
  have hg1 := hg.below hb1
  go_wp2_with fail
  change Calls Tryd.prog _ #[.agg #[.slice (some ⟨w1.heap.size + 17, 0, none⟩) 1 1, .slice (some ⟨w1.heap.size + 10, 0, none⟩) 4 4]] ((allocs w1 (fObjs w1.heap.size)).alloc (.cells (fOps.flatMap opCells).toArray 36)) _
  have hW := allocs_below (fObjs w1.heap.size) w1 w1.heap.size (Nat.le_refl _)
  have N1 := blk_allocs (fObjs w1.heap.size) w1 10 _ _ rfl
  have N0 := blk_allocs (fObjs w1.heap.size) w1 3 _ _ rfl
  have R1 := blk_allocs (fObjs w1.heap.size) w1 15 _ _ rfl
  have V1 := blk_allocs (fObjs w1.heap.size) w1 16 _ _ rfl
  have hsz : (allocs w1 (fObjs w1.heap.size)).heap.size = w1.heap.size + 17 := allocs_size _ _
  generalize allocs w1 (fObjs w1.heap.size) = W at *
  have hb2 : Below W.heap.size W (W.alloc (.cells (fOps.flatMap opCells).toArray 36)) := (Below.refl _ _).alloc (Nat.le_refl _) _
  have BO := Blk.new W 36 (fOps.flatMap opCells).toArray
  rw [hsz] at BO
  have hgW := (hg1.below hW).below hb2
  have hbW := (hb1.trans (hW.mono hb1.size)).trans (hb2.mono (Nat.le_trans hb1.size hW.size))
  have PA : PgAt _ _ (some ⟨w1.heap.size + 17, 0, none⟩) (some ⟨w1.heap.size + 10, 0, none⟩) ⟨fOps, fN7⟩ := ⟨ops_of_blk BO, nodes_of_blk (N1.below hb2 N1.lt)⟩
  refine (resolve_any ⟨fOps, fN7⟩ _ 1 _ 4 fOk7 _ hgW PA).mono ?_
  obtain ⟨q, hq, hq0⟩ := fRes7
  rw [hq]
  clear hq
  rintro e w3 ⟨A, c, A', c', rfl, -, -, -, hb3⟩
  have N3 := (N0.below hb2 N0.lt).below hb3 (N0.below hb2 N0.lt).lt
  have R3 := (R1.below hb2 R1.lt).below hb3 (R1.below hb2 R1.lt).lt
  have V3 := (V1.below hb2 V1.lt).below hb3 (V1.below hb2 V1.lt).lt
  have hg3 := hgW.below hb3
  have hb03 := hbW.trans (hb3.mono hbW.size)
  clear hb3 N1 N0 R1 V1 BO hgW hbW PA hb2 hW hb1 hg1
  have hb4 : Below w3.heap.size w3 ((w3.alloc (.cells #[.slice A q.ops.length c, .slice A' q.nodes.length c'] 31)).alloc (.cells (fOps2.flatMap opCells).toArray 36)) := ((Below.refl _ _).alloc (Nat.le_refl _) _).alloc (by simp) _
  have R4 := R3.below hb4 R3.lt
  have V4 := V3.below hb4 V3.lt
  have r0 : ((w3.alloc (.cells #[.slice A q.ops.length c, .slice A' q.nodes.length c'] 31)).alloc (.cells #[.string { data := #[97] }, .int .i64 0, .int .i64 0, .string { data := #[97] }, .int .i64 0, .int .i64 0] 36)).cell? ⟨w1.heap.size + 1 + 1 + 1 + 1 + 1 + 1 + 1 + 1 + 1 + 1 + 1 + 1 + 1 + 1 + 1, 0, none⟩ = some (.slice (some ⟨w1.heap.size + 1 + 1 + 1, 0, none⟩) 2 2) := R4.cell 0
  have BT := (Blk.new w3 31 #[.slice A q.ops.length c, .slice A' q.nodes.length c']).alloc (.cells (fOps2.flatMap opCells).toArray 36)
  have BO := Blk.new1 w3 (.cells #[.slice A q.ops.length c, .slice A' q.nodes.length c'] 31) 36 (fOps2.flatMap opCells).toArray
  have PB : PgAt _ _ (some ⟨w3.heap.size + 1, 0, none⟩) (some ⟨w1.heap.size + 3, 0, none⟩) ⟨fOps2, fN0⟩ := ⟨ops_of_blk BO, nodes_of_blk (N3.below hb4 N3.lt)⟩
  have hg4 := hg3.below hb4
  have hb04 := hb03.trans (hb4.mono hb03.size)
  clear BO
  go_wp2_with fail
  refine (resolve_any ⟨fOps2, fN0⟩ _ 2 _ 2 fOk _ hg4 PB).mono ?_
  rw [fRes]
  rintro e w5 ⟨rfl, hb5⟩
  have V5 := (V4.below hb5 V4.lt).alloc (.cells #[.slice none 0 0, .slice none 0 0] 31)
  have T5 := (BT.below hb5 BT.lt).alloc (.cells #[.slice none 0 0, .slice none 0 0] 31)
  have v5 : (w5.alloc (.cells #[.slice none 0 0, .slice none 0 0] 31)).cell? ⟨w1.heap.size + 1 + 1 + 1 + 1 + 1 + 1 + 1 + 1 + 1 + 1 + 1 + 1 + 1 + 1 + 1 + 1, 7, none⟩ = some (.int .i64 0) := V5.cell 7
  obtain ⟨t0, t1, _⟩ := Blk.c2 T5
  have hb05 := (hb04.trans (hb5.mono hb04.size))
  have hb06 := hb05.alloc hb05.size (.cells #[.slice none 0 0, .slice none 0 0] 31)
  clear hb5 hb04 hg4 PB BT V4 R4 r0 hb4 hb03 V3 R3 N3 V5 T5
  go_wp2_with fail
  go_quiet ((go_at_call 13; exact Calls.quiet_of_same (num_any _ _)))
  go_wp2_with fail
  go_ret
  exact ⟨rfl, below_drewN hb06 _⟩
theorem scopeForms_8 (which : Int) (hk : wrap64 ((IntKind.u64.wrap which).tmod 12) = 8) (w : World) (hg : GE w) :
    Calls Tryd.prog 3 #[.int .i64 which] w fun e w' => e = .returned (.bool true) ∧ Below w.heap.size w w' := by
  go_enter Tryd.func3, Tryd.ntmps3
  go_wp2_with fail
  refine (scopeAwake_any w hg).mono ?_
  rintro e w1 ⟨rfl, hb1⟩
  have hg1 := hg.below hb1
  go_wp2_with fail
  change Calls Tryd.prog _ #[.agg #[.slice (some ⟨w1.heap.size + 17, 0, none⟩) 1 1, .slice (some ⟨w1.heap.size + 11, 0, none⟩) 4 4]] ((allocs w1 (fObjs w1.heap.size)).alloc (.cells (fOps.flatMap opCells).toArray 36)) _
  have hW := allocs_below (fObjs w1.heap.size) w1 w1.heap.size (Nat.le_refl _)
  have N1 := blk_allocs (fObjs w1.heap.size) w1 11 _ _ rfl
  have N0 := blk_allocs (fObjs w1.heap.size) w1 3 _ _ rfl
  have R1 := blk_allocs (fObjs w1.heap.size) w1 15 _ _ rfl
  have V1 := blk_allocs (fObjs w1.heap.size) w1 16 _ _ rfl
  have hsz : (allocs w1 (fObjs w1.heap.size)).heap.size = w1.heap.size + 17 := allocs_size _ _
  generalize allocs w1 (fObjs w1.heap.size) = W at *
  have hb2 : Below W.heap.size W (W.alloc (.cells (fOps.flatMap opCells).toArray 36)) := (Below.refl _ _).alloc (Nat.le_refl _) _
  have BO := Blk.new W 36 (fOps.flatMap opCells).toArray
  rw [hsz] at BO
  have hgW := (hg1.below hW).below hb2
  have hbW := (hb1.trans (hW.mono hb1.size)).trans (hb2.mono (Nat.le_trans hb1.size hW.size))
  have PA : PgAt _ _ (some ⟨w1.heap.size + 17, 0, none⟩) (some ⟨w1.heap.size + 11, 0, none⟩) ⟨fOps, fN8⟩ := ⟨ops_of_blk BO, nodes_of_blk (N1.below hb2 N1.lt)⟩
  refine (resolve_any ⟨fOps, fN8⟩ _ 1 _ 4 fOk8 _ hgW PA).mono ?_
  obtain ⟨a, ha⟩ := fRes8
  rw [ha]
  clear ha
  rintro e w3 ⟨rfl, hb3⟩
  have N3 := (N0.below hb2 N0.lt).below hb3 (N0.below hb2 N0.lt).lt
  have R3 := (R1.below hb2 R1.lt).below hb3 (R1.below hb2 R1.lt).lt
  have V3 := (V1.below hb2 V1.lt).below hb3 (V1.below hb2 V1.lt).lt
  have hg3 := hgW.below hb3
  have hb03 := hbW.trans (hb3.mono hbW.size)
  clear hb3 N1 N0 R1 V1 BO hgW hbW PA hb2 hW hb1 hg1
  have hb4 : Below w3.heap.size w3 ((w3.alloc (.cells #[.slice none 0 0, .slice none 0 0] 31)).alloc (.cells (fOps2.flatMap opCells).toArray 36)) := ((Below.refl _ _).alloc (Nat.le_refl _) _).alloc (by simp) _
  have R4 := R3.below hb4 R3.lt
  have V4 := V3.below hb4 V3.lt
  have r0 : ((w3.alloc (.cells #[.slice none 0 0, .slice none 0 0] 31)).alloc (.cells #[.string { data := #[97] }, .int .i64 0, .int .i64 0, .string { data := #[97] }, .int .i64 0, .int .i64 0] 36)).cell? ⟨w1.heap.size + 1 + 1 + 1 + 1 + 1 + 1 + 1 + 1 + 1 + 1 + 1 + 1 + 1 + 1 + 1, 0, none⟩ = some (.slice (some ⟨w1.heap.size + 1 + 1 + 1, 0, none⟩) 2 2) := R4.cell 0
  have BT := (Blk.new w3 31 #[.slice none 0 0, .slice none 0 0]).alloc (.cells (fOps2.flatMap opCells).toArray 36)
  have BO := Blk.new1 w3 (.cells #[.slice none 0 0, .slice none 0 0] 31) 36 (fOps2.flatMap opCells).toArray
  have PB : PgAt _ _ (some ⟨w3.heap.size + 1, 0, none⟩) (some ⟨w1.heap.size + 3, 0, none⟩) ⟨fOps2, fN0⟩ := ⟨ops_of_blk BO, nodes_of_blk (N3.below hb4 N3.lt)⟩
  have hg4 := hg3.below hb4
  have hb04 := hb03.trans (hb4.mono hb03.size)
  clear BO
  go_wp2_with fail
  refine (resolve_any ⟨fOps2, fN0⟩ _ 2 _ 2 fOk _ hg4 PB).mono ?_
  rw [fRes]
  rintro e w5 ⟨rfl, hb5⟩
  have V5 := (V4.below hb5 V4.lt).alloc (.cells #[.slice none 0 0, .slice none 0 0] 31)
  have T5 := (BT.below hb5 BT.lt).alloc (.cells #[.slice none 0 0, .slice none 0 0] 31)
  have v5 : (w5.alloc (.cells #[.slice none 0 0, .slice none 0 0] 31)).cell? ⟨w1.heap.size + 1 + 1 + 1 + 1 + 1 + 1 + 1 + 1 + 1 + 1 + 1 + 1 + 1 + 1 + 1 + 1, 8, none⟩ = some (.int .i64 601) := V5.cell 8
  obtain ⟨t0, t1, _⟩ := Blk.c2 T5
  have hb05 := (hb04.trans (hb5.mono hb04.size))
  have hb06 := hb05.alloc hb05.size (.cells #[.slice none 0 0, .slice none 0 0] 31)
  clear hb5 hb04 hg4 PB BT V4 R4 r0 hb4 hb03 V3 R3 N3 V5 T5
  go_wp2_with fail
  go_quiet ((go_at_call 13; exact Calls.quiet_of_same (num_any _ _)))
  go_wp2_with fail
  go_ret
  exact ⟨rfl, below_drewN hb06 _⟩
end Go.Proofs.YtiflfnnnbgmomaaDoor
