/- The laws of parse: awake. -/
import Derived.Test.YtiflfnnnbgmomaaDoorParseQ
import Derived.Test.YtiflfnnnbgmomaaDoorSame
namespace Go.Proofs.YtiflfnnnbgmomaaDoor
set_option linter.unusedVariables false
set_option linter.unusedSimpArgs false
open Go.RowKit
set_option maxHeartbeats 2000000
set_option maxRecDepth 100000

theorem opsAt_blk {w : World} {g : Nat} {os : List OpD} (h : Blk w g 36 (os.flatMap opCells).toArray) : OpsAt w w.heap.size (some ⟨g, 0, none⟩) os :=
  OpsAt.of_row fun _ => ⟨g, 0, rfl, h.lt, fun i hi r u hu => by
    have hr : r < 3 := (List.getElem?_eq_some_iff.1 hu).1
    rw [Nat.zero_add, h.cell]
    have := flat_at opCells 3 opCells_len os i r hr
    rw [List.getElem?_eq_getElem hi, Option.bind_some, hu] at this
    simpa using this⟩
theorem nodesAt_blk {w : World} {g : Nat} {ns : List Nd} (h : Blk w g 24 (ns.flatMap ndCells).toArray) : NodesAt w w.heap.size (some ⟨g, 0, none⟩) ns :=
  NodesAt.of_row fun _ => ⟨g, 0, rfl, h.lt, fun i hi r u hu => by
    have hr : r < 10 := (List.getElem?_eq_some_iff.1 hu).1
    rw [Nat.zero_add, h.cell]
    have := flat_at ndCells 10 ndCells_len ns i r hr
    rw [List.getElem?_eq_getElem hi, Option.bind_some, hu] at this
    simpa using this⟩
theorem numP_any (n : Int) (w : World) : Calls Tryd.prog 13 #[.int .i64 n] w fun e w' => e = .returned (.int .i64 n) ∧ w' = w := by
  go_enter Tryd.func13, Tryd.ntmps13
  go_wp2
  go_ret
  exact ⟨rfl, rfl⟩
def isErr (R : Except (Int × Int) Pg) (a n : Int) : Bool := match R with | .error (x, m) => decide (x = a) && decide (m = n) | .ok _ => false
theorem of_isErr {R : Except (Int × Int) Pg} {a n : Int} (h : isErr R a n = true) : R = .error (a, n) := by
  unfold isErr at h
  split at h
  · simp only [Bool.and_eq_true, decide_eq_true_eq] at h
    rw [h.1, h.2]
  · cases h
def isOk (R : Except (Int × Int) Pg) (p : Pg) : Bool := match R with | .ok q => decide (q.ops = p.ops) && decide (q.nodes = p.nodes) | .error _ => false
theorem of_isOk {R : Except (Int × Int) Pg} {p : Pg} (h : isOk R p = true) : R = .ok p := by
  unfold isOk at h
  split at h
  · rename_i q
    simp only [Bool.and_eq_true, decide_eq_true_eq] at h
    cases q; cases p
    simp only at h
    rw [h.1, h.2]
  · cases h
def awOps : List OpD := [⟨[97], 0, 1⟩]
def awNodes : List Nd := [⟨0, 0, 0, 0, 0, [120], [], [], [], 29⟩, ⟨1, 0, 0, 0, 2, [], [], [], [], 33⟩, ⟨0, 0, 0, 0, 0, [121], [], [], [], 37⟩, ⟨8, 1, 2, 0, 2, [], [], [], [], 35⟩, ⟨8, 0, 3, 0, 0, [], [], [], [], 31⟩, ⟨3, 4, 0, 0, 0, [], [120], [], [], 20⟩]
theorem aw1 : parseB (tl { data := #[111, 112, 32, 97, 32, 58, 32, 105, 110, 116, 32, 45, 62, 32, 98, 111, 111, 108, 59, 32, 102, 117, 110, 32, 120, 32, 45, 62, 32, 120, 32, 43, 32, 50, 32, 42, 32, 121] }) = .ok ⟨awOps, awNodes⟩ := of_isOk (by kernel_rfl)
theorem aw2 : parseB (tl { data := #[102, 117, 110, 32, 120, 32, 45, 62] }) = .error (8, 403) := of_isErr (by kernel_rfl)
theorem aw3 : parseB (tl { data := #[120, 32, 36] }) = .error (2, 400) := of_isErr (by kernel_rfl)
theorem aw4 : parseB (tl { data := #[40, 120] }) = .error (2, 403) := of_isErr (by kernel_rfl)
theorem awOps_eq : decide (awOps = awOps) = true := decide_eq_true rfl
theorem awNodes_eq : decide (awNodes = awNodes) = true := decide_eq_true rfl
theorem PgAt.drewNP {w : World} {B : Nat} {A A' : Option Addr} {p : Pg} (h : PgAt w B A A' p) (n : Nat) : PgAt (w.drewN n) B A A' p := ⟨h.ops, h.nodes⟩
theorem Blk.newP2 (w : World) (O O' : Obj) (t : TypeId) (cs : Array Value) : Blk (((w.alloc O).alloc O').alloc (.cells cs t)) (w.heap.size + 1 + 1) t cs := by
  have := Blk.new ((w.alloc O).alloc O') t cs
  simpa using this
theorem parseAwake_any (w : World) (hg : GE w) :
    Calls Tryd.prog 18 #[] w fun e w' => e = .returned (.bool true) ∧ Below w.heap.size w w' := by
  go_enter Tryd.func18, Tryd.ntmps18
  go_wp2_with fail
  refine (parse_any _ (by decide) _ hg).mono ?_
  rw [aw1]
  rintro e w1 ⟨A1, c1, A1', c1', rfl, hP1, _, _, hb1⟩
  have hb1' : Below w1.heap.size w1 (w1.alloc (.cells #[.slice A1 awOps.length c1, .slice A1' awNodes.length c1'] 31)) := (Below.refl _ _).alloc (Nat.le_refl _) _
  have T1 := Blk.new w1 31 #[.slice A1 awOps.length c1, .slice A1' awNodes.length c1']
  have P1 := Lib.hid (hP1.below hb1')
  have hb01 := hb1.trans (hb1'.mono hb1.size)
  have g1 := hg.below hb01
  clear hP1
  go_wp2_with fail
  refine (parse_any _ (by decide) _ g1).mono ?_
  rw [aw2]
  rintro e w2 ⟨rfl, hb2⟩
  have hb2' : Below w2.heap.size w2 (w2.alloc (.cells #[.slice none 0 0, .slice none 0 0] 31)) := (Below.refl _ _).alloc (Nat.le_refl _) _
  have T2 := (T1.below hb2 T1.lt).below hb2' (T1.below hb2 T1.lt).lt
  have P2 := Lib.hid ((P1.out.below hb2).below hb2')
  have hb02 := hb01.trans ((hb2.trans (hb2'.mono hb2.size)).mono hb01.size)
  have g2 := hg.below hb02
  clear T1 P1
  go_wp2_with fail
  refine (parse_any _ (by decide) _ g2).mono ?_
  rw [aw3]
  rintro e w3 ⟨rfl, hb3⟩
  have hb3' : Below w3.heap.size w3 (w3.alloc (.cells #[.slice none 0 0, .slice none 0 0] 31)) := (Below.refl _ _).alloc (Nat.le_refl _) _
  have T3 := (T2.below hb3 T2.lt).below hb3' (T2.below hb3 T2.lt).lt
  have P3 := Lib.hid ((P2.out.below hb3).below hb3')
  have hb03 := hb02.trans ((hb3.trans (hb3'.mono hb3.size)).mono hb02.size)
  have g3 := hg.below hb03
  clear T2 P2
  go_wp2_with fail
  refine (parse_any _ (by decide) _ g3).mono ?_
  rw [aw4]
  rintro e w4 ⟨rfl, hb4⟩
  have hb4' : Below w4.heap.size w4 ((w4.alloc (.cells #[.slice none 0 0, .slice none 0 0] 31)).alloc (.cells (awOps.flatMap opCells).toArray 36)) := ((Below.refl _ _).alloc (Nat.le_refl _) _).alloc (by simp) _
  have T4 := (T3.below hb4 T3.lt).below hb4' (T3.below hb4 T3.lt).lt
  have P4 := Lib.hid ((P3.out.below hb4).below hb4')
  have hb04 := hb03.trans ((hb4.trans (hb4'.mono hb4.size)).mono hb03.size)
  obtain ⟨s0, s1, _⟩ := ((T3.below hb4 T3.lt).alloc (.cells #[.slice none 0 0, .slice none 0 0] 31)).c2
  obtain ⟨r0, r1, _⟩ := T4.c2
  have O4 := Lib.hid (opsAt_blk (Blk.new1 w4 (.cells #[.slice none 0 0, .slice none 0 0] 31) 36 (awOps.flatMap opCells).toArray))
  clear T3 P3
  go_wp2_with fail
  refine (sameOps_any A1 (some ⟨w4.heap.size + 1, 0, none⟩) c1 1 awOps awOps (by decide) _ P4.out.ops O4.out).mono ?_
  rw [awOps_eq]
  rintro e w5 ⟨rfl, n5, hw5⟩
  obtain rfl := hw5
  have hb5 : Below _ _ (((w4.alloc (.cells #[.slice none 0 0, .slice none 0 0] 31)).alloc (.cells (awOps.flatMap opCells).toArray 36)).alloc (.cells (awNodes.flatMap ndCells).toArray 24)) := (Below.refl _ _).alloc (Nat.le_refl _) _
  have N5 := Lib.hid (nodesAt_blk (Blk.newP2 w4 (.cells #[.slice none 0 0, .slice none 0 0] 31) (.cells (awOps.flatMap opCells).toArray 36) 24 (awNodes.flatMap ndCells).toArray))
  have P5 := Lib.hid (P4.out.below hb5)
  have hb05 := hb04.trans (hb5.mono hb04.size)
  have N6 : NodesAt ((((w4.alloc (.cells #[.slice none 0 0, .slice none 0 0] 31)).alloc (.cells (awOps.flatMap opCells).toArray 36)).alloc (.cells (awNodes.flatMap ndCells).toArray 24)).drewN n5) _ _ awNodes := N5.out
  have P6 : PgAt ((((w4.alloc (.cells #[.slice none 0 0, .slice none 0 0] 31)).alloc (.cells (awOps.flatMap opCells).toArray 36)).alloc (.cells (awNodes.flatMap ndCells).toArray 24)).drewN n5) _ _ _ _ := PgAt.drewNP P5.out n5
  go_wp2_with fail
  refine (sameNodes_any A1' (some ⟨w4.heap.size + 1 + 1, 0, none⟩) c1' 6 awNodes awNodes (by decide) _ P6.nodes N6).mono ?_
  rw [awNodes_eq]
  rintro e w6 ⟨rfl, n6, hw6⟩
  obtain rfl := hw6
  go_wp2_with ((go_at_call 13; refine (numP_any _ _).mono ?_; rintro e w10 ⟨rfl, hw10⟩; obtain rfl := hw10))
  go_ret
  exact ⟨rfl, below_drewN hb05 _⟩
end Go.Proofs.YtiflfnnnbgmomaaDoor
