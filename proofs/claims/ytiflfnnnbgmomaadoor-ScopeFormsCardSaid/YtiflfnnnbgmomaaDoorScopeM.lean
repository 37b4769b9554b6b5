/- The law ScopeForms: its awake. -/
import Derived.Test.YtiflfnnnbgmomaaDoorScopeL
import Derived.Test.YtiflfnnnbgmomaaDoorSame
namespace Go.Proofs.YtiflfnnnbgmomaaDoor
open Go.RowKit
set_option maxHeartbeats 2000000
set_option maxRecDepth 100000

def nX (k : Int) (s : Bs) (a : Int) (pos : Int) : Nd := ⟨k, a, 0, 0, 0, [], s, [], [], pos⟩
def P0 : Pg := ⟨[⟨[97], 0, 0⟩], [⟨0, 0, 0, 0, 0, [120], [], [], [], 0⟩, ⟨9, 0, 0, 0, 0, [97], [], [], [], 0⟩, nX 3 [121] 1 0, nX 3 [120] 2 5]⟩
def Q0 : Pg := ⟨[⟨[97], 0, 0⟩], [⟨0, 0, 0, 0, 1, [], [], [], [], 0⟩, ⟨9, 0, 0, 0, 0, [], [], [], [], 0⟩, nX 3 [] 1 0, nX 3 [] 2 5]⟩
def R0 : Pg := ⟨[], [⟨0, 0, 0, 0, 0, [120], [], [], [], 7⟩]⟩
theorem res_P0 : resolveB P0 = .ok Q0 := by kernel_rfl
theorem res_R0 : resolveB R0 = .error (7, 601) := by kernel_rfl
theorem res_E0 : resolveB ⟨[], []⟩ = .error (0, 600) := by kernel_rfl
theorem res_P1 : resolveB ⟨[], P0.nodes⟩ = .error (0, 602) := by kernel_rfl
theorem may_Q0 : scopeMayB Q0 = true := by kernel_rfl
theorem may_R0 : scopeMayB R0 = false := by kernel_rfl
theorem ops_of_blk {w : World} {g : Nat} {os : List OpD} (h : Blk w g 36 (os.flatMap opCells).toArray) : OpsAt w w.heap.size (some ⟨g, 0, none⟩) os :=
  OpsAt.of_row fun _ => ⟨g, 0, rfl, h.lt, fun i hi r u hu => by
    have hr : r < 3 := (List.getElem?_eq_some_iff.1 hu).1
    rw [Nat.zero_add, h.cell]
    have := flat_at opCells 3 opCells_len os i r hr
    rw [List.getElem?_eq_getElem hi, Option.bind_some, hu] at this
    simpa using this⟩
theorem nodes_of_blk {w : World} {g : Nat} {ns : List Nd} (h : Blk w g 24 (ns.flatMap ndCells).toArray) : NodesAt w w.heap.size (some ⟨g, 0, none⟩) ns :=
  NodesAt.of_row fun _ => ⟨g, 0, rfl, h.lt, fun i hi r u hu => by
    have hr : r < 10 := (List.getElem?_eq_some_iff.1 hu).1
    rw [Nat.zero_add, h.cell]
    have := flat_at ndCells 10 ndCells_len ns i r hr
    rw [List.getElem?_eq_getElem hi, Option.bind_some, hu] at this
    simpa using this⟩
theorem Blk.new2 (w : World) (O O' : Obj) (t : TypeId) (cs : Array Value) : Blk (((w.alloc O).alloc O').alloc (.cells cs t)) (w.heap.size + 1 + 1) t cs := by
  have := Blk.new ((w.alloc O).alloc O') t cs
  simpa using this
def Pg.small (p : Pg) : Bool := decide (p.ops.length ≤ 1000) && decide (p.nodes.length ≤ 1000) && p.ops.all (fun o => decide (o.name.length ≤ 1000)) && p.nodes.all (fun n => decide (n.name.length ≤ 1000) && decide (n.x.length ≤ 1000) && decide (n.y.length ≤ 1000) && decide (n.z.length ≤ 1000))
theorem Pg.small.ok {p : Pg} (h : p.small = true) : PgOk p := by
  unfold Pg.small at h
  simp only [Bool.and_eq_true, decide_eq_true_eq, List.all_eq_true] at h
  obtain ⟨⟨⟨h1, h2⟩, h3⟩, h4⟩ := h
  refine ⟨by unfold maxLen; omega, by unfold maxLen; omega, fun o ho => by have := h3 o ho; unfold maxLen; omega, fun n hn => ?_⟩
  obtain ⟨⟨⟨g1, g2⟩, g3⟩, g4⟩ := h4 n hn
  intro s hs
  simp only [List.mem_cons, List.mem_nil_iff, or_false] at hs
  unfold maxLen
  rcases hs with rfl | rfl | rfl | rfl <;> omega
theorem NodesAt.far {w : World} {B : Nat} {A : Option Addr} {ns : List Nd} (h : NodesAt w B A ns) {p : Addr} (hA : ∀ q, A = some q → q.block ≠ p.block) (u : Value) : NodesAt (w.setCell p u) B A ns := fun h0 => by
  obtain ⟨b, off, e, hb, hc⟩ := h h0
  have hne : b ≠ p.block := hA _ e
  have hk : ∀ o, (w.setCell p u).cell? ⟨b, o, none⟩ = w.cell? ⟨b, o, none⟩ := fun o => World.cell?_of_block (a := ⟨b, o, none⟩) (Below.heap_setCell w p u b hne)
  refine ⟨b, off, e, hb, fun i hi => ?_⟩
  have := hc i hi
  unfold Cells10 at this ⊢
  simpa only [hk] using this
theorem ok_P0 : PgOk P0 := Pg.small.ok (by decide)
theorem ok_Q0 : PgOk Q0 := Pg.small.ok (by decide)
theorem ok_R0 : PgOk R0 := Pg.small.ok (by decide)
theorem ok_E0 : PgOk ⟨[], []⟩ := Pg.small.ok (by decide)
theorem ok_P1 : PgOk ⟨[], P0.nodes⟩ := Pg.small.ok (by decide)
theorem pgAt_empty (w : World) (B : Nat) : PgAt w B none none ⟨[], []⟩ := ⟨fun h => absurd h (by simp), fun h => absurd h (by simp)⟩
theorem opsAt_nil (w : World) (B : Nat) (A : Option Addr) : OpsAt w B A [] := fun h => absurd h (by simp)
theorem PgAt.drewN {w : World} {B : Nat} {A A' : Option Addr} {p : Pg} (h : PgAt w B A A' p) (n : Nat) : PgAt (w.drewN n) B A A' p := ⟨h.ops, h.nodes⟩
theorem eq_Q0 : decide (Q0.nodes = Q0.nodes) = true := decide_eq_true rfl
theorem scopeAwake_any (w : World) (hg : GE w) :
    Calls Tryd.prog 11 #[] w fun e w' => e = .returned (.bool true) ∧ Below w.heap.size w w' := by
  have hbA : Below w.heap.size w (((w.alloc (.cells #[.string ⟨#[97]⟩, .int .i64 0, .int .i64 0] 36)).alloc (.cells (P0.nodes.flatMap ndCells).toArray 24)).alloc (.cells #[.slice (some ⟨w.heap.size, 0, none⟩) 1 1, .slice (some ⟨w.heap.size + 1, 0, none⟩) 4 4] 31)) :=
    (((Below.refl _ _).alloc (Nat.le_refl _) _).alloc (by simp) _).alloc (by simp; omega) _
  have BO := ((Blk.new w 36 (P0.ops.flatMap opCells).toArray).alloc (.cells (P0.nodes.flatMap ndCells).toArray 24)).alloc (.cells #[.slice (some ⟨w.heap.size, 0, none⟩) 1 1, .slice (some ⟨w.heap.size + 1, 0, none⟩) 4 4] 31)
  have BN := (Blk.new1 w (.cells #[.string ⟨#[97]⟩, .int .i64 0, .int .i64 0] 36) 24 (P0.nodes.flatMap ndCells).toArray).alloc (.cells #[.slice (some ⟨w.heap.size, 0, none⟩) 1 1, .slice (some ⟨w.heap.size + 1, 0, none⟩) 4 4] 31)
  have BP := Blk.new2 w (.cells #[.string ⟨#[97]⟩, .int .i64 0, .int .i64 0] 36) (.cells (P0.nodes.flatMap ndCells).toArray 24) 31 #[.slice (some ⟨w.heap.size, 0, none⟩) 1 1, .slice (some ⟨w.heap.size + 1, 0, none⟩) 4 4]
  have PA := Lib.hid (show PgAt _ _ (some ⟨w.heap.size, 0, none⟩) (some ⟨w.heap.size + 1, 0, none⟩) P0 from ⟨ops_of_blk BO, nodes_of_blk BN⟩)
  have gA := hg.below hbA
  have HBP := Lib.hid BP
  have NA := Lib.hid (nodes_of_blk BN)
  clear BO BN BP
  go_enter Tryd.func11, Tryd.ntmps11
  go_wp2_with fail
  refine (resolve_any P0 _ 1 _ 4 ok_P0 _ gA PA.out).mono ?_
  rw [res_P0]
  rintro e w2 ⟨A2, c2, A2', c2', rfl, hP2, hA2, hA2', hb2⟩
  have hA2 : ∀ a, A2 = some a → a.block ≠ w.heap.size + 1 + 1 := fun a ha => by have := hA2 a ha; simp at this; omega
  have hA2' : ∀ a, A2' = some a → a.block ≠ w.heap.size + 1 + 1 := fun a ha => by have := hA2' a ha; simp at this; omega
  have B2 := HBP.out.below hb2 HBP.out.lt
  have g2 := gA.below hb2
  have lw2 : w.heap.size + 1 + 1 < w2.heap.size := B2.lt
  have N2 := NA.out.below hb2
  have hb02 := hbA.trans (hb2.mono hbA.size)
  have HP2 := Lib.hid hP2
  clear hP2 hb2
  have hbB : Below w2.heap.size w2 (((w2.alloc (.cells #[.slice A2 Q0.ops.length c2, .slice A2' Q0.nodes.length c2'] 31)).alloc (.cells (R0.nodes.flatMap ndCells).toArray 24)).alloc (.cells #[.slice none 0 0, .slice (some ⟨w2.heap.size + 1, 0, none⟩) 1 1] 31)) :=
    (((Below.refl _ _).alloc (Nat.le_refl _) _).alloc (by simp) _).alloc (by simp; omega) _
  have BQ := ((Blk.new w2 31 #[.slice A2 Q0.ops.length c2, .slice A2' Q0.nodes.length c2']).alloc (.cells (R0.nodes.flatMap ndCells).toArray 24)).alloc (.cells #[.slice none 0 0, .slice (some ⟨w2.heap.size + 1, 0, none⟩) 1 1] 31)
  have BN := (Blk.new1 w2 (.cells #[.slice A2 Q0.ops.length c2, .slice A2' Q0.nodes.length c2'] 31) 24 (R0.nodes.flatMap ndCells).toArray).alloc (.cells #[.slice none 0 0, .slice (some ⟨w2.heap.size + 1, 0, none⟩) 1 1] 31)
  have BR := Blk.new2 w2 (.cells #[.slice A2 Q0.ops.length c2, .slice A2' Q0.nodes.length c2'] 31) (.cells (R0.nodes.flatMap ndCells).toArray 24) 31 #[.slice none 0 0, .slice (some ⟨w2.heap.size + 1, 0, none⟩) 1 1]
  have PR := Lib.hid (show PgAt _ _ none (some ⟨w2.heap.size + 1, 0, none⟩) R0 from ⟨opsAt_nil _ _ _, nodes_of_blk BN⟩)
  have gB := g2.below hbB
  have NB := N2.below hbB
  have B2' := B2.below hbB B2.lt
  have PQ := Lib.hid (HP2.out.below hbB)
  have hb0B := hb02.trans (hbB.mono hb02.size)
  have lB := hbB.size
  clear BN B2
  go_wp2_with fail
  refine (resolve_any R0 _ 0 _ 1 ok_R0 _ gB PR.out).mono ?_
  rw [res_R0]
  rintro e w3 ⟨rfl, hb3⟩
  have PQ3 := Lib.hid (PQ.out.below hb3)
  have PR3 := Lib.hid (PR.out.below hb3)
  have BQ3 := BQ.below hb3 BQ.lt
  have BR3 := BR.below hb3 BR.lt
  have BP3 := B2'.below hb3 B2'.lt
  have g3 := gB.below hb3
  have N3 := NB.below hb3
  have hb03 := hb0B.trans (hb3.mono hb0B.size)
  clear hb3 BQ BR B2' PQ PR
  have hbC : Below w3.heap.size w3 (w3.alloc (.cells #[.slice none 0 0, .slice none 0 0] 31)) := (Below.refl _ _).alloc (Nat.le_refl _) _
  have gC := g3.below hbC
  go_wp2_with fail
  refine (resolve_any ⟨[], []⟩ none 0 none 0 ok_E0 _ gC (pgAt_empty _ _)).mono ?_
  rw [res_E0]
  rintro e w4 ⟨rfl, hb4⟩
  have PQ4 := Lib.hid ((PQ3.out.below hbC).below hb4)
  have PR4 := Lib.hid ((PR3.out.below hbC).below hb4)
  have BQ4 := (BQ3.below hbC BQ3.lt).below hb4 (BQ3.below hbC BQ3.lt).lt
  have BR4 := (BR3.below hbC BR3.lt).below hb4 (BR3.below hbC BR3.lt).lt
  have BP4 := (BP3.below hbC BP3.lt).below hb4 (BP3.below hbC BP3.lt).lt
  have g4 := gC.below hb4
  have N4 := (N3.below hbC).below hb4
  have hb04 := hb03.trans ((hbC.trans (hb4.mono hbC.size)).mono hb03.size)
  clear hb4 BQ3 BR3 BP3 PQ3 PR3 N2 NB N3
  obtain ⟨p0, p1, pf⟩ := BP4.c2
  have hne5 : w.heap.size + 1 + 1 < w4.heap.size := BP4.lt
  have BP6 := (BP4.set_ 0 (.slice none 0 0)).alloc (.cells #[.slice none 0 0, .slice none 0 0] 31)
  obtain ⟨r0, r1, _⟩ := Blk.c2 (show Blk _ _ _ #[.slice none 0 0, .slice (some ⟨w.heap.size + 1, 0, none⟩) 4 4] from BP6)
  have hb05 := hb04.setCell (p := ⟨w.heap.size + 1 + 1, 0, none⟩) (by simp; omega) (.slice none 0 0)
  have hbD : Below (w4.setCell ⟨w.heap.size + 1 + 1, 0, none⟩ (.slice none 0 0)).heap.size (w4.setCell ⟨w.heap.size + 1 + 1, 0, none⟩ (.slice none 0 0)) ((w4.setCell ⟨w.heap.size + 1 + 1, 0, none⟩ (.slice none 0 0)).alloc (.cells #[.slice none 0 0, .slice none 0 0] 31)) := (Below.refl _ _).alloc (Nat.le_refl _) _
  have hb06 := hb05.trans (hbD.mono hb05.size)
  have hsz : (w4.setCell ⟨w.heap.size + 1 + 1, 0, none⟩ (.slice none 0 0)).heap.size = w4.heap.size := by simp
  have N6 := NodesAt.below (by rw [hsz]; exact NodesAt.far N4 (p := ⟨w.heap.size + 1 + 1, 0, none⟩) (fun q hq => by injection hq with hq; subst hq; simp) (.slice none 0 0)) hbD
  have PQ6 : PgAt _ _ A2 A2' Q0 := PgAt.below (by rw [hsz]; exact ⟨OpsAt.far PQ4.out.ops (p := ⟨w.heap.size + 1 + 1, 0, none⟩) hA2 (.slice none 0 0), NodesAt.far PQ4.out.nodes (p := ⟨w.heap.size + 1 + 1, 0, none⟩) hA2' (.slice none 0 0)⟩) hbD
  have PR6 : PgAt _ _ none (some ⟨w2.heap.size + 1, 0, none⟩) R0 := PgAt.below (by rw [hsz]; exact ⟨opsAt_nil _ _ _, NodesAt.far PR4.out.nodes (p := ⟨w.heap.size + 1 + 1, 0, none⟩) (fun q hq => by injection hq with hq; subst hq; simp; omega) (.slice none 0 0)⟩) hbD
  have BQ6 := (BQ4.far (p := ⟨w.heap.size + 1 + 1, 0, none⟩) (by simp; omega) (.slice none 0 0)).alloc (.cells #[.slice none 0 0, .slice none 0 0] 31)
  have BR6 := (BR4.far (p := ⟨w.heap.size + 1 + 1, 0, none⟩) (by simp; omega) (.slice none 0 0)).alloc (.cells #[.slice none 0 0, .slice none 0 0] 31)
  have g6 := hg.below hb06
  go_wp2_with fail
  refine (resolve_any ⟨[], P0.nodes⟩ none 0 (some ⟨w.heap.size + 1, 0, none⟩) 4 ok_P1 _ g6 ⟨opsAt_nil _ _ _, N6⟩).mono ?_
  rw [res_P1]
  rintro e w7 ⟨rfl, hb7⟩
  have hbE : Below w7.heap.size w7 ((w7.alloc (.cells #[.slice none 0 0, .slice none 0 0] 31)).alloc (.cells (Q0.nodes.flatMap ndCells).toArray 24)) := ((Below.refl _ _).alloc (Nat.le_refl _) _).alloc (by simp) _
  have BL := Blk.new1 w7 (.cells #[.slice none 0 0, .slice none 0 0] 31) 24 (Q0.nodes.flatMap ndCells).toArray
  have NL := Lib.hid (nodes_of_blk BL)
  have PQ8 := Lib.hid ((PQ6.below hb7).below hbE)
  have PR8 := Lib.hid ((PR6.below hb7).below hbE)
  have BQ8 := (BQ6.below hb7 BQ6.lt).below hbE (BQ6.below hb7 BQ6.lt).lt
  have BR8 := (BR6.below hb7 BR6.lt).below hbE (BR6.below hb7 BR6.lt).lt
  have hb07 := hb06.trans (hb7.mono hb06.size)
  have hb08 := hb07.trans (hbE.mono hb07.size)
  have g8 := hg.below hb08
  obtain ⟨q0, q1, _⟩ := ((BQ6.below hb7 BQ6.lt).alloc (.cells #[.slice none 0 0, .slice none 0 0] 31)).c2
  obtain ⟨u0, u1, _⟩ := BQ8.c2
  obtain ⟨v0, v1, _⟩ := BR8.c2
  have hlq : ((Q0.ops.length : Int) == 1) = true := rfl
  go_wp2_with fail
  refine (sameNodes_any A2' (some ⟨w7.heap.size + 1, 0, none⟩) c2' 4 Q0.nodes Q0.nodes (by decide) _ PQ8.out.nodes NL.out).mono ?_
  rw [eq_Q0]
  rintro e w9 ⟨rfl, nq, hw9⟩
  obtain rfl := hw9
  go_wp2_with ((go_at_call 13; refine (num_any _ _).mono ?_; rintro e w10 ⟨rfl, hw10⟩; obtain rfl := hw10))
  have hb9 := below_drewN hb08 nq
  have g9 := hg.below hb9
  have PQ9 : PgAt _ _ A2 A2' Q0 := PgAt.drewN PQ8.out nq
  have PR9 : PgAt _ _ none (some ⟨w2.heap.size + 1, 0, none⟩) R0 := PgAt.drewN PR8.out nq
  have BR9 := BR8.drewN nq
  refine (scopeMay_any Q0 A2 c2 A2' c2' ok_Q0 _ g9.g PQ9).mono ?_
  rw [may_Q0]
  rintro e w11 ⟨rfl, hb11⟩
  obtain ⟨s0, s1, _⟩ := (BR9.below hb11 BR9.lt).c2
  have PR11 := PR9.below hb11
  have g11 := g9.below hb11
  have hb011 := hb9.trans (hb11.mono hb9.size)
  go_wp2_with fail
  refine (scopeMay_any R0 none 0 (some ⟨w2.heap.size + 1, 0, none⟩) 1 ok_R0 _ g11.g PR11).mono ?_
  rw [may_R0]
  rintro e w12 ⟨rfl, hb12⟩
  go_wp2_with fail
  go_ret
  exact ⟨rfl, hb011.trans (hb12.mono hb011.size)⟩
end Go.Proofs.YtiflfnnnbgmomaaDoor
