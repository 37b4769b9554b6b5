/- The walk of tree.May. -/
import Derived.Test.YtiflfnnnbgmomaaDoorTreeJ
namespace Go.Proofs.YtiflfnnnbgmomaaDoor
set_option linter.unusedVariables false
set_option linter.unusedSimpArgs false
open Go.RowKit
set_option maxHeartbeats 1000000
set_option maxRecDepth 100000

/-- a program in memory: its two slices -/
structure PgAt (w : World) (B : Nat) (A : Option Addr) (A' : Option Addr) (p : Pg) : Prop where
  ops : OpsAt w B A p.ops
  nodes : NodesAt w B A' p.nodes
theorem PgAt.below {w w' : World} {A A' : Option Addr} {p : Pg} (h : PgAt w w.heap.size A A' p) (hb : Below w.heap.size w w') : PgAt w' w'.heap.size A A' p := ⟨h.ops.below hb, h.nodes.below hb⟩
/-- what is asked of a program's sizes -/
structure PgOk (p : Pg) : Prop where
  olen : p.ops.length ≤ maxLen
  nlen : p.nodes.length ≤ maxLen
  ook : ∀ o ∈ p.ops, o.name.length ≤ maxLen
  nok : ∀ n ∈ p.nodes, NdOk n
abbrev pgV (p : Pg) (A : Option Addr) (c : Nat) (A' : Option Addr) (c' : Nat) : Value := .agg #[.slice A p.ops.length c, .slice A' p.nodes.length c']
theorem treeMay_any (p : Pg) (A : Option Addr) (c : Nat) (A' : Option Addr) (c' : Nat) (hok : PgOk p) (w : World) (hg : G w) (hA : PgAt w w.heap.size A A' p) :
    Calls Tryd.prog 22 #[pgV p A c A' c'] w fun e w' => e = .returned (.bool p.may) ∧ Below w.heap.size w w' := by
  have hb1 : Below w.heap.size w (w.alloc (.cells #[.slice A p.ops.length c, .slice A' p.nodes.length c'] 31)) := (Below.refl _ _).alloc (Nat.le_refl _) _
  have B1 := Blk.new w 31 #[.slice A p.ops.length c, .slice A' p.nodes.length c']
  have hg1 := hg.below hb1
  have hA1 := hA.below hb1
  have HO := Lib.hid hA1.ops
  have HF := Lib.hid (show p.may = (opsMayB p.ops && shapedB p.nodes true) from rfl)
  cases hm : opsMayB p.ops
  all_goals have HM := Lib.hid hm
  all_goals clear hm
  · rw [HM.out] at HF
    go_enter Tryd.func22, Tryd.ntmps22
    go_wp2_with (go_at_call 41; refine (opsMay_any A c _ hok.olen hok.ook _ hg1 HO.out).mono ?_; rintro e w3 ⟨rfl, hb3⟩; rw [HM.out])
    go_ret
    exact ⟨ret_bool HF.out.symm, after_alloc hb3⟩
  · rw [HM.out] at HF
    go_enter Tryd.func22, Tryd.ntmps22
    go_wp2_with (first
      | (go_at_call 41; refine (opsMay_any A c _ hok.olen hok.ook _ hg1 HO.out).mono ?_; rintro e w3 ⟨rfl, hb3⟩; rw [HM.out]
         obtain ⟨c0, c1, _⟩ := (B1.below hb3 B1.lt).c2
         have hg3 := hg1.below hb3
         have HN := Lib.hid (hA1.below hb3).nodes)
      | (go_at_call 42; refine (shaped_any A' c' _ true hok.nlen hok.nok _ hg3 HN.out).mono ?_; rintro e w4 ⟨rfl, hb4⟩))
    go_ret
    have h3 := after_alloc hb3
    exact ⟨ret_bool (by rw [HF.out]; rfl), h3.trans (hb4.mono h3.size)⟩
end Go.Proofs.YtiflfnnnbgmomaaDoor
