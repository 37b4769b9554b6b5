/- The walk of scope.twice: a map of the call's own, its keys texts, each of its elements true. -/
import Derived.Test.YtiflfnnnbgmomaaDoorTreeK
import Derived.Test.YtiflfnnnbgmomaaDoorScopeS
namespace Go.Proofs.YtiflfnnnbgmomaaDoor
open Go.RowKit
set_option maxHeartbeats 1000000
set_option maxRecDepth 100000

/-- block b is a map whose keys are just these texts, in this order -/
def MapIs (w : World) (b : Nat) (ss : List Bs) : Prop :=
  ∃ es clock, w.heap[b]? = some (.map es clock) ∧ es.toList.map (fun e => (e.key, e.val)) = ss.map fun s => (Value.string (ba s), Value.bool true)
theorem findNow_str (s : Bs) : ∀ (es : List MapEntry) (ss : List Bs) (i : Nat), es.map (fun e => (e.key, e.val)) = ss.map (fun s => (Value.string (ba s), Value.bool true)) →
    (if ss.contains s then ∃ j, Instr.findNow .string (.string (ba s)) es i = some (some (j, .bool true)) else Instr.findNow .string (.string (ba s)) es i = some none)
  | [], ss, i, h => by
    have : ss = [] := by simpa using h.symm
    subst this
    simp [Instr.findNow]
  | e :: es, ss, i, h => by
    match ss, h with
    | t :: ts, h =>
      simp only [List.map_cons, List.cons.injEq, Prod.mk.injEq] at h
      obtain ⟨⟨hk, hv⟩, hr⟩ := h
      have ih := findNow_str s es ts (i + 1) hr
      unfold Instr.findNow
      rw [hk]
      by_cases hst : s = t
      · subst hst
        simp only [List.contains_cons, beq_self_eq_true, Bool.true_or, if_true]
        have hb : (ba s == ba s) = true := by rw [ba_beq]; simp
        simp only [Instr.sameNow, hb]
        exact ⟨i, by rw [hv]⟩
      · have hb : (ba s == ba t) = false := by rw [ba_beq]; simpa using hst
        have hst' : (s == t) = false := by simpa using hst
        simp only [List.contains_cons, hst', Bool.false_or, Instr.sameNow, hb]
        exact ih
theorem get_map {w : World} {b : Nat} {es : Array MapEntry} {clock : Nat} (h : w.heap[b]? = some (.map es clock)) : (getObj b).run Tryd.prog w = .ok (.map es clock) w := by
  simp [getObj, Sem.run, h]
theorem set_map {w : World} {b : Nat} {es : Array MapEntry} {clock : Nat} (h : w.heap[b]? = some (.map es clock)) (o : Obj) : (setObj b o).run Tryd.prog w = .ok () { w with heap := w.heap.setIfInBounds b o } := by
  simp [setObj, Sem.run, h]
theorem check_str (b : Bool) (n : Nat) (s : ByteArray) (w : World) : (Instr.checkKey b (n + 1) 9 (.string s)).run Tryd.prog w = .ok () w := by
  rw [Instr.checkKey]
  simp [run_underlying Tryd.underlying9]
theorem find_str (s : Bs) (es : List MapEntry) (r : Option (Nat × Value)) (h : Instr.findNow .string (.string (ba s)) es 0 = some r) (w : World) : (Instr.findKey 9 (.string (ba s)) es).run Tryd.prog w = .ok r w := by
  simp [Instr.findKey, run_underlying Tryd.underlying9, h]
theorem map_look (w : World) (b : Nat) (ss : List Bs) (s : Bs) (h : MapIs w b ss) :
    (Instr.lookup 90 (.map (some b)) (.string (ba s)) false).run Tryd.prog w = .ok (.bool (ss.contains s)) w := by
  obtain ⟨es, clock, hb, he⟩ := h
  have hf := findNow_str s es.toList ss 0 he
  have hz : (zeroValue 4).run Tryd.prog w = .ok (.bool false) w := by kernel_rfl
  cases hc : ss.contains s with
  | true =>
    rw [hc] at hf
    simp only [if_true] at hf
    obtain ⟨j, hj⟩ := hf
    simp [Instr.lookup, run_underlying Tryd.underlying90, get_map hb, check_str _ 9999, find_str s es.toList _ hj]
  | false =>
    rw [hc] at hf
    simp only [Bool.false_eq_true, if_false] at hf
    simp [Instr.lookup, run_underlying Tryd.underlying90, get_map hb, check_str _ 9999, find_str s es.toList _ hf, hz]
theorem map_put (w : World) (b : Nat) (ss : List Bs) (s : Bs) (h : MapIs w b ss) (hn : ss.contains s = false) :
    ∃ w', (Instr.mapUpdate 90 (.map (some b)) (.string (ba s)) (.bool true)).run Tryd.prog w = .ok () w' ∧ MapIs w' b (ss ++ [s]) ∧ w.grownBy w' (some b) := by
  obtain ⟨es, clock, hb, he⟩ := h
  have hf := findNow_str s es.toList ss 0 he
  rw [hn] at hf
  simp only [Bool.false_eq_true, if_false] at hf
  have hlt := (Array.getElem?_eq_some_iff.1 hb).1
  refine ⟨{ w with heap := w.heap.setIfInBounds b (.map (es.push ⟨.string (ba s), .bool true, clock⟩) (clock + 1)) }, ?_, ⟨es.push ⟨.string (ba s), .bool true, clock⟩, clock + 1, ?_, ?_⟩, ?_⟩
  · simp [Instr.mapUpdate, run_underlying Tryd.underlying90, get_map hb, check_str _ 9999, find_str s es.toList _ hf, set_map hb]
  · simp [hlt]
  · simp [he]
  · refine ⟨rfl, rfl, rfl, by simp, fun i hi hne => ?_⟩
    have : b ≠ i := fun e => hne (by rw [e])
    simp [this]
end Go.Proofs.YtiflfnnnbgmomaaDoor
