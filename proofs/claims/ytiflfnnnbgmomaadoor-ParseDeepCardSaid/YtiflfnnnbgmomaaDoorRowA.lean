/- What the rows of this family take: the wrap that hands on the listed variables and the world's shape; what the listed variable errors.errorType gives a walk; a world that meets the condition. -/
import Derived.Test.YtiflfnnnbgmomaaDoorLexF
import Derived.Test.YtiflfnnnbgmomaaDoorRows
import Derived.ProofKit
import Derived.HandedShaped
import Derived.JoinedOf
import Derived.RowKitTokens
import Derived.LaidLaws
import Derived.LaidHandle
import Derived.Lay
import Derived.LaidOnce
import Derived.SevenTiedAt
import Derived.Stop.Joined
namespace Go.Proofs.YtiflfnnnbgmomaaDoor
set_option linter.unusedVariables false
set_option linter.unusedSimpArgs false
open Go.ChangeShapes Go.WideShapes Go.RowKit
set_option maxRecDepth 100000

theorem handed_and_shaped {H : Type} {enc : TypeId × Value → H} {a : Assume} {C : Checked} {os : Os} {f : FuncId} {fn : Func} {s : ChangeSpec} {conds : List PathCond} {apart fresh handsOn again : Bool} {X : World → Array Value → Prop}
    (hX : ∀ (w w' : World) (args : Array Value), w.heap = w'.heap → X w args → X w' args)
    (own : ownKnob C.prog.godebug = none) (started : os.Started) (noInit : C.prog.inits.idxOf? f = none) (hfn : C.prog.funcs[f]? = some fn)
    (witness : ∃ (w : World) (tape : Tape) (i : Input), w.os = os ∧ (w.forCall tape i).Shaped C.prog ∧ i.vars = [] ∧ Input.okWide C.prog (w.forCall tape i) .any w.heap.size f i ∧
      ((s.pre enc C.prog fn conds apart (w.forCall tape i).memory i.args ∧ X (w.forCall tape i).memory i.args) ∧ sizedMet enc C.prog fn (OpenSpec.ofChange s) apart (w.forCall tape i).memory i.args) ∧ a.holds C.prog (lone (Frame.enter C.prog f i.args .normal) [] (w.forCall tape i)))
    (contract : ∀ (W : World) (base : Nat) (args : Array Value) (ds gs : List (DataW H)) (before : List MemPlace),
      (∀ (j : Nat) t v, fn.params[j]? = some t → args[j]? = some v → Value.okWide C.prog W .any base t v) →
      DataW.Whole enc C.prog fn.params.toList s.vars apart W args.toList ds gs before →
      conds.all (PathCond.test C.prog ⟨fn.params.toList, ds, s.plain.varTypes C.prog, gs⟩) = true →
      (DataW.weightsEach C.prog (fn.params.toList ++ s.plain.varTypes C.prog) (ds ++ gs)).all (· ≤ reachBytes) = true → X W args → W.ShapedOpen C.prog →
      a.holds C.prog (lone (Frame.enter C.prog f args .normal) [] W) →
      Calls C.prog f args W fun e W' => ∃ v, e = .returned v ∧ s.post enc C.prog fn apart fresh handsOn again W args v W') :
    ReturnsInHanded a C os f .any (fun w args => (s.pre enc C.prog fn conds apart w args ∧ X w args) ∧ sizedMet enc C.prog fn (OpenSpec.ofChange s) apart w args) (s.post enc C.prog fn apart fresh handsOn again) := by
  refine returnsInHanded_of_calls own started noInit witness ?_
  intro w tape i _ hsh _ hok hpre hholds
  obtain ⟨_, _, _, fn', hfn', _, _, _, _, hval⟩ := hok
  have e : fn' = fn := Option.some.inj (hfn'.symm.trans hfn)
  subst e
  obtain ⟨⟨⟨ds, gs, before, hw, hc⟩, hx⟩, hz⟩ := hpre
  have hw' := DataW.Whole.of_heap (w' := w.forCall tape i) (by rfl) hw
  refine (contract (w.forCall tape i) w.heap.size i.args ds gs before hval hw' hc (hz.weights hw) (hX _ _ _ (by rfl) hx) hsh hholds).mono fun e W' ⟨v, he, hp⟩ => ?_
  subst he
  exact ChangeSpec.post_blind hp

theorem low_facts : decide (Tryd.prog.globals.size + 1 ≤ Tryd.prog.low) = true := by kernel_rfl
theorem low_of_shaped {w : World} (h : w.ShapedOpen Tryd.prog) : Tryd.prog.low ≤ w.heap.size := by
  have hl := of_decide_eq_true low_facts
  obtain ⟨o, _, ho, _⟩ := h.2 (Tryd.prog.low - 1) (by omega) (by unfold Program.low at hl ⊢; omega)
  have := (Array.getElem?_eq_some_iff.1 ho).1
  omega
theorem G.of_shaped {w : World} (h : w.ShapedOpen Tryd.prog) : G w := ⟨h, low_of_shaped h⟩
theorem own_none : ownKnob Tryd.prog.godebug = none := by kernel_rfl
theorem et_global : Tryd.prog.globalNamed "errors.errorType" = some 0 := by kernel_rfl
theorem rt_type : (Tryd.prog.cutTypes.find? (·.1 == "internal/reflectlite.rtype")).map (·.2) = some TRT := by kernel_rfl
theorem err_row : ((List.range Tryd.prog.types.size).filter fun t => Tryd.prog.rowNamed t [101, 114, 114, 111, 114]) = [TER] := by kernel_rfl
/-- what the condition on errors.errorType gives a walk -/
theorem et_of_handles {W : World} (h : handlesMet Tryd.prog [("errors.errorType", Rows.laid_errors_errorType)] W) : W.cell? ⟨0, 0, none⟩ = some (.iface TRT (.agg #[hd TER])) := by
  obtain ⟨name, u, ty, e1, e2, e3, e4, e5⟩ := h _ (List.mem_singleton.2 rfl)
  have en : name = [101, 114, 114, 111, 114] := (Option.some.inj e1).symm
  subst en
  obtain rfl := Option.some.inj (rt_type.symm.trans e2)
  have hm : ty ∈ (List.range Tryd.prog.types.size).filter fun t => Tryd.prog.rowNamed t [101, 114, 114, 111, 114] := List.mem_filter.2 ⟨List.mem_range.2 e3, e4⟩
  rw [err_row] at hm
  obtain rfl := List.mem_singleton.1 hm
  have hh : typeHandle Tryd.prog TER = hd TER := by kernel_rfl
  rw [hh] at e5
  simpa using World.var?_cell et_global e5 0

/-- the listed variables of the rows that list errors.errorType -/
def laidE : List (String × DataW Unit) := [("unicode/utf8.acceptRanges", Rows.laid_unicode_utf8_acceptRanges), ("errors.errorType", Rows.laid_errors_errorType), ("unicode/utf8.first", Rows.laid_unicode_utf8_first)]
def laidP : List (String × DataW Unit) := [("unicode/utf8.acceptRanges", Rows.laid_unicode_utf8_acceptRanges), ("unicode/utf8.first", Rows.laid_unicode_utf8_first)]
theorem laidE_handles : (laidE.filter fun x => x.2.handleName?.isSome) = [("errors.errorType", Rows.laid_errors_errorType)] := by kernel_rfl
theorem laidE_plain : (laidE.filter fun x => x.2.handleName?.isNone) = laidP := by kernel_rfl
theorem et_of_laid {W : World} (h : laidMetH Tryd.prog laidE W) : W.cell? ⟨0, 0, none⟩ = some (.iface TRT (.agg #[hd TER])) := by
  unfold laidMetH at h
  rw [laidE_handles] at h
  exact et_of_handles h.2
theorem GE.of_row {W : World} (h : laidMetH Tryd.prog laidE W) (hs : W.ShapedOpen Tryd.prog) : GE W := ⟨G.of_shaped hs, et_of_laid h⟩

/-- a world that meets the condition: the settled one, errors.errorType's cell laid, then the tables -/
noncomputable def worldE0 (os : Os) : World :=
  let w0 := World.holding Tryd.prog os ⟨#[], #[], []⟩
  { w0 with heap := w0.heap.modify 0 fun
      | .cells _ t frozen => .cells #[.iface TRT (.agg #[hd TER])] t frozen
      | o => o }
noncomputable def worldE (os : Os) : World := (worldE0 os).layVars Tryd.prog laidP
theorem worldE_met0 (os : Os) : laidMet Tryd.prog laidP (worldE os) := by
  have e1 : (laidP.filter fun x => (laidP.map (·.1)).contains x.1) = laidP := by kernel_rfl
  have e2 : (laidP.filter fun x => !(laidP.map (·.1)).contains x.1) = [] := by kernel_rfl
  exact laidMet_layVars (w0 := worldE0 os) (laidP.map (·.1)) [] (by rw [e1]; rfl) (by rw [e1]; kernel_rfl) (by rw [e1]; kernel_rfl) (by rw [e2]; exact LaidIn.none)
theorem worldE_met (os : Os) (args : Array Value) : laidMetH Tryd.prog laidE ((worldE os).forCall (fun _ _ => 0) ⟨#[], args, []⟩).memory := by
  refine laidMetH_of_parts ?_ ?_
  · rw [laidE_plain]
    exact (worldE_met0 os).of_heap (by simp [World.memory, World.forCall, Input.heap])
  · rw [laidE_handles]
    kernel_rfl
theorem worldE_os (os : Os) : (worldE os).os = os := World.layVars_os _ _ _
theorem worldE_shaped (os : Os) (args : Array Value) : ((worldE os).forCall (fun _ _ => 0) ⟨#[], args, []⟩).Shaped Tryd.prog := World.shaped_of_ZipB (by kernel_rfl) (by kernel_rfl)
end Go.Proofs.YtiflfnnnbgmomaaDoor
