/- errors.As by its contracts: the walk at a *parse.want that a *lex.Fault wraps. -/
import Derived.Test.YtiflfnnnbgmomaaDoorAsC
namespace Go.Proofs.YtiflfnnnbgmomaaDoor
set_option linter.unusedVariables false
set_option linter.unusedSimpArgs false
open Go.RowKit Go.Extern.Stop Go.Stop Go.Extern
set_option maxRecDepth 100000

set_option maxHeartbeats 4000000 in
theorem as_want (fb : Nat) (v : Value) (t : Addr) (old : Value) (w : World) (hg : w.cell? ⟨0, 0, none⟩ = some (.iface TRT (.agg #[hd TER]))) (hfb : fb < w.heap.size) (hf1 : w.cell? ⟨fb, 1, none⟩ = some (.iface TW v)) (ht0 : w.cell? t = some old) (hf0 : w.frozen? t = false) :
    Calls Tryd.prog 44 #[.iface TF (.pointer (some ⟨fb, 0, none⟩)), .iface TPE (.pointer (some t))] w fun ev w' => ev = .returned (.bool true) ∧ ∃ w1, w' = w1.setCell t (.int .i64 403) ∧ Below w.heap.size w w1 := by
  have h69 := @run_callFunc_extern Tryd.prog 69 _ (fun args => ReflectliteValue.unpack (args.getD 0 (.tuple #[]))) Tryd.func69 (by kernel_rfl) (by kernel_rfl) (by kernel_rfl) (by kernel_rfl)
  have h70 := @run_callFunc_extern Tryd.prog 70 _ (ReflectliteValue.methodAny (ReflectliteValue.valueError "reflectlite.Value.Type" 0) (fun t _ _ _ => ReflectliteType.toType t)) Tryd.func70 (by kernel_rfl) (by kernel_rfl) (by kernel_rfl) (by kernel_rfl)
  have h71 := @run_callFunc_extern Tryd.prog 71 _ (ReflectliteValue.method (ReflectliteValue.valueError "reflectlite.Value.IsNil" 0) ReflectliteValue.isNil) Tryd.func71 (by kernel_rfl) (by kernel_rfl) (by kernel_rfl) (by kernel_rfl)
  have h160 := @run_callFunc_extern Tryd.prog 160 _ (ReflectliteType.abiMethod fun t => do pure (.int .u8 (← Rtype.kind t))) Tryd.func160 (by kernel_rfl) (by kernel_rfl) (by kernel_rfl) (by kernel_rfl)
  have h175 := @run_callFunc_extern Tryd.prog 175 _ (ReflectliteType.method ReflectliteType.elem) Tryd.func175 (by kernel_rfl) (by kernel_rfl) (by kernel_rfl) (by kernel_rfl)
  have h176 := @run_callFunc_extern Tryd.prog 176 _ (ReflectliteType.relation "Implements" ReflectliteType.implements_) Tryd.func176 (by kernel_rfl) (by kernel_rfl) (by kernel_rfl) (by kernel_rfl)
  have h96 := @run_callFunc_extern Tryd.prog 96 _ ReflectliteType.typeOf Tryd.func96 (by kernel_rfl) (by kernel_rfl) (by kernel_rfl) (by kernel_rfl)
  have h173 := @run_callFunc_extern Tryd.prog 173 _ (ReflectliteType.relation "AssignableTo" ReflectliteType.assignableTo) Tryd.func173 (by kernel_rfl) (by kernel_rfl) (by kernel_rfl) (by kernel_rfl)
  have h97 := @run_callFunc_extern Tryd.prog 97 _ (ReflectliteValue.method (ReflectliteValue.valueError "reflectlite.Value.Elem" 0) ReflectliteValue.elem) Tryd.func97 (by kernel_rfl) (by kernel_rfl) (by kernel_rfl) (by kernel_rfl)
  have h98 := @run_callFunc_extern Tryd.prog 98 _ ReflectliteValue.set Tryd.func98 (by kernel_rfl) (by kernel_rfl) (by kernel_rfl) (by kernel_rfl)
  have a1 := typeOfF
  have b1 := typeOfE
  have a2 := methodAss
  have a3 := assFE
  have b3 := assEE
  have a4 := valueOfE
  have a5 := valueOfPE
  have a6 := typePE
  have a7 := methodKind
  have a8 := methodElem
  have a9 := methodImpl
  have a10 := kindPE
  have a11 := kindE
  have a12 := elemPE
  have a13 := implE
  have c1 := unwrapF
  have c2 := taAsF
  have c3 := taUnF
  have d1 := unwrapW
  have d2 := taAsW
  have d3 := taUnW
  have d4 := typeOfW
  have d5 := assWE
  have n8 := isNilPE ⟨w.heap.size, 0, none⟩ t (As1 w t TPE) (by simp)
  have hlt : 0 < w.heap.size := by
    rcases Nat.eq_zero_or_pos w.heap.size with h0 | h
    · simp [World.cell?, h0] at hg
    · exact h
  have hg2 : (As1 w t TPE).cell? ⟨0, 0, none⟩ = some (.iface TRT (.agg #[hd TER])) := by
    rw [World.cell?_alloc_lt _ _ ⟨0, 0, none⟩ (by simp), World.cell?_alloc_lt _ _ ⟨0, 0, none⟩ hlt]; exact hg
  have htl : t.block < w.heap.size := by
    rcases Nat.lt_or_ge t.block w.heap.size with h | h
    · exact h
    · simp [World.cell?, Array.getElem?_eq_none h] at ht0
  have el := elemVPE ⟨w.heap.size, 0, none⟩ t ((As1 w t TPE).alloc (.cells #[hd TPE, .pointer (some ⟨w.heap.size, 0, none⟩), .int .u64 150] TRV)) ((((Blk.new w TPE _).alloc _).alloc _).cell 0)
  have st := setE t ⟨w.heap.size + 1 + 1 + 1, 0, none⟩ 403 old (((As1 w t TPE).alloc (.cells #[hd TPE, .pointer (some ⟨w.heap.size, 0, none⟩), .int .u64 150] TRV)).alloc (.cells #[.int .i64 403] TE))
    (by rw [World.cell?_alloc_at _ _ _ _ (by simp)]; rfl)
    (by rw [World.cell?_alloc_lt _ _ t (by simp; omega), World.cell?_alloc_lt _ _ t (by simp; omega), World.cell?_alloc_lt _ _ t (by simp; omega), World.cell?_alloc_lt _ _ t htl]; exact ht0)
    (by rw [World.frozen?_alloc_old _ _ t (by simp; omega), World.frozen?_alloc_old _ _ t (by simp; omega), World.frozen?_alloc_old _ _ t (by simp; omega), World.frozen?_alloc_old _ _ t (Nat.ne_of_lt htl)]; exact hf0)
  have fc : ((As1 w t TPE).alloc (.cells #[hd TPE, .pointer (some ⟨w.heap.size, 0, none⟩), .int .u64 150] TRV)).cell? ⟨fb, 1, none⟩ = some (.iface TW v) := by
    rw [World.cell?_alloc_lt _ _ ⟨fb, 1, none⟩ (by simp; omega), World.cell?_alloc_lt _ _ ⟨fb, 1, none⟩ (by simp; omega), World.cell?_alloc_lt _ _ ⟨fb, 1, none⟩ hfb]; exact hf1
  go_enter Tryd.func44, Tryd.ntmps44
  go_wp2
  refine wp_loop_rounds 3 ?_
  rw [rounds_succ]
  go_wp2
  rw [rounds_succ]
  go_wp2
  rw [rounds_succ]
  go_wp2
  go_ret
  refine ⟨rfl, _, rfl, ?_⟩
  refine Below.alloc (Below.alloc (Below.alloc (Below.alloc (Below.refl _ _) (Nat.le_refl _) _) ?_ _) ?_ _) ?_ _
  all_goals simp
  all_goals omega
end Go.Proofs.YtiflfnnnbgmomaaDoor
