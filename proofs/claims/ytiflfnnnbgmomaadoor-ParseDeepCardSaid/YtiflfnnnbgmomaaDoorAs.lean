/- errors.As by its contracts at this program's two targets: a variable of type *lex.Fault, a variable of type api.Errno. (After the guide's worked text on errors.As.) -/
import Derived.Test.YtiflfnnnbgmomaaDoorMem
import Derived.Test.YtiflfnnnbgmomaaDoorLexE
import Derived.LaidEql
import Derived.Stop.Asserts
import Derived.RowKitTokens
import Derived.Outline
namespace Go.Proofs.YtiflfnnnbgmomaaDoor
set_option linter.unusedVariables false
set_option linter.unusedSimpArgs false
open Go.RowKit Go.Extern.Stop Go.Stop Go.Extern
set_option maxRecDepth 100000

abbrev TF := 91
abbrev TFF := 93
abbrev TE := 32
abbrev TPE := 94
abbrev TW := 84
abbrev TER := 58
abbrev TRT := 156
abbrev TRV := 126
/-- the handle of a type -/
abbrev hd (t : Nat) : Value := .pointer (some ⟨7, t, none⟩)
/-- a reflectlite.Value: its type, its variable's address, its flag -/
abbrev rv (t : Nat) (a : Addr) (f : Int) : Value := .agg #[hd t, .pointer (some a), .int .u64 f]

theorem as_nil (t : Value) (w : World) :
    Calls Tryd.prog 44 #[.nilIface, t] w fun e w' => e = .returned (.bool false) ∧ w' = w := by
  go_enter Tryd.func44, Tryd.ntmps44
  go_wp2
  go_ret
  exact ⟨rfl, rfl⟩

/-! closed facts on the model's entries, at this program's types -/
theorem valueOfFF (t : Addr) (w : World) : (ReflectliteValue.unpack (.iface TFF (.pointer (some t)))).run Tryd.prog w = .ok (rv TFF ⟨w.heap.size, 0, none⟩ 150) (w.alloc (.cells #[.pointer (some t)] TFF)) := by kernel_rfl
theorem valueOfPE (t : Addr) (w : World) : (ReflectliteValue.unpack (.iface TPE (.pointer (some t)))).run Tryd.prog w = .ok (rv TPE ⟨w.heap.size, 0, none⟩ 150) (w.alloc (.cells #[.pointer (some t)] TPE)) := by kernel_rfl
theorem typeFF (a : Addr) (w : World) : (ReflectliteValue.methodAny (ReflectliteValue.valueError "reflectlite.Value.Type" 0) (fun t _ _ _ => ReflectliteType.toType t) #[rv TFF a 150]).run Tryd.prog w = .ok (.iface TRT (.agg #[hd TFF])) w := by kernel_rfl
theorem typePE (a : Addr) (w : World) : (ReflectliteValue.methodAny (ReflectliteValue.valueError "reflectlite.Value.Type" 0) (fun t _ _ _ => ReflectliteType.toType t) #[rv TPE a 150]).run Tryd.prog w = .ok (.iface TRT (.agg #[hd TPE])) w := by kernel_rfl
theorem kindFF (w : World) : ((ReflectliteType.abiMethod fun t => (fun a : Nat => Value.int IntKind.u8 (a : Int)) <$> Rtype.kind t) #[hd TFF]).run Tryd.prog w = .ok (.int .u8 22) w := by kernel_rfl
theorem kindPE (w : World) : ((ReflectliteType.abiMethod fun t => (fun a : Nat => Value.int IntKind.u8 (a : Int)) <$> Rtype.kind t) #[hd TPE]).run Tryd.prog w = .ok (.int .u8 22) w := by kernel_rfl
theorem kindF (w : World) : ((ReflectliteType.abiMethod fun t => (fun a : Nat => Value.int IntKind.u8 (a : Int)) <$> Rtype.kind t) #[hd TF]).run Tryd.prog w = .ok (.int .u8 22) w := by kernel_rfl
theorem kindE (w : World) : ((ReflectliteType.abiMethod fun t => (fun a : Nat => Value.int IntKind.u8 (a : Int)) <$> Rtype.kind t) #[hd TE]).run Tryd.prog w = .ok (.int .u8 2) w := by kernel_rfl
theorem elemFF (w : World) : (ReflectliteType.method ReflectliteType.elem #[.agg #[hd TFF]]).run Tryd.prog w = .ok (.iface TRT (.agg #[hd TF])) w := by kernel_rfl
theorem elemPE (w : World) : (ReflectliteType.method ReflectliteType.elem #[.agg #[hd TPE]]).run Tryd.prog w = .ok (.iface TRT (.agg #[hd TE])) w := by kernel_rfl
theorem implF (w : World) : (ReflectliteType.relation "Implements" ReflectliteType.implements_ #[.agg #[hd TF], .iface TRT (.agg #[hd TER])]).run Tryd.prog w = .ok (.bool true) w := by kernel_rfl
theorem implE (w : World) : (ReflectliteType.relation "Implements" ReflectliteType.implements_ #[.agg #[hd TE], .iface TRT (.agg #[hd TER])]).run Tryd.prog w = .ok (.bool true) w := by kernel_rfl
theorem typeOfF (v : Value) (w : World) : (ReflectliteType.typeOf #[.iface TF v]).run Tryd.prog w = .ok (.iface TRT (.agg #[hd TF])) w := by kernel_rfl
theorem typeOfE (v : Value) (w : World) : (ReflectliteType.typeOf #[.iface TE v]).run Tryd.prog w = .ok (.iface TRT (.agg #[hd TE])) w := by kernel_rfl
theorem typeOfW (v : Value) (w : World) : (ReflectliteType.typeOf #[.iface TW v]).run Tryd.prog w = .ok (.iface TRT (.agg #[hd TW])) w := by kernel_rfl
theorem assFF (w : World) : (ReflectliteType.relation "AssignableTo" ReflectliteType.assignableTo #[.agg #[hd TF], .iface TRT (.agg #[hd TF])]).run Tryd.prog w = .ok (.bool true) w := by kernel_rfl
theorem assEE (w : World) : (ReflectliteType.relation "AssignableTo" ReflectliteType.assignableTo #[.agg #[hd TE], .iface TRT (.agg #[hd TE])]).run Tryd.prog w = .ok (.bool true) w := by kernel_rfl
theorem assFE (w : World) : (ReflectliteType.relation "AssignableTo" ReflectliteType.assignableTo #[.agg #[hd TF], .iface TRT (.agg #[hd TE])]).run Tryd.prog w = .ok (.bool false) w := by kernel_rfl
theorem assWE (w : World) : (ReflectliteType.relation "AssignableTo" ReflectliteType.assignableTo #[.agg #[hd TW], .iface TRT (.agg #[hd TE])]).run Tryd.prog w = .ok (.bool false) w := by kernel_rfl
theorem valueOfF (e : Addr) (w : World) : (ReflectliteValue.unpack (.iface TF (.pointer (some e)))).run Tryd.prog w = .ok (rv TF ⟨w.heap.size, 0, none⟩ 150) (w.alloc (.cells #[.pointer (some e)] TF)) := by kernel_rfl
theorem valueOfE (n : Int) (w : World) : (ReflectliteValue.unpack (.iface TE (.int .i64 n))).run Tryd.prog w = .ok (rv TE ⟨w.heap.size, 0, none⟩ 130) (w.alloc (.cells #[.int .i64 n] TE)) := by kernel_rfl
theorem elemOfFF (w : World) : (Rtype.elem? TFF).run Tryd.prog w = .ok (some TF) w := by kernel_rfl
theorem elemOfPE (w : World) : (Rtype.elem? TPE).run Tryd.prog w = .ok (some TE) w := by kernel_rfl
theorem mkF (p : Addr) (w : World) : (ReflectliteValue.mk TF p ReflectliteValue.flagAddr).run Tryd.prog w = .ok (rv TF p 406) w := by kernel_rfl
theorem mkE (p : Addr) (w : World) : (ReflectliteValue.mk TE p ReflectliteValue.flagAddr).run Tryd.prog w = .ok (rv TE p 386) w := by kernel_rfl
theorem partsFF (a : Addr) (w : World) : (ReflectliteValue.parts (rv TFF a 150)).run Tryd.prog w = .ok (some (TFF, a, 150)) w := by kernel_rfl
theorem partsPE (a : Addr) (w : World) : (ReflectliteValue.parts (rv TPE a 150)).run Tryd.prog w = .ok (some (TPE, a, 150)) w := by kernel_rfl
theorem partsFa (a : Addr) (w : World) : (ReflectliteValue.parts (rv TF a 406)).run Tryd.prog w = .ok (some (TF, a, 406)) w := by kernel_rfl
theorem partsF (a : Addr) (w : World) : (ReflectliteValue.parts (rv TF a 150)).run Tryd.prog w = .ok (some (TF, a, 150)) w := by kernel_rfl
theorem partsEa (a : Addr) (w : World) : (ReflectliteValue.parts (rv TE a 386)).run Tryd.prog w = .ok (some (TE, a, 386)) w := by kernel_rfl
theorem partsE (a : Addr) (w : World) : (ReflectliteValue.parts (rv TE a 130)).run Tryd.prog w = .ok (some (TE, a, 130)) w := by kernel_rfl
theorem directF (w : World) : (Rtype.directlyAssignable TF TF).run Tryd.prog w = .ok true w := by kernel_rfl
theorem directE (w : World) : (Rtype.directlyAssignable TE TE).run Tryd.prog w = .ok true w := by kernel_rfl
theorem methodKind (h : Value) (w : World) : (Go.method 329 TRT (.agg #[h]) "Kind").run Tryd.prog w = .ok (160, h) w := by kernel_rfl
theorem methodElem (h : Value) (w : World) : (Go.method 329 TRT (.agg #[h]) "Elem").run Tryd.prog w = .ok (175, .agg #[h]) w := by kernel_rfl
theorem methodImpl (h : Value) (w : World) : (Go.method 329 TRT (.agg #[h]) "Implements").run Tryd.prog w = .ok (176, .agg #[h]) w := by kernel_rfl
theorem methodAss (h : Value) (w : World) : (Go.method 329 TRT (.agg #[h]) "AssignableTo").run Tryd.prog w = .ok (173, .agg #[h]) w := by kernel_rfl
end Go.Proofs.YtiflfnnnbgmomaaDoor
