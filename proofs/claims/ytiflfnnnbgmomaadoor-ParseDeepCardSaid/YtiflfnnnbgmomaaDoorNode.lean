/- Nodes and operations as the program's memory has them; '==' of two nodes. -/
import Derived.Test.YtiflfnnnbgmomaaDoorLexF
import Derived.Test.YtiflfnnnbgmomaaDoorTreeS
import Derived.Laws.StructEq
namespace Go.Proofs.YtiflfnnnbgmomaaDoor
set_option linter.unusedVariables false
set_option linter.unusedSimpArgs false
open Go.RowKit
set_option maxRecDepth 100000

def ndCells (n : Nd) : List Value := [.int .i64 n.kind, .int .i64 n.a, .int .i64 n.b, .int .i64 n.c, .int .i64 n.num, .string (ba n.name), .string (ba n.x), .string (ba n.y), .string (ba n.z), .int .i64 n.pos]
def opCells (o : OpD) : List Value := [.string (ba o.name), .int .i64 o.src, .int .i64 o.dst]
def ncells (ns : List Nd) : List Value := ns.flatMap ndCells
def ocells (os : List OpD) : List Value := os.flatMap opCells

section
variable {P : Program} {d : Nat} {xs ys : Array Value} {f : Field} {fs : List Field} {a b : Value} {r s : Bool} {w : World}
theorem eqf_cons (hn : (f.name == "_") = false) (ha : (part f.type xs f.offset).run P w = .ok a w) (hb : (part f.type ys f.offset).run P w = .ok b w) (he : (Op.equalIn d f.type a b).run P w = .ok r w) (hr : (Op.eqFields d xs ys fs).run P w = .ok s w) : (Op.eqFields d xs ys (f :: fs)).run P w = .ok (r && s) w := by
  have hn' : f.name ≠ "_" := by simpa using hn
  rw [Op.eqFields]
  simp only [if_pos hn', Sem.run_bind, ha, hb, he, Result.andThen_ok]
  cases r
  · simp
  · simpa using hr
theorem eqf_nil : (Op.eqFields d xs ys []).run P w = .ok true w := by simp [Op.eqFields]
theorem eqA_of {t : TypeId} {fs : Array Field} (hu : P.underlying t = some (.struct fs)) (hp : P.stoodInHeld t = false) (h : (Op.eqFields d xs ys fs.toList).run P w = .ok r w) : (Op.equalIn (d + 1) t (.agg xs) (.agg ys)).run P w = .ok r w := by
  have hf : P.fieldsOf t = fs := by simp [Program.fieldsOf, hu]
  rw [run_equalIn_struct (P := P) w d t xs ys (by rw [hf]; exact hu) hp, hf]
  exact h
theorem eqi {t : TypeId} {k : IntKind} (hu : P.underlying t = some (.int k)) (x y : Int) : (Op.equalIn (d + 1) t (.int k x) (.int k y)).run P w = .ok (x == y) w := by
  simp [Op.equalIn, run_underlying hu]
theorem eqs {t : TypeId} (hu : P.underlying t = some .string) (x y : ByteArray) : (Op.equalIn (d + 1) t (.string x) (.string y)).run P w = .ok (x == y) w := by
  simp [Op.equalIn, run_underlying hu]
end

theorem eql_node (k1 a1 b1 c1 n1 : Int) (s1 x1 y1 z1 : ByteArray) (p1 : Int) (k2 a2 b2 c2 n2 : Int) (s2 x2 y2 z2 : ByteArray) (p2 : Int) (w : World) :
    (binOp .eql 24 (.agg #[.int .i64 k1, .int .i64 a1, .int .i64 b1, .int .i64 c1, .int .i64 n1, .string s1, .string x1, .string y1, .string z1, .int .i64 p1])
      (.agg #[.int .i64 k2, .int .i64 a2, .int .i64 b2, .int .i64 c2, .int .i64 n2, .string s2, .string x2, .string y2, .string z2, .int .i64 p2])).run Tryd.prog w
      = .ok (.bool (k1 == k2 && (a1 == a2 && (b1 == b2 && (c1 == c2 && (n1 == n2 && (s1 == s2 && (x1 == x2 && (y1 == y2 && (z1 == z2 && (p1 == p2 && true))))))))))) w := by
  have h : ∀ w, (Op.equalIn 10000 24 (.agg #[.int .i64 k1, .int .i64 a1, .int .i64 b1, .int .i64 c1, .int .i64 n1, .string s1, .string x1, .string y1, .string z1, .int .i64 p1])
      (.agg #[.int .i64 k2, .int .i64 a2, .int .i64 b2, .int .i64 c2, .int .i64 n2, .string s2, .string x2, .string y2, .string z2, .int .i64 p2])).run Tryd.prog w
      = .ok (k1 == k2 && (a1 == a2 && (b1 == b2 && (c1 == c2 && (n1 == n2 && (s1 == s2 && (x1 == x2 && (y1 == y2 && (z1 == z2 && (p1 == p2 && true)))))))))) w := fun w =>
    eqA_of (d := 9999) Tryd.underlying24 (by kernel_rfl) (eqf_cons (by decide) (by kernel_rfl) (by kernel_rfl) (eqi (d := 9998) Tryd.underlying3 _ _) (eqf_cons (by decide) (by kernel_rfl) (by kernel_rfl) (eqi (d := 9998) Tryd.underlying3 _ _) (eqf_cons (by decide) (by kernel_rfl) (by kernel_rfl) (eqi (d := 9998) Tryd.underlying3 _ _) (eqf_cons (by decide) (by kernel_rfl) (by kernel_rfl) (eqi (d := 9998) Tryd.underlying3 _ _) (eqf_cons (by decide) (by kernel_rfl) (by kernel_rfl) (eqi (d := 9998) Tryd.underlying3 _ _) (eqf_cons (by decide) (by kernel_rfl) (by kernel_rfl) (eqs (d := 9998) Tryd.underlying9 _ _) (eqf_cons (by decide) (by kernel_rfl) (by kernel_rfl) (eqs (d := 9998) Tryd.underlying9 _ _) (eqf_cons (by decide) (by kernel_rfl) (by kernel_rfl) (eqs (d := 9998) Tryd.underlying9 _ _) (eqf_cons (by decide) (by kernel_rfl) (by kernel_rfl) (eqs (d := 9998) Tryd.underlying9 _ _) (eqf_cons (by decide) (by kernel_rfl) (by kernel_rfl) (eqi (d := 9998) Tryd.underlying3 _ _) (eqf_nil)))))))))))
  simp only [binOp]
  simp [Op.equal, Op.maxDepth, h]
end Go.Proofs.YtiflfnnnbgmomaaDoor
