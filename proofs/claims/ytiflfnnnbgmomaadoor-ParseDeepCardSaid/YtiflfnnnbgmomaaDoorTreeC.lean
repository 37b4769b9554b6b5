/- What tree.may does to a node's cells: plain lemmas. -/
import Derived.Test.YtiflfnnnbgmomaaDoorTreeB
namespace Go.Proofs.YtiflfnnnbgmomaaDoor
set_option linter.unusedVariables false
set_option linter.unusedSimpArgs false
open Go.RowKit
set_option maxHeartbeats 400000

def ndArr (n : Nd) : Array Value := #[.int .i64 n.kind, .int .i64 n.a, .int .i64 n.b, .int .i64 n.c, .int .i64 n.num, .string (ba n.name), .string (ba n.x), .string (ba n.y), .string (ba n.z), .int .i64 n.pos]
def clr (cs : Array Value) (offs : List Nat) (v : Value) : Array Value := offs.foldl (fun cs o => cs.setIfInBounds o v) cs
theorem clr_step (cs : Array Value) (offs : List Nat) (v : Value) (i : Nat) (h : i < offs.length) : clr cs (offs.take (i + 1)) v = (clr cs (offs.take i) v).setIfInBounds offs[i] v := by
  unfold clr
  rw [List.take_succ_eq_append_getElem h, List.foldl_append]
  rfl
theorem names_len (n : Nd) : n.names.length = (nameOffs n.kind).length := by
  unfold Nd.names nameOffs
  repeat' split
  all_goals rfl
theorem kind_cases (n : Nd) : (n.kind = 0 ∨ n.kind = 9) ∨ (n.kind = 3 ∨ n.kind = 5) ∨ n.kind = 6 ∨ n.kind = 10 ∨ (¬ (n.kind = 0 ∨ n.kind = 9) ∧ ¬ (n.kind = 3 ∨ n.kind = 5) ∧ ¬ n.kind = 6 ∧ ¬ n.kind = 10) := by omega
theorem clr_names (n : Nd) : clr (ndArr n) (nameOffs n.kind) (.string (ba [])) = ndArr n.noNames := by
  rcases kind_cases n with h | h | h | h | ⟨h1, h2, h3, h4⟩
  · simp [nameOffs, Nd.noNames, h, clr, ndArr]
  · have h' : ¬ (n.kind = 0 ∨ n.kind = 9) := by omega
    simp [nameOffs, Nd.noNames, h, h', clr, ndArr]
  · simp [nameOffs, Nd.noNames, h, clr, ndArr]
  · simp [nameOffs, Nd.noNames, h, clr, ndArr]
  · simp [nameOffs, Nd.noNames, h1, h2, h3, h4, clr, ndArr]
theorem clr_name_at (n : Nd) (i : Nat) (h : i < (nameOffs n.kind).length) (h' : i < n.names.length) :
    (clr (ndArr n) ((nameOffs n.kind).take i) (.string (ba [])))[(nameOffs n.kind)[i]]? = some (.string (ba n.names[i])) := by
  rcases kind_cases n with g | g | g | g | ⟨h1, h2, h3, h4⟩
  · have e : nameOffs n.kind = [5] := by simp [nameOffs, g]
    have e' : n.names = [n.name] := by simp [Nd.names, g]
    simp only [e, e'] at h h' ⊢
    match i, h with
    | 0, _ => simp [clr, ndArr]
  · have g' : ¬ (n.kind = 0 ∨ n.kind = 9) := by omega
    have e : nameOffs n.kind = [6] := by simp [nameOffs, g, g']
    have e' : n.names = [n.x] := by simp [Nd.names, g, g']
    simp only [e, e'] at h h' ⊢
    match i, h with
    | 0, _ => simp [clr, ndArr]
  · have e : nameOffs n.kind = [6, 7] := by simp [nameOffs, g]
    have e' : n.names = [n.x, n.y] := by simp [Nd.names, g]
    simp only [e, e'] at h h' ⊢
    match i, h with
    | 0, _ => simp [clr, ndArr]
    | 1, _ => simp [clr, ndArr]
  · have e : nameOffs n.kind = [5, 6, 7, 8] := by simp [nameOffs, g]
    have e' : n.names = [n.name, n.x, n.y, n.z] := by simp [Nd.names, g]
    simp only [e, e'] at h h' ⊢
    match i, h with
    | 0, _ => simp [clr, ndArr]
    | 1, _ => simp [clr, ndArr]
    | 2, _ => simp [clr, ndArr]
    | 3, _ => simp [clr, ndArr]
  · have e : nameOffs n.kind = [] := by simp [nameOffs, h1, h2, h3, h4]
    rw [e] at h
    simp at h
theorem noNames_kind (n : Nd) : n.noNames.kind = n.kind := by
  unfold Nd.noNames
  repeat' split
  all_goals rfl
theorem clr_size (cs : Array Value) (offs : List Nat) (v : Value) : (clr cs offs v).size = cs.size := by
  unfold clr
  induction offs generalizing cs with
  | nil => rfl
  | cons o r ih => rw [List.foldl_cons, ih]; simp
def kidOffs (k : Int) : List Nat := [1, 2, 3].take (kidsN k)
theorem clr_kids (n : Nd) : clr (ndArr n) (kidOffs n.kind) (.int .i64 0) = ndArr n.noKids := by
  unfold kidOffs Nd.noKids
  have h : kidsN n.kind = 0 ∨ kidsN n.kind = 1 ∨ kidsN n.kind = 2 ∨ kidsN n.kind = 3 := by
    unfold kidsN
    repeat' split
    all_goals simp
  rcases h with h | h | h | h <;> simp [h, clr, ndArr]
theorem noKids_kind (n : Nd) : n.noKids.kind = n.kind := by
  unfold Nd.noKids
  repeat' split
  all_goals rfl
theorem noKids_pos (n : Nd) : n.noKids.pos = n.pos := by
  unfold Nd.noKids
  repeat' split
  all_goals rfl
theorem noNames_pos (n : Nd) : n.noNames.pos = n.pos := by
  unfold Nd.noNames
  repeat' split
  all_goals rfl
theorem ndArr_num (n : Nd) : (ndArr n).setIfInBounds 4 (.int .i64 0) = ndArr { n with num := 0 } := by simp [ndArr]
theorem kidOff_lt (k : Int) (i : Nat) (h : i < (kidOffs k).length) : 1 ≤ (kidOffs k)[i] ∧ (kidOffs k)[i] ≤ 3 := by
  have hm : (kidOffs k)[i] ∈ kidOffs k := List.getElem_mem h
  have : ∀ o ∈ kidOffs k, 1 ≤ o ∧ o ≤ 3 := by
    intro o ho
    have := List.mem_of_mem_take ho
    simp at this
    omega
  exact this _ hm
theorem bytes_eq (a b : ByteArray) : (a == b) = decide (tl a = tl b) := by
  rw [beq_toListBytes, toList_tl, toList_tl, Bool.eq_iff_iff]
  simp
theorem ba_beq (a b : Bs) : (ba a == ba b) = decide (a = b) := by rw [bytes_eq, tl_ba, tl_ba]
def isBare (n : Nd) : Bool := decide (n = n.bare)
theorem nameOffs_le (k : Int) : (nameOffs k).length ≤ 4 := by
  unfold nameOffs
  repeat' split
  all_goals simp
theorem kidOffs_le (k : Int) : (kidOffs k).length ≤ 3 := by unfold kidOffs; rw [List.length_take]; simp; omega
/-- '==' of a node and its bare self, as the program's own fields compare -/
theorem bare_eq (n : Nd) : (n.kind == n.kind && (n.a == 0 && (n.b == 0 && (n.c == 0 && (n.num == 0 && (ba n.name == ba [] && (ba n.x == ba [] && (ba n.y == ba [] && (ba n.z == ba [] && (n.pos == n.pos && true)))))))))) = isBare n := by
  rw [Bool.eq_iff_iff]
  unfold isBare
  rw [decide_eq_true_eq]
  simp only [Bool.and_eq_true, beq_iff_eq, decide_eq_true_eq, Nd.bare, ba_beq]
  constructor
  · rintro ⟨_, h1, h2, h3, h4, h5, h6, h7, h8, _⟩
    obtain ⟨k, a, b, c, m, s, x, y, z, p⟩ := n
    simp only at *
    subst h1 h2 h3 h4 h5 h6 h7 h8
    rfl
  · intro h
    obtain ⟨k, a, b, c, m, s, x, y, z, p⟩ := n
    simp only [Nd.mk.injEq] at h
    obtain ⟨_, h1, h2, h3, h4, h5, h6, h7, h8, _⟩ := h
    simp only at *
    subst h1 h2 h3 h4 h5 h6 h7 h8
    simp
theorem eql_bare (n : Nd) (w : World) :
    (binOp .eql 24 (.agg #[.int .i64 n.kind, .int .i64 n.a, .int .i64 n.b, .int .i64 n.c, .int .i64 n.num, .string (ba n.name), .string (ba n.x), .string (ba n.y), .string (ba n.z), .int .i64 n.pos])
      (.agg #[.int .i64 n.kind, .int .i64 0, .int .i64 0, .int .i64 0, .int .i64 0, .string { data := #[] }, .string { data := #[] }, .string { data := #[] }, .string { data := #[] }, .int .i64 n.pos])).run Tryd.prog w
      = .ok (.bool (isBare n)) w := by
  rw [← bare_eq n]
  exact eql_node _ _ _ _ _ _ _ _ _ _ _ _ _ _ _ _ _ _ _ _ w
end Go.Proofs.YtiflfnnnbgmomaaDoor
