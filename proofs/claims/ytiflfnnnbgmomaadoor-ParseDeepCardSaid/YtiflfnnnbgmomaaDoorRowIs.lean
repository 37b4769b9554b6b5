/- Rows of records: as a slice's cells one by one, and as one list of cells; rows that the call owns. -/
import Derived.Test.YtiflfnnnbgmomaaDoorTreeK
namespace Go.Proofs.YtiflfnnnbgmomaaDoor
set_option linter.unusedVariables false
set_option linter.unusedSimpArgs false
open Go.RowKit
set_option maxRecDepth 100000

/-- a slice that reads as records of c cells each -/
def RowIs {α : Type} (f : α → List Value) (c : Nat) (w : World) (B : Nat) (A : Option Addr) (xs : List α) : Prop :=
  0 < xs.length → ∃ b off, A = some ⟨b, off, none⟩ ∧ b < B ∧ ∀ i (h : i < xs.length) r u, (f xs[i])[r]? = some u → w.cell? ⟨b, off + i * c + r, none⟩ = some u
theorem flat_at {α : Type} (f : α → List Value) (c : Nat) (hf : ∀ x, (f x).length = c) : ∀ (xs : List α) (i r : Nat), r < c → (xs.flatMap f)[i * c + r]? = (xs[i]?).bind fun x => (f x)[r]?
  | [], i, r, _ => by simp
  | x :: xs, 0, r, hr => by
    rw [List.flatMap_cons, Nat.zero_mul, Nat.zero_add, List.getElem?_append_left (by rw [hf]; exact hr)]; rfl
  | x :: xs, i + 1, r, hr => by
    rw [List.flatMap_cons, List.getElem?_append_right (by rw [hf, Nat.add_mul]; omega), hf]
    rw [show (i + 1) * c + r - c = i * c + r by rw [Nat.add_mul]; omega]
    rw [flat_at f c hf xs i r hr]; simp
theorem flat_len {α : Type} (f : α → List Value) (c : Nat) (hf : ∀ x, (f x).length = c) : ∀ (xs : List α), (xs.flatMap f).length = xs.length * c
  | [] => by simp
  | x :: xs => by rw [List.flatMap_cons, List.length_append, hf, flat_len f c hf xs, List.length_cons, Nat.add_mul]; omega
theorem add_at (b o n : Nat) : (⟨b, o, none⟩ : Addr).add n = ⟨b, o + n, none⟩ := by unfold Addr.add; split <;> simp_all
theorem RowIs.reads {α : Type} {f : α → List Value} {c : Nat} (hc : 0 < c) (hf : ∀ x, (f x).length = c) {w : World} {B : Nat} {A : Option Addr} {xs : List α} (h : RowIs f c w B A xs) : Reads w B c A xs.length (xs.flatMap f) :=
  ⟨flat_len f c hf xs, fun h0 => by
    obtain ⟨b, off, e, hb, hcell⟩ := h h0
    refine ⟨_, e, hb, fun j u hu => ?_⟩
    have hj : j = j / c * c + j % c := by rw [Nat.mul_comm]; exact (Nat.div_add_mod j c).symm
    rw [hj, flat_at f c hf xs _ _ (Nat.mod_lt _ hc)] at hu
    cases hx : xs[j / c]? with
    | none => rw [hx] at hu; cases hu
    | some x =>
      rw [hx] at hu
      obtain ⟨hi, hx'⟩ := List.getElem?_eq_some_iff.1 hx
      have := hcell (j / c) hi (j % c) u (by rw [hx']; exact hu)
      rw [add_at, show off + j = off + j / c * c + j % c by omega]
      exact this⟩
theorem RowIs.of_reads {α : Type} {f : α → List Value} {c : Nat} (hf : ∀ x, (f x).length = c) {w : World} {B : Nat} {b off : Nat} {xs : List α} (h : Reads w B c (some ⟨b, off, none⟩) xs.length (xs.flatMap f)) : RowIs f c w B (some ⟨b, off, none⟩) xs := fun h0 => by
  obtain ⟨ad, e, hb, hcell⟩ := h.2 h0
  injection e with e
  subst e
  refine ⟨_, _, rfl, hb, fun i hi r u hu => ?_⟩
  have hr : r < c := by rw [← hf xs[i]]; exact (List.getElem?_eq_some_iff.1 hu).1
  have := hcell (i * c + r) u (by rw [flat_at f c hf xs i r hr, List.getElem?_eq_getElem hi]; exact hu)
  rwa [add_at, ← Nat.add_assoc] at this
theorem RowIs.of_own {α : Type} {f : α → List Value} {c : Nat} (hf : ∀ x, (f x).length = c) {w : World} {base e : Nat} {v : Value} {xs : List α} (h : w.ownsRow base e c v xs.length (xs.flatMap f)) : ∃ A cap, v = .slice A xs.length cap ∧ RowIs f c w w.heap.size A xs := by
  rcases h.2 with ⟨rfl, h0⟩ | ⟨g, cap, cur, rfl, hb, hh, hcap, _⟩
  · exact ⟨none, 0, by rw [h0], fun h1 => absurd h1 (by omega)⟩
  · exact ⟨_, cap, rfl, RowIs.of_reads hf (Reads.of_own h)⟩
theorem ndCells_len (n : Nd) : (ndCells n).length = 10 := rfl
theorem opCells_len (o : OpD) : (opCells o).length = 3 := rfl
theorem NodesAt.row {w : World} {B : Nat} {A : Option Addr} {ns : List Nd} (h : NodesAt w B A ns) : RowIs ndCells 10 w B A ns := fun h0 => by
  obtain ⟨b, off, e, hb, hc⟩ := h h0
  refine ⟨b, off, e, hb, fun i hi r u hu => ?_⟩
  obtain ⟨c0, c1, c2, c3, c4, c5, c6, c7, c8, c9⟩ := hc i hi
  have hr : r < 10 := (List.getElem?_eq_some_iff.1 hu).1
  match r, hr with
  | 0, _ => cases hu; exact c0
  | 1, _ => cases hu; exact c1
  | 2, _ => cases hu; exact c2
  | 3, _ => cases hu; exact c3
  | 4, _ => cases hu; exact c4
  | 5, _ => cases hu; exact c5
  | 6, _ => cases hu; exact c6
  | 7, _ => cases hu; exact c7
  | 8, _ => cases hu; exact c8
  | 9, _ => cases hu; exact c9
theorem NodesAt.of_row {w : World} {B : Nat} {A : Option Addr} {ns : List Nd} (h : RowIs ndCells 10 w B A ns) : NodesAt w B A ns := fun h0 => by
  obtain ⟨b, off, e, hb, hc⟩ := h h0
  exact ⟨b, off, e, hb, fun i hi => ⟨hc i hi 0 _ rfl, hc i hi 1 _ rfl, hc i hi 2 _ rfl, hc i hi 3 _ rfl, hc i hi 4 _ rfl, hc i hi 5 _ rfl, hc i hi 6 _ rfl, hc i hi 7 _ rfl, hc i hi 8 _ rfl, hc i hi 9 _ rfl⟩⟩
theorem OpsAt.row {w : World} {B : Nat} {A : Option Addr} {os : List OpD} (h : OpsAt w B A os) : RowIs opCells 3 w B A os := fun h0 => by
  obtain ⟨b, off, e, hb, hc⟩ := h h0
  refine ⟨b, off, e, hb, fun i hi r u hu => ?_⟩
  obtain ⟨c0, c1, c2⟩ := hc i hi
  have hr : r < 3 := (List.getElem?_eq_some_iff.1 hu).1
  match r, hr with
  | 0, _ => cases hu; exact c0
  | 1, _ => cases hu; exact c1
  | 2, _ => cases hu; exact c2
theorem OpsAt.of_row {w : World} {B : Nat} {A : Option Addr} {os : List OpD} (h : RowIs opCells 3 w B A os) : OpsAt w B A os := fun h0 => by
  obtain ⟨b, off, e, hb, hc⟩ := h h0
  exact ⟨b, off, e, hb, fun i hi => ⟨hc i hi 0 _ rfl, hc i hi 1 _ rfl, hc i hi 2 _ rfl⟩⟩
theorem own_nodes {w : World} {base e : Nat} {v : Value} {ns : List Nd} (h : w.ownsRow base e 10 v ns.length (ncells ns)) : ∃ A cap, v = .slice A ns.length cap ∧ NodesAt w w.heap.size A ns := by
  obtain ⟨A, cap, hv, hr⟩ := RowIs.of_own ndCells_len h
  exact ⟨A, cap, hv, NodesAt.of_row hr⟩
theorem own_ops {w : World} {base e : Nat} {v : Value} {os : List OpD} (h : w.ownsRow base e 3 v os.length (ocells os)) : ∃ A cap, v = .slice A os.length cap ∧ OpsAt w w.heap.size A os := by
  obtain ⟨A, cap, hv, hr⟩ := RowIs.of_own opCells_len h
  exact ⟨A, cap, hv, OpsAt.of_row hr⟩
/-- a slice of texts -/
def strCells (s : Bs) : List Value := [.string (ba s)]
abbrev StrsAt (w : World) (B : Nat) (A : Option Addr) (ss : List Bs) : Prop := RowIs strCells 1 w B A ss
theorem strCells_len (s : Bs) : (strCells s).length = 1 := rfl
theorem RowIs.keep {α : Type} {f : α → List Value} {c : Nat} {w w' : World} {B : Nat} {A : Option Addr} {xs : List α} (h : RowIs f c w B A xs) (hk : ∀ p : Addr, p.block < B → w'.cell? p = w.cell? p) : RowIs f c w' B A xs := fun h0 => by
  obtain ⟨b, off, e, hb, hc⟩ := h h0
  exact ⟨b, off, e, hb, fun i hi r u hu => (hk ⟨b, _, none⟩ hb).trans (hc i hi r u hu)⟩
theorem RowIs.more {α : Type} {f : α → List Value} {c : Nat} {w : World} {B B' : Nat} {A : Option Addr} {xs : List α} (h : RowIs f c w B A xs) (hB : B ≤ B') : RowIs f c w B' A xs := fun h0 => by
  obtain ⟨b, off, e, hb, hc⟩ := h h0
  exact ⟨b, off, e, by omega, hc⟩
theorem RowIs.below {α : Type} {f : α → List Value} {c : Nat} {w w' : World} {A : Option Addr} {xs : List α} (h : RowIs f c w w.heap.size A xs) (hb : Below w.heap.size w w') : RowIs f c w' w'.heap.size A xs :=
  (h.keep fun _ hp => hb.cell hp).more hb.size
theorem StrsAt.at_ {w : World} {B b off : Nat} {ss : List Bs} (h : StrsAt w B (some ⟨b, off, none⟩) ss) (i : Nat) (hi : i < ss.length) : w.cell? ⟨b, off + i, none⟩ = some (.string (ba ss[i])) := by
  obtain ⟨b', off', e, hb, hc⟩ := h (by omega)
  injection e with e
  injection e with e1 e2
  subst e1 e2
  have := hc i hi 0 _ rfl
  simpa using this
end Go.Proofs.YtiflfnnnbgmomaaDoor
