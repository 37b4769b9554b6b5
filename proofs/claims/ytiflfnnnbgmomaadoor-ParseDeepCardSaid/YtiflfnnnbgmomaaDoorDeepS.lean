/- Deep texts, lexed: plain lemmas. -/
import Derived.Test.YtiflfnnnbgmomaaDoorParseM
import Derived.ProofKit
namespace Go.Proofs.YtiflfnnnbgmomaaDoor
set_option linter.unusedVariables false
set_option linter.unusedSimpArgs false
set_option maxRecDepth 100000
def rep : Nat → Bs → Bs
  | 0, _ => []
  | n + 1, s => s ++ rep n s
def opener : Nat → Bs
  | 0 => [40]
  | 1 => [102, 117, 110, 32, 120, 32, 45, 62, 32]
  | 2 => [105, 102, 32, 97, 32, 116, 104, 101, 110, 32, 98, 32, 101, 108, 115, 101, 32]
  | _ => [108, 101, 116, 32, 120, 32, 61, 32, 49, 32, 105, 110, 32]
def tk (k : Nat) (s : Bs) (n p : Nat) : Tok := ⟨k, s, n, p⟩
def opToks : Nat → Nat → List Tok
  | 0, p => [tk 3 [40] 0 p]
  | 1, p => [tk 2 [102, 117, 110] 0 p, tk 0 [120] 0 (p + 4), tk 3 [45, 62] 0 (p + 6)]
  | 2, p => [tk 2 [105, 102] 0 p, tk 0 [97] 0 (p + 3), tk 2 [116, 104, 101, 110] 0 (p + 5), tk 0 [98] 0 (p + 10), tk 2 [101, 108, 115, 101] 0 (p + 12)]
  | _, p => [tk 2 [108, 101, 116] 0 p, tk 0 [120] 0 (p + 4), tk 3 [61] 0 (p + 6), tk 1 [] 1 (p + 8), tk 2 [105, 110] 0 (p + 10)]
def units : Nat → Nat
  | 0 => 1
  | 1 => 6
  | 2 => 10
  | _ => 10
def opLen : Nat → Nat
  | 0 => 1
  | 1 => 9
  | 2 => 17
  | _ => 13
theorem lex_open0 (f : Nat) (rest : Bs) (at_ : Nat) (acc : List Tok) : lexGo (f + 1) (opener 0 ++ rest) at_ acc = lexGo f rest (at_ + 1) (acc ++ opToks 0 at_) := rfl
theorem lex_open1 (f : Nat) (rest : Bs) (at_ : Nat) (acc : List Tok) : lexGo (f + 6) (opener 1 ++ rest) at_ acc = lexGo f rest (at_ + 9) (acc ++ opToks 1 at_) := by
  show lexGo f rest (at_ + 9) (((acc ++ [tk 2 [102, 117, 110] 0 at_]) ++ [tk 0 [120] 0 (at_ + 4)]) ++ [tk 3 [45, 62] 0 (at_ + 6)]) = _
  simp [opToks]
theorem lex_open2 (f : Nat) (rest : Bs) (at_ : Nat) (acc : List Tok) : lexGo (f + 10) (opener 2 ++ rest) at_ acc = lexGo f rest (at_ + 17) (acc ++ opToks 2 at_) := by
  show lexGo f rest (at_ + 17) (((((acc ++ [tk 2 [105, 102] 0 at_]) ++ [tk 0 [97] 0 (at_ + 3)]) ++ [tk 2 [116, 104, 101, 110] 0 (at_ + 5)]) ++ [tk 0 [98] 0 (at_ + 10)]) ++ [tk 2 [101, 108, 115, 101] 0 (at_ + 12)]) = _
  simp [opToks]
theorem lex_open3 (f : Nat) (rest : Bs) (at_ : Nat) (acc : List Tok) : lexGo (f + 10) (opener 3 ++ rest) at_ acc = lexGo f rest (at_ + 13) (acc ++ opToks 3 at_) := by
  show lexGo f rest (at_ + 13) (((((acc ++ [tk 2 [108, 101, 116] 0 at_]) ++ [tk 0 [120] 0 (at_ + 4)]) ++ [tk 3 [61] 0 (at_ + 6)]) ++ [tk 1 [] 1 (at_ + 8)]) ++ [tk 2 [105, 110] 0 (at_ + 10)]) = _
  simp [opToks]
theorem lex_open (k : Nat) (hk : k ≤ 3) (f : Nat) (rest : Bs) (at_ : Nat) (acc : List Tok) : lexGo (f + units k) (opener k ++ rest) at_ acc = lexGo f rest (at_ + opLen k) (acc ++ opToks k at_) := by
  match k, hk with
  | 0, _ => exact lex_open0 f rest at_ acc
  | 1, _ => exact lex_open1 f rest at_ acc
  | 2, _ => exact lex_open2 f rest at_ acc
  | 3, _ => exact lex_open3 f rest at_ acc
def deepToks (k : Nat) : Nat → Nat → List Tok
  | 0, _ => []
  | n + 1, p => opToks k p ++ deepToks k n (p + opLen k)
theorem lex_opens (k : Nat) (hk : k ≤ 3) : ∀ (n f : Nat) (rest : Bs) (at_ : Nat) (acc : List Tok), lexGo (f + n * units k) (rep n (opener k) ++ rest) at_ acc = lexGo f rest (at_ + n * opLen k) (acc ++ deepToks k n at_)
  | 0, f, rest, at_, acc => by simp [rep, deepToks]
  | n + 1, f, rest, at_, acc => by
    show lexGo _ ((opener k ++ rep n (opener k)) ++ rest) at_ acc = _
    rw [List.append_assoc, show f + (n + 1) * units k = (f + n * units k) + units k by rw [Nat.add_mul]; omega, lex_open k hk, lex_opens k hk n]
    rw [show at_ + (n + 1) * opLen k = at_ + opLen k + n * opLen k by rw [Nat.add_mul]; omega]
    rw [List.append_assoc]
    rfl
def shutToks : Nat → Nat → List Tok
  | 0, _ => []
  | n + 1, p => tk 3 [41] 0 p :: shutToks n (p + 1)
theorem lex_shuts : ∀ (n f : Nat) (at_ : Nat) (acc : List Tok), lexGo (f + n) (rep n [41]) at_ acc = .ok (acc ++ shutToks n at_)
  | 0, f, at_, acc => by
    cases f <;> simp [rep, shutToks, lexGo]
  | n + 1, f, at_, acc => by
    have : lexGo ((f + n) + 1) ([41] ++ rep n [41]) at_ acc = lexGo (f + n) (rep n [41]) (at_ + 1) (acc ++ [tk 3 [41] 0 at_]) := rfl
    show lexGo ((f + n) + 1) ([41] ++ rep n [41]) at_ acc = _
    rw [this, lex_shuts n]
    simp [shutToks]
theorem lex_one_shut (n f : Nat) (at_ : Nat) (acc : List Tok) : lexGo (f + n + 1) (49 :: rep n [41]) at_ acc = .ok (acc ++ (tk 1 [] 1 at_ :: shutToks n (at_ + 1))) := by
  have h : lexGo (f + n + 1) (49 :: rep n [41]) at_ acc = lexGo (f + n) (rep n [41]) (at_ + 1) (acc ++ [tk 1 [] 1 at_]) := by
    cases n with
    | zero => rfl
    | succ n => rfl
  rw [h, lex_shuts]
  simp
def closer (k : Nat) : Bs := if k = 0 then [41] else []
def closeN (k n : Nat) : Nat := if k = 0 then n else 0
theorem rep_nil : ∀ n, rep n [] = []
  | 0 => rfl
  | n + 1 => by show [] ++ rep n [] = []; rw [rep_nil n]; rfl
theorem rep_close (k n : Nat) : rep n (closer k) = rep (closeN k n) [41] := by
  unfold closer closeN
  split
  · rfl
  · exact rep_nil n
theorem rep_len : ∀ (n : Nat) (s : Bs), (rep n s).length = n * s.length
  | 0, s => by simp [rep]
  | n + 1, s => by show (s ++ rep n s).length = _; rw [List.length_append, rep_len n s, Nat.add_mul]; omega
theorem rep_succ : ∀ (n : Nat) (s : Bs), rep (n + 1) s = rep n s ++ s
  | 0, s => by simp [rep]
  | n + 1, s => by
    show s ++ rep (n + 1) s = (s ++ rep n s) ++ s
    rw [rep_succ n s, List.append_assoc]
theorem opener_len (k : Nat) (hk : k ≤ 3) : (opener k).length = opLen k := by
  match k, hk with
  | 0, _ => rfl
  | 1, _ => rfl
  | 2, _ => rfl
  | 3, _ => rfl
theorem units_le (k : Nat) (hk : k ≤ 3) : units k ≤ opLen k := by
  match k, hk with
  | 0, _ => decide
  | 1, _ => decide
  | 2, _ => decide
  | 3, _ => decide
def deepText (k n : Nat) : Bs := rep n (opener k) ++ (49 :: rep n (closer k))
theorem lexGo_deep (k n : Nat) (hk : k ≤ 3) (f : Nat) : lexGo (f + closeN k n + 1 + n * units k) (deepText k n) 0 [] = .ok (deepToks k n 0 ++ (tk 1 [] 1 (n * opLen k) :: shutToks (closeN k n) (n * opLen k + 1))) := by
  unfold deepText
  rw [lex_opens k hk, rep_close, lex_one_shut]
  simp
theorem width_ascii (c : UInt8) (r : Bs) (h : c.toNat < 128) : widthB (c :: r) = 1 := by
  unfold widthB leadB leadN
  simp only [if_pos h]
  rw [if_neg (by simp), if_pos (by unfold goodB; simp)]
theorem valid_ascii : ∀ (f : Nat) (l : Bs) (a : Nat), (∀ c ∈ l, c.toNat < 128) → validGo f l a = none
  | 0, _, _, _ => rfl
  | _ + 1, [], _, _ => rfl
  | f + 1, c :: r, a, h => by
    unfold validGo
    rw [width_ascii c r (h c (by simp))]
    rw [if_neg (by decide)]
    exact valid_ascii f r (a + 1) (fun x hx => h x (by simp [hx]))
theorem rep_mem : ∀ (n : Nat) (s : Bs) (P : UInt8 → Prop), (∀ c ∈ s, P c) → ∀ c ∈ rep n s, P c
  | 0, s, P, h, c, hc => by cases hc
  | n + 1, s, P, h, c, hc => by
    rcases List.mem_append.1 (show c ∈ s ++ rep n s from hc) with h1 | h1
    · exact h c h1
    · exact rep_mem n s P h c h1
theorem opener_ascii (k : Nat) (hk : k ≤ 3) : ∀ c ∈ opener k, c.toNat < 128 := by
  match k, hk with
  | 0, _ => decide
  | 1, _ => decide
  | 2, _ => decide
  | 3, _ => decide
theorem closer_ascii (k : Nat) : ∀ c ∈ closer k, c.toNat < 128 := by
  unfold closer; split <;> decide
theorem deep_len (k n : Nat) (hk : k ≤ 3) : (deepText k n).length = n * opLen k + (closeN k n + 1) := by
  unfold deepText
  rw [List.length_append, List.length_cons, rep_close, rep_len, rep_len, opener_len k hk]
  simp
theorem lexB_deep (k n : Nat) (hk : k ≤ 3) (hn : n ≤ 100) : lexB (deepText k n) = .ok (deepToks k n 0 ++ (tk 1 [] 1 (n * opLen k) :: shutToks (closeN k n) (n * opLen k + 1))) := by
  have hl := deep_len k n hk
  have hu := Nat.mul_le_mul_left n (units_le k hk)
  have ho : opLen k ≤ 17 := by
    match k, hk with
    | 0, _ => decide
    | 1, _ => decide
    | 2, _ => decide
    | 3, _ => decide
  have hm : n * opLen k ≤ 100 * 17 := Nat.mul_le_mul hn ho
  have hc : closeN k n ≤ n := by unfold closeN; split <;> omega
  unfold lexB
  rw [if_neg (by omega)]
  unfold validB
  rw [valid_ascii _ _ _ (fun c hc => by
    rcases List.mem_append.1 hc with h1 | h1
    · exact rep_mem n _ _ (opener_ascii k hk) c h1
    · rcases List.mem_cons.1 h1 with rfl | h1
      · decide
      · exact rep_mem n _ _ (closer_ascii k) c h1)]
  show lexGo (deepText k n).length (deepText k n) 0 [] = _
  rw [show (deepText k n).length = (n * opLen k - n * units k) + closeN k n + 1 + n * units k by omega, lexGo_deep k n hk]
def deepOk (k n : Nat) : Bool :=
  match parseTs (deepToks k n 0 ++ (tk 1 [] 1 (n * opLen k) :: shutToks (closeN k n) (n * opLen k + 1))) (n * opLen k + (closeN k n + 1)) with
  | .ok p => decide (n < 40) && decide (0 < p.nodes.length) && decide (p.nodes.length ≤ 1000)
  | .error (a, c) => decide (40 ≤ n) && decide (c = 401) && decide (0 < a) && decide (a ≤ ((n * opLen k : Nat) : Int))
theorem deep_0 : ((List.range 64).all fun n => deepOk 0 n) = true := by kernel_rfl
theorem deep_1 : ((List.range 64).all fun n => deepOk 1 n) = true := by kernel_rfl
theorem deep_2 : ((List.range 64).all fun n => deepOk 2 n) = true := by kernel_rfl
theorem deep_3 : ((List.range 64).all fun n => deepOk 3 n) = true := by kernel_rfl
theorem deep_all (k n : Nat) (hk : k ≤ 3) (hn : n < 64) : deepOk k n = true := by
  match k, hk with
  | 0, _ => exact List.all_eq_true.1 deep_0 n (List.mem_range.2 hn)
  | 1, _ => exact List.all_eq_true.1 deep_1 n (List.mem_range.2 hn)
  | 2, _ => exact List.all_eq_true.1 deep_2 n (List.mem_range.2 hn)
  | 3, _ => exact List.all_eq_true.1 deep_3 n (List.mem_range.2 hn)
theorem deep_parse (k n : Nat) (hk : k ≤ 3) (hn : n < 64) : (n < 40 ∧ ∃ p, parseB (deepText k n) = .ok p ∧ 0 < p.nodes.length ∧ p.nodes.length ≤ 1000) ∨ (40 ≤ n ∧ ∃ a, parseB (deepText k n) = .error (a, 401) ∧ 0 < a ∧ a ≤ ((n * opLen k : Nat) : Int)) := by
  have h := deep_all k n hk hn
  have hp : parseB (deepText k n) = parseTs (deepToks k n 0 ++ (tk 1 [] 1 (n * opLen k) :: shutToks (closeN k n) (n * opLen k + 1))) (n * opLen k + (closeN k n + 1)) := by
    unfold parseB
    rw [lexB_deep k n hk (by omega), deep_len k n hk]
  unfold deepOk at h
  rw [← hp] at h
  cases hr : parseB (deepText k n) with
  | ok p =>
    rw [hr] at h
    simp only [Bool.and_eq_true, decide_eq_true_eq] at h
    exact .inl ⟨h.1.1, p, rfl, h.1.2, h.2⟩
  | error x =>
    obtain ⟨a, c⟩ := x
    rw [hr] at h
    simp only [Bool.and_eq_true, decide_eq_true_eq] at h
    obtain ⟨⟨⟨h1, rfl⟩, h3⟩, h4⟩ := h
    exact .inr ⟨h1, a, rfl, h3, h4⟩
end Go.Proofs.YtiflfnnnbgmomaaDoor
