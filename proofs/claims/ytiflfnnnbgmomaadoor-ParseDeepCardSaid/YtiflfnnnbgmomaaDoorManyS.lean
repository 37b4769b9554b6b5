/- Long sums, lexed and parsed: plain lemmas. -/
import Derived.Test.YtiflfnnnbgmomaaDoorDeepS
namespace Go.Proofs.YtiflfnnnbgmomaaDoor
set_option linter.unusedVariables false
set_option linter.unusedSimpArgs false
set_option maxRecDepth 100000
def manyToks : Nat → Nat → List Tok
  | 0, _ => []
  | n + 1, p => tk 3 [43] 0 (p + 1) :: tk 1 [] 1 (p + 3) :: manyToks n (p + 4)
theorem lex_many : ∀ (n f : Nat) (at_ : Nat) (acc : List Tok), lexGo (f + n * 4) (rep n [32, 43, 32, 49]) at_ acc = .ok (acc ++ manyToks n at_)
  | 0, f, at_, acc => by cases f <;> simp [rep, manyToks, lexGo]
  | n + 1, f, at_, acc => by
    have h : lexGo ((f + n * 4) + 4) ([32, 43, 32, 49] ++ rep n [32, 43, 32, 49]) at_ acc = lexGo (f + n * 4) (rep n [32, 43, 32, 49]) (at_ + 4) ((acc ++ [tk 3 [43] 0 (at_ + 1)]) ++ [tk 1 [] 1 (at_ + 3)]) := by
      cases n with
      | zero => rfl
      | succ n => rfl
    rw [show f + (n + 1) * 4 = (f + n * 4) + 4 by omega]
    show lexGo ((f + n * 4) + 4) ([32, 43, 32, 49] ++ rep n [32, 43, 32, 49]) at_ acc = _
    rw [h, lex_many n]
    simp [manyToks]
def manyText (n : Nat) : Bs := 49 :: rep n [32, 43, 32, 49]
theorem many_len (n : Nat) : (manyText n).length = 4 * n + 1 := by
  unfold manyText
  rw [List.length_cons, rep_len]
  simp; omega
theorem lexB_many (n : Nat) (hn : n ≤ 1000) : lexB (manyText n) = .ok (tk 1 [] 1 0 :: manyToks n 1) := by
  have hl := many_len n
  unfold lexB
  rw [if_neg (by omega)]
  unfold validB
  rw [valid_ascii _ _ _ (fun c hc => by
    rcases List.mem_cons.1 hc with rfl | h1
    · decide
    · exact rep_mem n _ (fun c => c.toNat < 128) (by decide) c h1)]
  show lexGo (manyText n).length (manyText n) 0 [] = _
  rw [hl, show 4 * n + 1 = (0 + n * 4) + 1 by omega]
  have h : lexGo ((0 + n * 4) + 1) (manyText n) 0 [] = lexGo (0 + n * 4) (rep n [32, 43, 32, 49]) 1 [tk 1 [] 1 0] := by
    unfold manyText
    cases n with
    | zero => rfl
    | succ n => rfl
  rw [h, lex_many]
  rfl
/-- what stands behind a number in a sum -/
def SumRest (r : List Tok) : Prop := r = [] ∨ ∃ c s, r = tk 3 [43] 0 c :: s
theorem many_rest (n p : Nat) : SumRest (manyToks n p) := by
  cases n with
  | zero => exact .inl rfl
  | succ n => exact .inr ⟨_, _, rfl⟩
def one (b : Nat) : Nd := { nd0 (b : Int) with kind := 1, num := 1 }
theorem atom1 (inner : Inner) (b : Nat) (rest : List Tok) (fin : Int) (ops : List OpD) (ns : List Nd) (hr : SumRest rest) (h : ns.length ≠ 512) :
    levelUp (applyB inner) 2 ⟨tk 1 [] 1 b :: rest, fin, ops, ns, none⟩ = ((ns.length : Int), ⟨rest, fin, ops, ns ++ [one b], none⟩) := by
  have ha : atomB inner ⟨tk 1 [] 1 b :: rest, fin, ops, ns, none⟩ = ((ns.length : Int), ⟨rest, fin, ops, ns ++ [one b], none⟩) := by
    simp [atomB, starts, PS.next, tk, PS.pop, PS.put, PS.full, PS.bad, h, one, nd0, PS.here, PS.is]
  have hs : starts ⟨rest, fin, ops, ns ++ [one b], none⟩ = false := by
    rcases hr with rfl | ⟨c, s, rfl⟩
    · simp [starts, PS.next]
    · simp [starts, PS.next, tk, PS.is, wTrue, wFalse, wOpen, wHandle]
  have hd : (⟨tk 1 [] 1 b :: rest, fin, ops, ns, none⟩ : PS).is wDo = false := by simp [PS.is, PS.next, tk]
  have happ : applyB inner ⟨tk 1 [] 1 b :: rest, fin, ops, ns, none⟩ = ((ns.length : Int), ⟨rest, fin, ops, ns ++ [one b], none⟩) := by
    unfold applyB headB
    rw [hd, ha]
    simp only [Bool.false_eq_true, if_false]
    cases hl : rest.length with
    | zero => rfl
    | succ k => rw [applyGo_succ, hs]; rfl
  have hp : primB ⟨rest, fin, ops, ns ++ [one b], none⟩ 2 = none := by
    rcases hr with rfl | ⟨c, s, rfl⟩
    · simp [primB, levelL, PS.is, PS.next]
    · simp [primB, levelL, PS.is, PS.next, tk, primsL]
  unfold levelUp
  rw [happ]
  show levelGo _ 2 rest.length _ _ = _
  cases hl : rest.length with
  | zero => rfl
  | succ k => rw [levelGo_succ, hp]
abbrev upM (inner : Inner) : Inner := levelUp (applyB inner) 2
def plus (c : Nat) (a b : Int) : Nd := { nd0 (c : Int) with kind := 8, num := 0, a := a, b := b }
theorem prim_plus (c : Nat) (r : List Tok) (fin : Int) (ops : List OpD) (ns : List Nd) : primB ⟨tk 3 [43] 0 c :: r, fin, ops, ns, none⟩ 1 = some 0 := by
  simp [primB, levelL, PS.is, PS.next, tk, primsL]
theorem prim_bad {q : PS} {e : Int × Int} (h : q.err = some e) (l : Nat) : primB q l = none := by
  have : ∀ s, q.is s = false := fun s => by unfold PS.is PS.next; rw [h]
  unfold primB
  rw [List.find?_eq_none]
  intro x _
  rw [this]; decide
theorem prim_end (fin : Int) (ops : List OpD) (ns : List Nd) (l : Nat) : primB ⟨[], fin, ops, ns, none⟩ l = none := by
  unfold primB
  rw [List.find?_eq_none]
  intro x _
  simp [PS.is, PS.next]
theorem levelGo_bad {q : PS} {e : Int × Int} (h : q.err = some e) (up : Inner) (l : Nat) (a : Int) : ∀ f, levelGo up l f a q = (a, q)
  | 0 => rfl
  | f + 1 => by rw [levelGo_succ, prim_bad h l]
theorem levelGo_end (fin : Int) (ops : List OpD) (ns : List Nd) (up : Inner) (l : Nat) (a : Int) : ∀ f, levelGo up l f a ⟨[], fin, ops, ns, none⟩ = (a, ⟨[], fin, ops, ns, none⟩)
  | 0 => rfl
  | f + 1 => by rw [levelGo_succ, prim_end]
theorem round_ok (inner : Inner) (c b : Nat) (rest : List Tok) (fin : Int) (ops : List OpD) (ns : List Nd) (a : Int) (f : Nat) (hr : SumRest rest) (h : ns.length ≤ 510) :
    levelGo (upM inner) 1 (f + 1) a ⟨tk 3 [43] 0 c :: tk 1 [] 1 b :: rest, fin, ops, ns, none⟩ = levelGo (upM inner) 1 f ((ns.length + 1 : Nat) : Int) ⟨rest, fin, ops, (ns ++ [one b]) ++ [plus c a (ns.length : Int)], none⟩ := by
  rw [levelGo_succ, prim_plus]
  have hu : upM inner (PS.pop ⟨tk 3 [43] 0 c :: tk 1 [] 1 b :: rest, fin, ops, ns, none⟩) = ((ns.length : Int), ⟨rest, fin, ops, ns ++ [one b], none⟩) := atom1 inner b rest fin ops ns hr (by omega)
  simp only [hu]
  rw [if_neg (by decide)]
  have hp : PS.put ⟨rest, fin, ops, ns ++ [one b], none⟩ { nd0 (PS.here ⟨tk 3 [43] 0 c :: tk 1 [] 1 b :: rest, fin, ops, ns, none⟩) with kind := 8, num := ((0 : Nat) : Int), a := a, b := (ns.length : Int) } = (((ns.length + 1 : Nat) : Int), ⟨rest, fin, ops, (ns ++ [one b]) ++ [plus c a (ns.length : Int)], none⟩) := by
    have hl : ¬ (ns ++ [one b]).length = 512 := by simp; omega
    have hl2 : (ns ++ [one b]).length = ns.length + 1 := by simp
    have hl3 : ¬ (ns.length + 1 = 512) := by omega
    simp only [PS.put, PS.full, PS.bad, plus, PS.here, nd0, tk, hl2, if_neg hl3, Option.isSome_none, Bool.false_eq_true, if_false]
    rfl
  rw [hp]
theorem round_full (inner : Inner) (c b : Nat) (rest : List Tok) (fin : Int) (ops : List OpD) (ns : List Nd) (a : Int) (f : Nat) (hr : SumRest rest) (h : ns.length = 511) :
    levelGo (upM inner) 1 (f + 1) a ⟨tk 3 [43] 0 c :: tk 1 [] 1 b :: rest, fin, ops, ns, none⟩ = (0, ⟨rest, fin, ops, ns ++ [one b], some (PS.here ⟨rest, fin, ops, ns ++ [one b], none⟩, 402)⟩) := by
  rw [levelGo_succ, prim_plus]
  have hu : upM inner (PS.pop ⟨tk 3 [43] 0 c :: tk 1 [] 1 b :: rest, fin, ops, ns, none⟩) = ((ns.length : Int), ⟨rest, fin, ops, ns ++ [one b], none⟩) := atom1 inner b rest fin ops ns hr (by omega)
  simp only [hu]
  rw [if_neg (by decide)]
  have hp : ∀ x, PS.put ⟨rest, fin, ops, ns ++ [one b], none⟩ x = (0, ⟨rest, fin, ops, ns ++ [one b], some (PS.here ⟨rest, fin, ops, ns ++ [one b], none⟩, 402)⟩) := fun x => by
    have hl : (ns ++ [one b]).length = 512 := by simp; omega
    simp [PS.put, PS.full, PS.bad, hl, PS.fail]
  rw [hp]
  exact levelGo_bad rfl _ _ _ _
theorem many_fit (inner : Inner) (fin : Int) (ops : List OpD) : ∀ (n p f : Nat) (ns : List Nd) (a : Int), n ≤ f → ns.length + 2 * n ≤ 512 →
    ∃ a' ns', levelGo (upM inner) 1 f a ⟨manyToks n p, fin, ops, ns, none⟩ = (a', ⟨[], fin, ops, ns', none⟩) ∧ ns'.length = ns.length + 2 * n
  | 0, p, f, ns, a, hf, hl => ⟨a, ns, levelGo_end _ _ _ _ _ _ _, rfl⟩
  | n + 1, p, 0, ns, a, hf, hl => by omega
  | n + 1, p, f + 1, ns, a, hf, hl => by
    obtain ⟨a', ns', h1, h2⟩ := many_fit inner fin ops n (p + 4) f ((ns ++ [one (p + 3)]) ++ [plus (p + 1) a (ns.length : Int)]) ((ns.length + 1 : Nat) : Int) (by omega) (by simp; omega)
    refine ⟨a', ns', ?_, by rw [h2]; simp; omega⟩
    rw [← h1]
    exact round_ok inner (p + 1) (p + 3) (manyToks n (p + 4)) fin ops ns a f (many_rest _ _) (by omega)
theorem many_over (inner : Inner) (fin : Int) (ops : List OpD) (M : Int) (hfin : 0 < fin ∧ fin ≤ M) : ∀ (n p f : Nat) (ns : List Nd) (a : Int), n ≤ f → ns.length % 2 = 1 → ns.length ≤ 511 → 512 < ns.length + 2 * n → ((p + 4 * n : Nat) : Int) ≤ M →
    ∃ a' q' e, levelGo (upM inner) 1 f a ⟨manyToks n p, fin, ops, ns, none⟩ = (a', q') ∧ q'.err = some (e, 402) ∧ 0 < e ∧ e ≤ M
  | 0, p, f, ns, a, hf, ho, hl, hg, hM => by omega
  | n + 1, p, 0, ns, a, hf, ho, hl, hg, hM => by omega
  | n + 1, p, f + 1, ns, a, hf, ho, hl, hg, hM => by
    by_cases h : ns.length = 511
    · have hh : 0 < PS.here ⟨manyToks n (p + 4), fin, ops, ns ++ [one (p + 3)], none⟩ ∧ PS.here ⟨manyToks n (p + 4), fin, ops, ns ++ [one (p + 3)], none⟩ ≤ M := by
        cases n with
        | zero => exact hfin
        | succ n => simp [PS.here, manyToks, tk]; omega
      exact ⟨_, _, _, round_full inner (p + 1) (p + 3) (manyToks n (p + 4)) fin ops ns a f (many_rest _ _) h, rfl, hh.1, hh.2⟩
    · obtain ⟨a', q', e, h1, h2⟩ := many_over inner fin ops M hfin n (p + 4) f ((ns ++ [one (p + 3)]) ++ [plus (p + 1) a (ns.length : Int)]) ((ns.length + 1 : Nat) : Int) (by omega) (by simp; omega) (by simp; omega) (by simp; omega) (by omega)
      refine ⟨a', q', e, ?_, h2⟩
      rw [← h1]
      exact round_ok inner (p + 1) (p + 3) (manyToks n (p + 4)) fin ops ns a f (many_rest _ _) (by omega)
theorem inner_many (n : Nat) (fin : Int) (r : Int × PS) (h : levelGo (upM (innerB 39)) 1 (manyToks n 1).length 0 ⟨manyToks n 1, fin, [], [one 0], none⟩ = r) (hr : r.2.ts = [] ∧ r.2.err = none ∨ ∃ e, r.2.err = some e) :
    innerB 40 ⟨tk 1 [] 1 0 :: manyToks n 1, fin, [], [], none⟩ = r := by
  have hb : (⟨tk 1 [] 1 0 :: manyToks n 1, fin, [], [], none⟩ : PS).bad = false := rfl
  have h1 : (⟨tk 1 [] 1 0 :: manyToks n 1, fin, [], [], none⟩ : PS).is wFun = false := by simp [PS.is, PS.next, tk]
  have h2 : (⟨tk 1 [] 1 0 :: manyToks n 1, fin, [], [], none⟩ : PS).is wLet = false := by simp [PS.is, PS.next, tk]
  have h3 : (⟨tk 1 [] 1 0 :: manyToks n 1, fin, [], [], none⟩ : PS).is wIf = false := by simp [PS.is, PS.next, tk]
  show (if (⟨tk 1 [] 1 0 :: manyToks n 1, fin, [], [], none⟩ : PS).bad then _ else exprB (innerB 39) _) = _
  rw [hb, if_neg (by decide)]
  unfold exprB
  rw [h1, h2, h3, if_neg (by decide), if_neg (by decide), if_neg (by decide)]
  have hu : levelUp (levelUp (applyB (innerB 39)) 2) 1 ⟨tk 1 [] 1 0 :: manyToks n 1, fin, [], [], none⟩ = r := by
    show (let (a, q) := levelUp (applyB (innerB 39)) 2 _; levelGo (levelUp (applyB (innerB 39)) 2) 1 q.ts.length a q) = r
    rw [atom1 (innerB 39) 0 (manyToks n 1) fin [] [] (many_rest _ _) (by decide)]
    exact h
  show (let (a, q) := levelUp (levelUp (applyB (innerB 39)) 2) 1 _; levelGo (levelUp (levelUp (applyB (innerB 39)) 2) 1) 0 q.ts.length a q) = r
  rw [hu]
  obtain ⟨a, q⟩ := r
  rcases hr with ⟨ht, he⟩ | ⟨e, he⟩
  · obtain ⟨ts, fin', ops, ns, err⟩ := q
    simp only at ht he
    subst ht he
    exact levelGo_end _ _ _ _ _ _ _
  · exact levelGo_bad he _ _ _ _
theorem many_toks_len : ∀ n p, (manyToks n p).length = 2 * n
  | 0, p => rfl
  | n + 1, p => by show (manyToks n (p + 4)).length + 1 + 1 = _; rw [many_toks_len n]; omega
theorem parse_many (n : Nat) (hn : n ≤ 1000) : (2 * n + 1 ≤ 512 ∧ ∃ p, parseB (manyText n) = .ok p ∧ p.nodes.length = 2 * n + 1) ∨ (512 < 2 * n + 1 ∧ ∃ a, parseB (manyText n) = .error (a, 402) ∧ 0 < a ∧ a ≤ ((4 * n + 1 : Nat) : Int)) := by
  have hp : parseB (manyText n) = parseTs (tk 1 [] 1 0 :: manyToks n 1) (4 * n + 1) := by
    unfold parseB
    rw [lexB_many n hn, many_len]
  rw [hp]
  have hop : (⟨tk 1 [] 1 0 :: manyToks n 1, ((4 * n + 1 : Nat) : Int), [], [], none⟩ : PS).opsGo 6 = ⟨tk 1 [] 1 0 :: manyToks n 1, ((4 * n + 1 : Nat) : Int), [], [], none⟩ := by
    have h1 : (⟨tk 1 [] 1 0 :: manyToks n 1, ((4 * n + 1 : Nat) : Int), [], [], none⟩ : PS).is wOp = false := by simp [PS.is, PS.next, tk]
    unfold PS.opsGo
    rw [h1, if_neg (by decide)]
  by_cases h : 2 * n + 1 ≤ 512
  · left
    refine ⟨h, ?_⟩
    obtain ⟨a', ns', h1, h2⟩ := many_fit (innerB 39) ((4 * n + 1 : Nat) : Int) [] n 1 (manyToks n 1).length [one 0] 0 (by rw [many_toks_len]; omega) (by simp; omega)
    have hi := inner_many n ((4 * n + 1 : Nat) : Int) _ h1 (.inl ⟨rfl, rfl⟩)
    refine ⟨⟨[], ns'⟩, ?_, by rw [h2]; simp; omega⟩
    unfold parseTs progB
    simp only [hop, hi]
    rfl
  · right
    refine ⟨by omega, ?_⟩
    obtain ⟨a', q', e, h1, h2, h3, h4⟩ := many_over (innerB 39) ((4 * n + 1 : Nat) : Int) [] ((4 * n + 1 : Nat) : Int) (by omega) n 1 (manyToks n 1).length [one 0] 0 (by rw [many_toks_len]; omega) (by simp) (by simp) (by simp; omega) (by omega)
    have hi := inner_many n ((4 * n + 1 : Nat) : Int) _ h1 (.inr ⟨_, h2⟩)
    refine ⟨e, ?_, h3, h4⟩
    have hn' : q'.next = none := by unfold PS.next; rw [h2]
    unfold parseTs progB
    simp only [hop, hi, hn']
    show (match q'.err with | some e => Except.error e | none => Except.ok (⟨q'.ops, q'.ns⟩ : Pg)) = _
    rw [h2]
end Go.Proofs.YtiflfnnnbgmomaaDoor
