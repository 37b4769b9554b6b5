/- The parser never puts a token back: plain lemmas. -/
import Derived.Test.YtiflfnnnbgmomaaDoorParseS
namespace Go.Proofs.YtiflfnnnbgmomaaDoor
set_option linter.unusedVariables false
set_option linter.unusedSimpArgs false
theorem fail_ts (p : PS) (c : Int) : (p.fail c).ts = p.ts := by unfold PS.fail; split <;> rfl
theorem pop_ts (p : PS) : p.pop.ts.length ≤ p.ts.length := by simp [PS.pop]
theorem take_ts (p : PS) (s : Bs) : (p.take s).ts.length ≤ p.ts.length := by
  unfold PS.take; split
  · exact pop_ts p
  · exact Nat.le_refl _
theorem must_ts (p : PS) (s : Bs) : (p.must s).ts.length ≤ p.ts.length := by
  unfold PS.must; split
  · exact pop_ts p
  · rw [fail_ts]; exact Nat.le_refl _
theorem name_ts (p : PS) : p.name.2.ts.length ≤ p.ts.length := by
  unfold PS.name; split
  · exact pop_ts p
  · rw [fail_ts]; exact Nat.le_refl _
theorem put_ts (p : PS) (x : Nd) : (p.put x).2.ts = p.ts := by
  have hf : p.full.ts = p.ts := by unfold PS.full; split; exact fail_ts p 402; rfl
  unfold PS.put; split
  · exact hf
  · rfl
/-- what goes on never puts a token back -/
def Mono (inner : Inner) : Prop := ∀ p, (inner p).2.ts.length ≤ p.ts.length
theorem then_ts {inner : Inner} (h : Mono inner) (p : PS) (s : Bs) : (thenB inner p s).2.ts.length ≤ p.ts.length := Nat.le_trans (h _) (must_ts p s)
theorem handle_ts {inner : Inner} (h : Mono inner) (p : PS) (x : Nd) : (handleB inner p x).2.ts.length ≤ p.ts.length := by
  unfold handleB
  refine Nat.le_trans (must_ts _ _) ?_
  refine Nat.le_trans (then_ts h _ _) ?_
  refine Nat.le_trans (name_ts _) ?_
  refine Nat.le_trans (must_ts _ _) ?_
  refine Nat.le_trans (then_ts h _ _) ?_
  refine Nat.le_trans (name_ts _) ?_
  refine Nat.le_trans (name_ts _) ?_
  refine Nat.le_trans (name_ts _) ?_
  refine Nat.le_trans (must_ts _ _) ?_
  exact h p
theorem next_len {p : PS} {t : Tok} (h : p.next = some t) : 0 < p.ts.length := by
  unfold PS.next at h
  split at h
  · cases h
  · cases hs : p.ts with
    | nil => rw [hs] at h; cases h
    | cons a r => simp
theorem is_len {p : PS} {s : Bs} (h : p.is s = true) : 0 < p.ts.length := by
  unfold PS.is at h
  split at h
  · rename_i t ht; exact next_len ht
  · cases h
theorem pop_lt {p : PS} (h : 0 < p.ts.length) : p.pop.ts.length < p.ts.length := by
  unfold PS.pop
  simp
  omega
theorem starts_len {p : PS} (h : starts p = true) : 0 < p.ts.length := by
  unfold starts at h
  split at h
  · cases h
  · rename_i t ht; exact next_len ht
theorem atom_lt {inner : Inner} (h : Mono inner) (p : PS) (hs : starts p = true) : (atomB inner p).2.ts.length < p.ts.length := by
  have hl := starts_len hs
  have hp := pop_lt hl
  unfold atomB
  rw [hs]
  simp only [Bool.not_true, Bool.false_eq_true, if_false]
  split
  · rw [put_ts]; exact hp
  · split
    · rw [put_ts]; exact hp
    · split
      · exact Nat.lt_of_le_of_lt (Nat.le_trans (must_ts _ _) (h _)) hp
      · split
        · exact Nat.lt_of_le_of_lt (by rw [put_ts]; exact handle_ts h _ _) hp
        · split
          · rw [put_ts]; exact hp
          · rename_i k0 k1 k2 k3 k4
            rw [put_ts]
            have hf : p.is wFalse = true := by
              unfold starts at hs
              cases hn : p.next with
              | none => rw [hn] at hs; cases hs
              | some t =>
                rw [hn] at hs
                have ht : p.ts.headD default = t := by
                  unfold PS.next at hn
                  split at hn
                  · cases hn
                  · cases hts : p.ts with
                    | nil => rw [hts] at hn; cases hn
                    | cons a r => rw [hts] at hn; injection hn
                rw [ht] at k0 k1
                simp only [Bool.or_eq_true, decide_eq_true_eq] at hs
                rcases hs with ((((h1 | h1) | h1) | h1) | h1) | h1
                · exact absurd h1 k0
                · exact absurd h1 k1
                · exact absurd h1 k4
                · exact h1
                · exact absurd h1 k2
                · exact absurd h1 k3
            unfold PS.take
            rw [if_pos hf]
            exact hp
theorem atom_ts {inner : Inner} (h : Mono inner) (p : PS) : (atomB inner p).2.ts.length ≤ p.ts.length := by
  cases hs : starts p with
  | true => exact Nat.le_of_lt (atom_lt h p hs)
  | false => unfold atomB; rw [hs]; simp only [Bool.not_false, if_true]; rw [fail_ts]; exact Nat.le_refl _
theorem applyGo_succ (inner : Inner) (at_ : Int) (n : Nat) (a : Int) (p : PS) : applyGo inner at_ (n + 1) a p = if starts p then applyGo inner at_ n ((atomB inner p).2.put { nd0 at_ with kind := 4, a := a, b := (atomB inner p).1 }).1 ((atomB inner p).2.put { nd0 at_ with kind := 4, a := a, b := (atomB inner p).1 }).2 else (a, p) := rfl
theorem levelGo_succ (up : Inner) (l n : Nat) (a : Int) (p : PS) : levelGo up l (n + 1) a p = match primB p l with
    | none => (a, p)
    | some k => if l = 0 then ((up p.pop).2.put { nd0 p.here with kind := 8, num := (k : Int), a := a, b := (up p.pop).1 }) else levelGo up l n ((up p.pop).2.put { nd0 p.here with kind := 8, num := (k : Int), a := a, b := (up p.pop).1 }).1 ((up p.pop).2.put { nd0 p.here with kind := 8, num := (k : Int), a := a, b := (up p.pop).1 }).2 := by
  conv => lhs; unfold levelGo
  cases primB p l with
  | none => rfl
  | some k => rfl
theorem applyGo_ts {inner : Inner} (h : Mono inner) (at_ : Int) : ∀ (n : Nat) (a : Int) (p : PS), (applyGo inner at_ n a p).2.ts.length ≤ p.ts.length
  | 0, a, p => Nat.le_refl _
  | n + 1, a, p => by
    rw [applyGo_succ]
    split
    · refine Nat.le_trans (applyGo_ts h at_ n _ _) ?_
      rw [put_ts]
      exact atom_ts h p
    · exact Nat.le_refl _
theorem head_ts {inner : Inner} (h : Mono inner) (p : PS) : (headB inner p).2.ts.length ≤ p.ts.length := by
  unfold headB
  split
  · show (PS.put _ _).2.ts.length ≤ _
    rw [put_ts]
    exact Nat.le_trans (atom_ts h _) (Nat.le_trans (name_ts _) (pop_ts p))
  · exact atom_ts h p
theorem apply_ts {inner : Inner} (h : Mono inner) : Mono (applyB inner) := fun p => by
  unfold applyB
  exact Nat.le_trans (applyGo_ts h _ _ _ _) (head_ts h p)
theorem prim_len {p : PS} {l k : Nat} (h : primB p l = some k) : 0 < p.ts.length := by
  unfold primB at h
  have := List.find?_some h
  exact is_len this
theorem levelGo_ts {up : Inner} (h : Mono up) (l : Nat) : ∀ (n : Nat) (a : Int) (p : PS), (levelGo up l n a p).2.ts.length ≤ p.ts.length
  | 0, a, p => Nat.le_refl _
  | n + 1, a, p => by
    rw [levelGo_succ]
    split
    · exact Nat.le_refl _
    · rename_i k hk
      have h1 : (PS.put (up p.pop).2 { nd0 p.here with kind := 8, num := (k : Int), a := a, b := (up p.pop).1 }).2.ts.length ≤ p.ts.length := by
        rw [put_ts]; exact Nat.le_trans (h _) (pop_ts p)
      show (if l = 0 then PS.put _ _ else levelGo up l n _ _).2.ts.length ≤ _
      split
      · exact h1
      · exact Nat.le_trans (levelGo_ts h l n _ _) h1
theorem levelUp_ts {up : Inner} (h : Mono up) (l : Nat) : Mono (levelUp up l) := fun p => by
  unfold levelUp
  exact Nat.le_trans (levelGo_ts h l _ _ _) (h p)
theorem level0_ts {inner : Inner} (h : Mono inner) : Mono (level0 inner) := levelUp_ts (levelUp_ts (levelUp_ts (apply_ts h) 2) 1) 0
theorem expr_ts {inner : Inner} (h : Mono inner) : Mono (exprB inner) := fun p => by
  unfold exprB
  split
  · unfold funB
    show (PS.put _ _).2.ts.length ≤ _
    rw [put_ts]
    exact Nat.le_trans (then_ts h _ _) (Nat.le_trans (name_ts _) (pop_ts p))
  · split
    · unfold letB
      show (PS.put _ _).2.ts.length ≤ _
      rw [put_ts]
      refine Nat.le_trans (then_ts h _ _) (Nat.le_trans (then_ts h _ _) ?_)
      have h1 : (p.pop.take wRec).name.2.ts.length ≤ p.ts.length := Nat.le_trans (name_ts _) (Nat.le_trans (take_ts _ _) (pop_ts p))
      show (if p.pop.is wRec = true then (p.pop.take wRec).name.2.name else ([], (p.pop.take wRec).name.2)).2.ts.length ≤ _
      split
      · exact Nat.le_trans (name_ts _) h1
      · exact h1
    · split
      · unfold ifB
        show (PS.put _ _).2.ts.length ≤ _
        rw [put_ts]
        exact Nat.le_trans (then_ts h _ _) (Nat.le_trans (then_ts h _ _) (Nat.le_trans (h _) (pop_ts p)))
      · exact level0_ts h p
theorem inner_ts : ∀ d : Nat, Mono (innerB d)
  | 0 => fun p => by unfold innerB; rw [fail_ts]; exact Nat.le_refl _
  | d + 1 => fun p => by
    unfold innerB
    split
    · exact Nat.le_refl _
    · exact expr_ts (inner_ts d) p
end Go.Proofs.YtiflfnnnbgmomaaDoor
