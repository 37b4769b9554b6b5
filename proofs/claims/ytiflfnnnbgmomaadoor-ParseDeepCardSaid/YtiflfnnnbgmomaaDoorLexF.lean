/- The walks of lex.Told and lex.Tokens. -/
import Derived.Test.YtiflfnnnbgmomaaDoorAsD
namespace Go.Proofs.YtiflfnnnbgmomaaDoor
set_option linter.unusedVariables false
set_option linter.unusedSimpArgs false
open Go.RowKit
set_option maxHeartbeats 400000
set_option maxRecDepth 100000

theorem told_nil (w : World) :
    Calls Tryd.prog 26 #[.nilIface] w fun e w' => e = .returned (.tuple #[.int .i64 0, .int .i64 0]) ∧ Below w.heap.size w w' := by
  go_enter Tryd.func26, Tryd.ntmps26
  go_wp2_with (go_at_call 44; refine (as_nil _ _).mono ?_; rintro e w2 ⟨rfl, rfl⟩)
  go_ret2
  exact ⟨rfl, ((Below.refl _ _).alloc (Nat.le_refl _) _).alloc (by simp) _⟩

/-- What an error that is told of says inside: a number of its own, or that something was wanted. -/
inductive ErrIs : Value → Int → Prop
  | num (n : Int) : ErrIs (.iface 32 (.int .i64 n)) n
  | want (v : Value) : ErrIs (.iface 84 v) 403
theorem as_err (fb : Nat) (n : Int) (ev : Value) (hev : ErrIs ev n) (t : Addr) (old : Value) (w : World) (hg : w.cell? ⟨0, 0, none⟩ = some (.iface TRT (.agg #[hd TER]))) (hfb : fb < w.heap.size) (hf1 : w.cell? ⟨fb, 1, none⟩ = some ev) (ht0 : w.cell? t = some old) (hf0 : w.frozen? t = false) :
    Calls Tryd.prog 44 #[.iface TF (.pointer (some ⟨fb, 0, none⟩)), .iface TPE (.pointer (some t))] w fun ev w' => ev = .returned (.bool true) ∧ ∃ w1, w' = w1.setCell t (.int .i64 n) ∧ Below w.heap.size w w1 := by
  cases hev with
  | num n => exact as_errno fb n t old w hg hfb hf1 ht0 hf0
  | want v => exact as_want fb v t old w hg hfb hf1 ht0 hf0
theorem Blk.c1 {w : World} {g : Nat} {t : TypeId} {a : Value} (h : Blk w g t #[a]) : w.cell? ⟨g, 0, none⟩ = some a ∧ w.frozen? ⟨g, 0, none⟩ = false :=
  ⟨by rw [h.cell]; rfl, h.frozen 0⟩
theorem Blk.c2 {w : World} {g : Nat} {t : TypeId} {a b : Value} (h : Blk w g t #[a, b]) : w.cell? ⟨g, 0, none⟩ = some a ∧ w.cell? ⟨g, 1, none⟩ = some b ∧ ∀ i, w.frozen? ⟨g, i, none⟩ = false :=
  ⟨by rw [h.cell]; rfl, by rw [h.cell]; rfl, h.frozen⟩
theorem told_fault (fb : Nat) (at_ n : Int) (ev : Value) (hev : ErrIs ev n) (w : World) (hg : w.cell? ⟨0, 0, none⟩ = some (.iface TRT (.agg #[hd TER]))) (hB : Blk w fb 96 #[.int .i64 at_, ev]) :
    Calls Tryd.prog 26 #[.iface 91 (.pointer (some ⟨fb, 0, none⟩))] w fun e w' => e = .returned (.tuple #[.int .i64 at_, .int .i64 n]) ∧ Below w.heap.size w w' := by
  have hlt0 : 0 < w.heap.size := Nat.lt_of_le_of_lt (Nat.zero_le _) hB.lt
  have hfb := hB.lt
  have hW : Below w.heap.size w ((w.alloc (.cells #[.pointer none] 91)).alloc (.cells #[.int .i64 0] 32)) := ((Below.refl _ _).alloc (Nat.le_refl _) _).alloc (by simp) _
  go_enter Tryd.func26, Tryd.ntmps26
  go_wp2_with fail
  have T0 := ((Blk.new w 91 #[.pointer none]).alloc (.cells #[.int .i64 0] 32))
  have T1 := Blk.new1 w (.cells #[.pointer none] 91) 32 #[.int .i64 0]
  refine (as_fault _ _ (.pointer none) _ ((hW.cell (p := ⟨0, 0, none⟩) hlt0).trans hg) T0.c1.1 T0.c1.2).mono ?_
  rintro e w2 ⟨rfl, w1, rfl, hb1⟩
  have B1 := (hB.below hW hfb).below hb1 (by simp; omega)
  have B2 := B1.far (p := ⟨w.heap.size, 0, none⟩) (by show fb ≠ w.heap.size; omega) (.pointer (some ⟨fb, 0, none⟩))
  have T2 := (T1.below hb1 (by simp)).far (p := ⟨w.heap.size, 0, none⟩) (by show w.heap.size + 1 ≠ w.heap.size; omega) (.pointer (some ⟨fb, 0, none⟩))
  have T3 := (T0.below hb1 (by simp; omega)).set_ 0 (.pointer (some ⟨fb, 0, none⟩))
  have hb1' : Below w.heap.size w (w1.setCell ⟨w.heap.size, 0, none⟩ (.pointer (some ⟨fb, 0, none⟩))) := (hW.trans (hb1.mono (by simp; omega))).setCell (Nat.le_refl _) _
  go_wp2_with fail
  refine (as_err fb n ev hev ⟨w.heap.size + 1, 0, none⟩ (.int .i64 0) _ ((hb1'.cell (p := ⟨0, 0, none⟩) hlt0).trans hg) B2.lt B2.c2.2.1 T2.c1.1 T2.c1.2).mono ?_
  rintro e w3 ⟨rfl, w4, rfl, hb4⟩
  have hz1 : w.heap.size < (w1.setCell ⟨w.heap.size, 0, none⟩ (.pointer (some ⟨fb, 0, none⟩))).heap.size := T3.lt
  have B4 := (B2.below hb4 B2.lt).far (p := ⟨w.heap.size + 1, 0, none⟩) (by show fb ≠ w.heap.size + 1; omega) (.int .i64 n)
  have T4 := ((T3.below hb4 hz1).far (p := ⟨w.heap.size + 1, 0, none⟩) (by show w.heap.size ≠ w.heap.size + 1; omega) (.int .i64 n))
  have T5 := ((T2.below hb4 T2.lt).set_ 0 (.int .i64 n))
  have hb5 : Below w.heap.size w (w4.setCell ⟨w.heap.size + 1, 0, none⟩ (.int .i64 n)) := (hb1'.trans (hb4.mono (Nat.le_of_lt hz1))).setCell (by simp) _
  obtain ⟨c0, c1, _⟩ := B4.c2
  obtain ⟨d0, _⟩ := T4.c1
  obtain ⟨d1, _⟩ := T5.c1
  generalize w4.setCell ⟨w.heap.size + 1, 0, none⟩ (.int .i64 n) = w5 at *
  go_wp2_with fail
  go_quiet (fail)
  go_wp2
  go_ret2
  exact ⟨rfl, below_drewN hb5 _⟩

/-- .. and that the library's variable errors.errorType holds the type error. -/
structure GE (w : World) : Prop where
  g : G w
  et : w.cell? ⟨0, 0, none⟩ = some (.iface TRT (.agg #[hd TER]))
theorem GE.below {w w' : World} (h : GE w) (hb : Below w.heap.size w w') : GE w' :=
  ⟨h.g.below hb, (hb.cell (p := ⟨0, 0, none⟩) (by
    rcases Nat.eq_zero_or_pos w.heap.size with h0 | h1
    · have := h.et; simp [World.cell?, h0] at this
    · exact h1)).trans h.et⟩
def tokensPost (R : Except (Nat × Nat) (List Tok)) (w : World) (e : Ending) (w' : World) : Prop :=
  match R with
  | .ok ts => ∃ v, e = .returned (.tuple #[v, .int .i64 0, .int .i64 0]) ∧ w'.ownsRow w.heap.size 115 4 v ts.length (tcells ts) ∧ Below w.heap.size w w'
  | .error (at_, x) => e = .returned (.tuple #[.slice none 0 0, .int .i64 (at_ : Int), .int .i64 (x : Int)]) ∧ Below w.heap.size w w'
theorem tokensE_any (s : ByteArray) (hs : s.size ≤ maxLen) (w : World) (hg : GE w) :
    Calls Tryd.prog 35 #[.string s] w (tokensPost (lexB (tl s)) w) := by
  cases hl : lexB (tl s) with
  | ok ts =>
    have HL := Lib.hid hl
    clear hl
    go_enter Tryd.func35, Tryd.ntmps35
    go_wp2_with fail
    refine (tokens_any s hs _ hg.g).mono ?_
    rw [HL.out]
    rintro e w2 ⟨v, rfl, hown, hb⟩
    go_wp2_with fail
    refine (told_nil _).mono ?_
    rintro e w3 ⟨rfl, hb3⟩
    go_wp2_with fail
    go_ret3
    exact ⟨v, rfl, own_below hown hb3, hb.trans (hb3.mono hb.size)⟩
  | error x =>
    obtain ⟨p, x⟩ := x
    have HL := Lib.hid hl
    clear hl
    go_enter Tryd.func35, Tryd.ntmps35
    go_wp2_with fail
    refine (tokens_any s hs _ hg.g).mono ?_
    rw [HL.out]
    rintro e w2 ⟨g, rfl, hg1, hB, hb⟩
    go_wp2_with fail
    refine (told_fault g p x _ (ErrIs.num _) _ (hg.below hb).et hB).mono ?_
    rintro e w3 ⟨rfl, hb3⟩
    go_wp2_with fail
    go_ret3
    exact ⟨rfl, hb.trans (hb3.mono hb.size)⟩
end Go.Proofs.YtiflfnnnbgmomaaDoor
