/- The walks of package parse: fail, take, must, name. -/
import Derived.Test.YtiflfnnnbgmomaaDoorParseB
namespace Go.Proofs.YtiflfnnnbgmomaaDoor
set_option linter.unusedVariables false
set_option linter.unusedSimpArgs false
open Go.RowKit
set_option maxHeartbeats 1000000
set_option maxRecDepth 100000

theorem PAt.noted {w : World} {pb : Nat} {p : PS} {deep : Int} {L : Nat → Prop} {A : Option Addr} {cap : Nat} {ov nv ev : Value} (hB : Blk w pb 79 (pFields p deep A cap ov nv ev)) (hR : PRest w pb p L A cap ov nv ev) (a c : Int) (e0 : Value) (he : ErrIs e0 c) :
    PAt ((w.setCell ⟨pb, 4, none⟩ (.iface 91 (.pointer (some ⟨w.heap.size, 0, none⟩)))).alloc (.cells #[.int .i64 a, e0] 96)) pb { p with err := some (a, c) } deep L := by
  have hk : w.grownBy ((w.setCell ⟨pb, 4, none⟩ (.iface 91 (.pointer (some ⟨w.heap.size, 0, none⟩)))).alloc (.cells #[.int .i64 a, e0] 96)) (some pb) := only_alloc (only_setCell (World.grownBy.refl _ _) (.inl rfl) _) _
  have h1 := hR.keep hk
  refine ⟨A, cap, ov, nv, .iface 91 (.pointer (some ⟨w.heap.size, 0, none⟩)), (hB.set_ 4 _).alloc _, h1.toks, h1.capl, h1.small, h1.ops, h1.nds, h1.opl, h1.ndl, ?_, h1.loc, h1.low, h1.lt⟩
  have hz : (w.setCell ⟨pb, 4, none⟩ (.iface 91 (.pointer (some ⟨w.heap.size, 0, none⟩)))).heap.size = w.heap.size := by simp
  have hBk := Blk.new (w.setCell ⟨pb, 4, none⟩ (.iface 91 (.pointer (some ⟨w.heap.size, 0, none⟩)))) 96 #[.int .i64 a, e0]
  rw [hz] at hBk
  exact ⟨w.heap.size, e0, rfl, hR.lt, fun hL => by have := (hR.loc _ hL).1; omega, hBk, he⟩
theorem fail_any (c : Int) (e0 : Value) (he0 : ErrIs e0 c) (w : World) (pb : Nat) (p : PS) (deep : Int) (L : Nat → Prop) (h : PAt w pb p deep L) :
    Calls Tryd.prog 40 #[.pointer (some ⟨pb, 0, none⟩), e0] w fun e w' => e = .returned (.tuple #[]) ∧ PAt w' pb (p.fail c) deep L ∧ KeepOn L w w' := by
  have HP := Lib.hid h
  obtain ⟨A, cap, ov, nv, ev, hB, hR⟩ := h
  obtain ⟨c0, c1, c2, c3, c4, c5, hf⟩ := Blk.c6 (show Blk w pb _ #[.slice A p.ts.length cap, .int .i64 p.fin, ov, nv, ev, .int .i64 deep] from hB)
  have he := hR.err
  have hlt := hR.lt
  cases ho : p.err with
  | some x =>
    have HF := Lib.hid (show p.fail c = p by unfold PS.fail; rw [ho])
    rw [ho] at he
    obtain ⟨g, e, rfl, _⟩ := he
    clear hB hR ho
    go_enter Tryd.func40, Tryd.ntmps40
    go_wp2
    go_end0
    rw [HF.out]
    exact ⟨rfl, HP.out, KeepOn.refl _ _⟩
  | none =>
    have HF := Lib.hid (show p.fail c = { p with err := some (p.here, c) } by unfold PS.fail; rw [ho])
    rw [ho] at he
    obtain rfl : ev = .nilIface := he
    have HB := Lib.hid hB
    have HR := Lib.hid hR
    have HE := Lib.hid he0
    clear hB hR ho
    cases he0 with
    | num n =>
      go_enter Tryd.func40, Tryd.ntmps40
      go_wp2_with (go_at_call 60; refine (here_any _ _ p deep L HP.out).mono ?_; rintro e w2 ⟨rfl, hw2⟩; obtain rfl := hw2)
      go_end0
      rw [HF.out]
      exact ⟨rfl, PAt.noted HB.out HR.out _ _ _ HE.out, ((KeepOn.refl L _).setCell (fun hL => (HP.out.loc hL).2 rfl) _).alloc (fun k hk => (HP.out.loc hk).1) _⟩
    | want v =>
      go_enter Tryd.func40, Tryd.ntmps40
      go_wp2_with (go_at_call 60; refine (here_any _ _ p deep L HP.out).mono ?_; rintro e w2 ⟨rfl, hw2⟩; obtain rfl := hw2)
      go_end0
      rw [HF.out]
      exact ⟨rfl, PAt.noted HB.out HR.out _ _ _ HE.out, ((KeepOn.refl L _).setCell (fun hL => (HP.out.loc hL).2 rfl) _).alloc (fun k hk => (HP.out.loc hk).1) _⟩

theorem is_next {p : PS} {s : Bs} (h : p.is s = true) : ∃ t, p.next = some t := by
  unfold PS.is at h
  cases hn : p.next with
  | none => rw [hn] at h; cases h
  | some t => exact ⟨t, rfl⟩
/-- a parser whose next token is taken off -/
theorem PAt.popped {w : World} {pb : Nat} {p : PS} {deep : Int} {L : Nat → Prop} {A : Option Addr} {cap : Nat} {ov nv ev : Value} (hB : Blk w pb 79 (pFields p deep A cap ov nv ev)) (hR : PRest w pb p L A cap ov nv ev) {b off : Nat} (hA : A = some ⟨b, off, none⟩) {t : Tok} {r : List Tok} (ht : p.ts = t :: r) {V : Value} {n : Nat} (hn : n = p.ts.length) (hV : V = .slice (if cap = 1 then A else some ⟨b, off + 4, none⟩) (n - 1) (cap - 1)) :
    PAt (w.setCell ⟨pb, 0, none⟩ V) pb p.pop deep L := by
  have hk : w.grownBy (w.setCell ⟨pb, 0, none⟩ V) (some pb) := only_setCell (World.grownBy.refl _ _) (.inl rfl) V
  obtain ⟨b', off', hA', hb, h1⟩ := hR.pop ht
  rw [hA] at hA'
  injection hA' with e
  injection e with e1 e2
  subst e1 e2 hn hV
  refine ⟨_, _, ov, nv, ev, ?_, h1.keep hk⟩
  have := hB.set_ 0 (.slice (if cap = 1 then A else some ⟨b, off + 4, none⟩) (p.ts.length - 1) (cap - 1))
  have e : p.pop.ts.length = p.ts.length - 1 := by simp [PS.pop]
  show Blk _ _ _ #[.slice (if cap = 1 then A else some ⟨b, off + 4, none⟩) p.pop.ts.length (cap - 1), .int .i64 p.fin, ov, nv, ev, .int .i64 deep]
  rw [e]
  exact this
theorem take_any (s : ByteArray) (w : World) (pb : Nat) (p : PS) (deep : Int) (L : Nat → Prop) (h : PAt w pb p deep L) :
    Calls Tryd.prog 87 #[.pointer (some ⟨pb, 0, none⟩), .string s] w fun e w' => e = .returned (.bool (p.is (tl s))) ∧ PAt w' pb (p.take (tl s)) deep L ∧ KeepOn L w w' := by
  have HP := Lib.hid h
  cases his : p.is (tl s) with
  | false =>
    have HI := Lib.hid his
    have HF := Lib.hid (show p.take (tl s) = p by unfold PS.take; rw [his]; rfl)
    clear his h
    go_enter Tryd.func87, Tryd.ntmps87
    go_wp2_with (go_at_call 36; refine (is_any s _ _ p deep L HP.out).mono ?_; rw [HI.out]; rintro e w2 ⟨rfl, hw2⟩; obtain rfl := hw2)
    go_ret
    rw [HF.out]
    exact ⟨rfl, HP.out, KeepOn.refl _ _⟩
  | true =>
    have HI := Lib.hid his
    have HF := Lib.hid (show p.take (tl s) = p.pop by unfold PS.take; rw [his]; rfl)
    obtain ⟨t, hn⟩ := is_next his
    obtain ⟨ho, ht⟩ := next_some hn
    obtain ⟨A, cap, ov, nv, ev, hB, hR⟩ := h
    obtain ⟨c0, c1, c2, c3, c4, c5, hf⟩ := Blk.c6 (show Blk w pb _ #[.slice A p.ts.length cap, .int .i64 p.fin, ov, nv, ev, .int .i64 deep] from hB)
    obtain ⟨b, off, hA, hb, t0, t1, t2, t3⟩ := hR.head ht
    have hl : 0 < p.ts.length := by rw [ht]; simp
    have hcl := hR.capl
    have hlt := hR.lt
    have HB := Lib.hid hB
    have HR := Lib.hid hR
    have HT := Lib.hid ht
    have HA := Lib.hid hA
    rw [hA] at c0
    obtain ⟨n, hn⟩ : ∃ n, n = p.ts.length := ⟨_, rfl⟩
    rw [← hn] at c0 hl hcl
    have HN := Lib.hid hn
    clear hB hR ht hA his ho hn t0 t1 t2 t3
    have h1 : (1 : Int) ≤ (n : Int) := by omega
    have h2 : (n : Int) ≤ (cap : Int) := by omega
    by_cases hc : cap = 1
    · have HC := Lib.hid hc
      have hc' : (cap : Int) = 1 := by omega
      subst hc
      clear hc'
      go_enter Tryd.func87, Tryd.ntmps87
      go_wp2_with (go_at_call 36; refine (is_any s _ _ p deep L HP.out).mono ?_; rw [HI.out]; rintro e w2 ⟨rfl, hw2⟩; obtain rfl := hw2)
      go_ret
      rw [HF.out]
      exact ⟨rfl, PAt.popped HB.out HR.out HA.out HT.out HN.out (by rw [if_pos rfl, HA.out]; congr 1; omega), (KeepOn.refl L _).setCell (fun hL => (HP.out.loc hL).2 rfl) _⟩
    · go_enter Tryd.func87, Tryd.ntmps87
      go_wp2_with (go_at_call 36; refine (is_any s _ _ p deep L HP.out).mono ?_; rw [HI.out]; rintro e w2 ⟨rfl, hw2⟩; obtain rfl := hw2)
      go_ret
      rw [HF.out]
      exact ⟨rfl, PAt.popped HB.out HR.out HA.out HT.out HN.out (by rw [if_neg hc]), (KeepOn.refl L _).setCell (fun hL => (HP.out.loc hL).2 rfl) _⟩

theorem must_any (s : ByteArray) (w : World) (pb : Nat) (p : PS) (deep : Int) (L : Nat → Prop) (h : PAt w pb p deep L) :
    Calls Tryd.prog 56 #[.pointer (some ⟨pb, 0, none⟩), .string s] w fun e w' => e = .returned (.tuple #[]) ∧ PAt w' pb (p.must (tl s)) deep L ∧ KeepOn L w w' := by
  have HP := Lib.hid h
  cases his : p.is (tl s) with
  | true =>
    have HI := Lib.hid his
    have HF := Lib.hid (show p.must (tl s) = p.take (tl s) by unfold PS.must PS.take; rw [his]; rfl)
    clear his h
    go_enter Tryd.func56, Tryd.ntmps56
    go_wp2_with (go_at_call 87; refine (take_any s _ _ p deep L HP.out).mono ?_; rw [HI.out]; rintro e w2 ⟨rfl, hP2, hK2⟩)
    go_end0
    rw [HF.out]
    exact ⟨rfl, hP2, hK2⟩
  | false =>
    have HI := Lib.hid his
    have HF := Lib.hid (show p.must (tl s) = (p.take (tl s)).fail 403 by unfold PS.must PS.take; rw [his]; rfl)
    clear his h
    go_enter Tryd.func56, Tryd.ntmps56
    go_wp2_with (first
      | (go_at_call 87; refine (take_any s _ _ p deep L HP.out).mono ?_; rw [HI.out]; rintro e w2 ⟨rfl, hP2, hK2⟩; have HP2 := Lib.hid hP2; clear hP2)
      | (go_at_call 40; refine (fail_any 403 _ (ErrIs.want _) _ _ _ deep L (HP2.out.alloc _)).mono ?_; rintro e w3 ⟨rfl, hP3, hK3⟩))
    go_end0
    rw [HF.out]
    exact ⟨rfl, hP3, hK2.trans (((KeepOn.refl L _).alloc (fun k hk => (HP2.out.loc hk).1) _).trans hK3)⟩

theorem isName_next {p : PS} (h : p.isName = true) : ∃ t, p.next = some t ∧ t.kind = 0 := by
  unfold PS.isName at h
  cases hn : p.next with
  | none => rw [hn] at h; cases h
  | some t => rw [hn] at h; exact ⟨t, rfl, of_decide_eq_true h⟩
theorem name_any (w : World) (pb : Nat) (p : PS) (deep : Int) (L : Nat → Prop) (h : PAt w pb p deep L) :
    Calls Tryd.prog 57 #[.pointer (some ⟨pb, 0, none⟩)] w fun e w' => e = .returned (.string (ba p.name.1)) ∧ PAt w' pb p.name.2 deep L ∧ KeepOn L w w' := by
  have HP := Lib.hid h
  cases his : p.isName with
  | false =>
    have HF := Lib.hid (show p.name = ([], p.fail 403) by unfold PS.name; rw [his]; rfl)
    cases hn : p.next with
    | none =>
      have HN := Lib.hid hn
      clear his h hn
      go_enter Tryd.func57, Tryd.ntmps57
      go_wp2_with (first
        | (go_at_call 39; refine (next_no _ _ p deep L HP.out HN.out).mono ?_; rintro e w2 ⟨rfl, hw2⟩; obtain rfl := hw2)
        | (go_at_call 40; refine (fail_any 403 _ (ErrIs.want _) _ _ _ deep L (HP.out.alloc _)).mono ?_; rintro e w3 ⟨rfl, hP3, hK3⟩))
      go_ret
      rw [HF.out]
      exact ⟨rfl, hP3, ((KeepOn.refl L _).alloc (fun k hk => (HP.out.loc hk).1) _).trans hK3⟩
    | some t =>
      have HN := Lib.hid hn
      have hk : ((t.kind : Int) != 0) = true := by
        unfold PS.isName at his
        rw [hn] at his
        have := of_decide_eq_false his
        rw [bne_iff_ne]
        omega
      obtain ⟨A, cap, ov, nv, ev, hP⟩ := h
      obtain ⟨ho, ht⟩ := next_some hn
      obtain ⟨b, off, rfl, hb, t0, t1, t2, t3⟩ := hP.2.head ht
      have HPI := Lib.hid hP
      clear his hn hP ho ht
      go_enter Tryd.func57, Tryd.ntmps57
      go_wp2_with (first
        | (go_at_call 39; refine (next_yes _ _ p deep L _ cap ov nv ev HPI.out t HN.out).mono ?_; rintro e w2 ⟨rfl, hw2⟩; obtain rfl := hw2)
        | (go_at_call 40; refine (fail_any 403 _ (ErrIs.want _) _ _ _ deep L (HP.out.alloc _)).mono ?_; rintro e w3 ⟨rfl, hP3, hK3⟩))
      go_ret
      rw [HF.out]
      exact ⟨rfl, hP3, ((KeepOn.refl L _).alloc (fun k hk => (HP.out.loc hk).1) _).trans hK3⟩
  | true =>
    obtain ⟨t, hn, hk0⟩ := isName_next his
    obtain ⟨ho, ht⟩ := next_some hn
    have HF := Lib.hid (show p.name = (t.text, p.pop) by unfold PS.name; rw [his, ht]; rfl)
    obtain ⟨A, cap, ov, nv, ev, hB, hR⟩ := h
    obtain ⟨c0, c1, c2, c3, c4, c5, hf⟩ := Blk.c6 (show Blk w pb _ #[.slice A p.ts.length cap, .int .i64 p.fin, ov, nv, ev, .int .i64 deep] from hB)
    obtain ⟨b, off, hA, hb, t0, t1, t2, t3⟩ := hR.head ht
    have hl : 0 < p.ts.length := by rw [ht]; simp
    have hcl := hR.capl
    have hlt := hR.lt
    have hne : b ≠ pb := by omega
    have hne2 : pb ≠ b := by omega
    have HB := Lib.hid hB
    have HR := Lib.hid hR
    have HT := Lib.hid ht
    have HA := Lib.hid hA
    have HN := Lib.hid hn
    have hk : ((t.kind : Int) != 0) = false := by rw [hk0]; rfl
    rw [hA] at c0
    obtain ⟨n, hn'⟩ : ∃ n, n = p.ts.length := ⟨_, rfl⟩
    rw [← hn'] at c0 hl hcl
    have HN' := Lib.hid hn'
    have hX : Hid (PIn w pb p deep L (some ⟨b, off, none⟩) cap ov nv ev) := Lib.hid (by rw [← hA]; exact ⟨hB, hR⟩)
    clear hB hR ht hA his ho hn hk0 hn'
    have h1 : (1 : Int) ≤ (n : Int) := by omega
    have h2 : (n : Int) ≤ (cap : Int) := by omega
    by_cases hc : cap = 1
    · subst hc
      go_enter Tryd.func57, Tryd.ntmps57
      go_wp2_with (go_at_call 39; refine (next_yes _ _ p deep L _ _ ov nv ev hX.out t HN.out).mono ?_; rintro e w2 ⟨rfl, hw2⟩; obtain rfl := hw2)
      go_ret
      rw [HF.out]
      exact ⟨rfl, PAt.popped HB.out HR.out HA.out HT.out HN'.out (by rw [if_pos rfl, HA.out]; congr 1; omega), (KeepOn.refl L _).setCell (fun hL => (HP.out.loc hL).2 rfl) _⟩
    · go_enter Tryd.func57, Tryd.ntmps57
      go_wp2_with (go_at_call 39; refine (next_yes _ _ p deep L _ _ ov nv ev hX.out t HN.out).mono ?_; rintro e w2 ⟨rfl, hw2⟩; obtain rfl := hw2)
      go_ret
      rw [HF.out]
      exact ⟨rfl, PAt.popped HB.out HR.out HA.out HT.out HN'.out (by rw [if_neg hc]), (KeepOn.refl L _).setCell (fun hL => (HP.out.loc hL).2 rfl) _⟩
end Go.Proofs.YtiflfnnnbgmomaaDoor
