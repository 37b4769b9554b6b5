/- The walk of parse.Parse. -/
import Derived.Test.YtiflfnnnbgmomaaDoorParseL
import Derived.Test.YtiflfnnnbgmomaaDoorLexF
import Derived.Deep.RegionWith
import Derived.Deep.DrawnRows
namespace Go.Proofs.YtiflfnnnbgmomaaDoor
set_option linter.unusedVariables false
set_option linter.unusedSimpArgs false
open Go.RowKit
set_option maxHeartbeats 2000000
set_option maxRecDepth 100000
attribute [local go_sem ↓] Go.wp_at_zero Go.wp_at_succ

theorem lexGo_len : ∀ (f : Nat) (l : Bs) (k : Nat) (acc ts : List Tok), lexGo f l k acc = .ok ts → ts.length ≤ acc.length + f
  | 0, l, k, acc, ts, h => by unfold lexGo at h; injection h with h; subst h; exact Nat.le_refl _
  | f + 1, [], k, acc, ts, h => by unfold lexGo at h; injection h with h; subst h; omega
  | f + 1, c :: r, k, acc, ts, h => by
    unfold lexGo at h
    split at h
    · have := lexGo_len f _ _ _ _ h; omega
    · split at h
      · have := lexGo_len f _ _ _ _ h; omega
      · split at h
        · cases h
        · have := lexGo_len f _ _ _ _ h; simp at this; omega
theorem lexB_len {s : Bs} {ts : List Tok} (h : lexB s = .ok ts) : ts.length ≤ 4096 ∧ s.length ≤ 4096 := by
  unfold lexB at h
  split at h
  · cases h
  · rename_i hl
    split at h
    · cases h
    · have := lexGo_len _ _ _ _ _ h
      simp at this
      omega
theorem GE.ml {w : World} (h : GE w) : ∃ m, ML m w := Tryd.laysM144.s1_3 w h.g.shaped
theorem op_ops (p : PS) (h : p.ops.length ≠ 4) : p.op.ops.length = p.ops.length + 1 := by
  unfold PS.op
  rw [if_neg h]
  simp only [List.length_append, List.length_cons, List.length_nil, (must_ops _ _).1, (base_ops _).1, (name_ops _).1]
theorem op_bad (p : PS) (h : p.ops.length = 4) : p.op.bad = true := by
  unfold PS.op PS.bad
  rw [if_pos h]
  obtain ⟨x, hx⟩ := fail_err p 402
  rw [hx]; rfl
theorem is_good {p : PS} {s : Bs} (h : p.is s = true) : p.bad = false := by
  unfold PS.is PS.next at h
  unfold PS.bad
  cases hp : p.err with
  | none => rfl
  | some x => rw [hp] at h; cases h
/-- how many operations may follow, off the parser's fields -/
def opsLeft (w : World) (pb : Nat) : Nat := match w.cell? ⟨pb, 4, none⟩ with
  | some .nilIface => (match w.cell? ⟨pb, 2, none⟩ with | some (.slice _ n _) => 5 - n | _ => 0)
  | _ => 0
theorem PAt.opsLeft {w : World} {pb : Nat} {p : PS} {deep : Int} {L : Nat → Prop} (h : PAt w pb p deep L) : opsLeft w pb = if p.bad then 0 else 5 - p.ops.length := by
  obtain ⟨Ao, capo, c2, hol⟩ := h.ops_cell
  obtain ⟨a, c, d, e, c0, c1, c2', c3, c4, c5, hf, he⟩ := h.c6
  unfold Go.Proofs.YtiflfnnnbgmomaaDoor.opsLeft PS.bad
  rw [c4, c2]
  cases hx : p.err with
  | none => rw [hx] at he; obtain rfl : e = .nilIface := he; rfl
  | some x => rw [hx] at he; obtain ⟨g, e3, rfl, _⟩ := he; rfl
/-- the state of the loop over the operations -/
def OpsLoop (p0 : PS) (w0 : World) (pb : Nat) (L : Nat → Prop) (w : World) : Prop :=
  ∃ (q : PS) (n : Nat), p0.opsGo 6 = q.opsGo n ∧ (q.bad = true ∨ 5 ≤ q.ops.length + n) ∧ PAt w pb q 0 L ∧ KeepOn L w0 w
theorem opsGo_no {q : PS} (h : q.is wOp = false) : ∀ n, q.opsGo n = q
  | 0 => rfl
  | n + 1 => by unfold PS.opsGo; rw [h]; rfl
theorem opsGo_yes {q : PS} (h : q.is wOp = true) (n : Nat) : q.opsGo (n + 1) = q.op.opsGo n := by
  conv => lhs; unfold PS.opsGo
  rw [if_pos h]

def parsePost (R : Except (Int × Int) Pg) (w : World) (e : Ending) (w' : World) : Prop :=
  match R with
  | .error (a, n) => e = .returned (.tuple #[.agg #[.slice none 0 0, .slice none 0 0], .int .i64 a, .int .i64 n]) ∧ Below w.heap.size w w'
  | .ok q => ∃ A c A' c', e = .returned (.tuple #[pgV q A c A' c', .int .i64 0, .int .i64 0]) ∧ PgAt w' w'.heap.size A A' q ∧ (∀ a, A = some a → w.heap.size ≤ a.block) ∧ (∀ a, A' = some a → w.heap.size ≤ a.block) ∧ Below w.heap.size w w'
theorem RowIs.far {α : Type} {f : α → List Value} {c : Nat} {w : World} {B : Nat} {A : Option Addr} {xs : List α} (h : RowIs f c w B A xs) {p : Addr} (hA : ∀ q, A = some q → q.block ≠ p.block) (v : Value) : RowIs f c (w.setCell p v) B A xs := fun h0 => by
  obtain ⟨b, off, e, hb, hc⟩ := h h0
  exact ⟨b, off, e, hb, fun i hi r u hu => (World.cell?_of_block (a := ⟨b, _, none⟩) (Below.heap_setCell w p v b (hA _ e))).trans (hc i hi r u hu)⟩
/-- a parser at its start -/
theorem PAt.start {w : World} {ts : List Tok} {v : Value} (B n : Nat) (hB : B ≤ w.heap.size) (hown : w.ownsRow B 115 4 v ts.length (tcells ts)) (hl : ts.length ≤ 4096) :
    PAt (w.alloc (.cells #[v, .int .i64 (n : Int), .slice none 0 0, .slice none 0 0, .nilIface, .int .i64 0] 79)) w.heap.size ⟨ts, n, [], [], none⟩ 0 (fun k => k < w.heap.size) := by
  obtain ⟨A, cap, hv, hr⟩ := RowIs.of_own (f := tokCells) (c := 4) (fun _ => rfl) hown
  have hcap : ts.length ≤ cap := by
    rcases hown.2 with ⟨hv', h0⟩ | ⟨g, cap', cur, hv', _, _, hc, _⟩
    · rw [h0]; exact Nat.zero_le _
    · rw [hv] at hv'; injection hv' with _ _ e; rw [e]; exact hc
  subst hv
  refine ⟨A, cap, .slice none 0 0, .slice none 0 0, .nilIface, Blk.new _ _ _, ?_⟩
  exact ⟨hr.keep fun a ha => World.cell?_of_block (Below.heap_alloc w _ _ ha), hcap, by show ts.length ≤ _; omega, ⟨rfl, .inl ⟨rfl, rfl⟩⟩, ⟨rfl, .inl ⟨rfl, rfl⟩⟩, by simp, by simp, rfl,
    fun k hk => ⟨by simp; omega, by omega, by simp [Value.ownBlock], by simp [Value.ownBlock]⟩, fun k hk => hk, by simp⟩
theorem parse_bad (s : ByteArray) (hs : s.size ≤ maxLen) (w : World) (hg : GE w) (a x : Nat) (hl : lexB (tl s) = .error (a, x)) (hx : x ≠ 0) :
    Calls Tryd.prog 19 #[.string s] w fun e w' => e = .returned (.tuple #[.agg #[.slice none 0 0, .slice none 0 0], .int .i64 (a : Int), .int .i64 400]) ∧ Below w.heap.size w w' := by
  have hb1 : Below w.heap.size w (w.alloc (.cells #[.slice none 0 0, .slice none 0 0] 31)) := (Below.refl _ _).alloc (Nat.le_refl _) _
  have T1 := Blk.new w 31 #[.slice none 0 0, .slice none 0 0]
  have hg1 := hg.below hb1
  have hx' : ((x : Int) != 0) = true := by rw [bne_iff_ne]; omega
  have HL := Lib.hid hl
  clear hl
  go_enter Tryd.func19, Tryd.ntmps19
  go_wp2_with (go_at_call 35; refine (tokensE_any s hs _ hg1).mono ?_; rw [HL.out]; rintro e w2 ⟨rfl, hb2⟩
               have T2 := T1.below hb2 T1.lt
               obtain ⟨z0, z1, zf⟩ := T2.c2)
  have T4 := (T2.set_ 0 (.slice none 0 0)).set_ 1 (.slice none 0 0)
  obtain ⟨y0, y1, yf⟩ := Blk.c2 (show Blk _ _ _ #[.slice none 0 0, .slice none 0 0] from T4)
  have hb4 := ((hb1.trans (hb2.mono hb1.size)).setCell (p := ⟨w.heap.size, 0, none⟩) (Nat.le_refl _) (.slice none 0 0)).setCell (p := ⟨w.heap.size, 1, none⟩) (Nat.le_refl _) (.slice none 0 0)
  generalize (w2.setCell ⟨w.heap.size, 0, none⟩ (.slice none 0 0)).setCell ⟨w.heap.size, 1, none⟩ (.slice none 0 0) = w4 at *
  exact bodyPost_ret (v := .tuple #[.agg #[.slice none 0 0, .slice none 0 0], .int .i64 (a : Int), .int .i64 400]) (by simp [results, Tryd.results19, go_sem, y0, y1]) rfl ⟨rfl, hb4⟩
theorem parse_ok (s : ByteArray) (hs : s.size ≤ maxLen) (w : World) (hg : GE w) (ts : List Tok) (hl : lexB (tl s) = .ok ts) :
    Calls Tryd.prog 19 #[.string s] w (parsePost (parseTs ts s.size) w) := by
  have hb1 : Below w.heap.size w (w.alloc (.cells #[.slice none 0 0, .slice none 0 0] 31)) := (Below.refl _ _).alloc (Nat.le_refl _) _
  have T1 := Blk.new w 31 #[.slice none 0 0, .slice none 0 0]
  have hg1 := hg.below hb1
  obtain ⟨hl1, hl2⟩ := lexB_len hl
  have hsl : s.size ≤ 4096 := by rw [tl_length] at hl2; exact hl2
  have HL := Lib.hid hl
  obtain ⟨p0, hp0⟩ : ∃ p0 : PS, (⟨ts, (s.size : Int), [], [], none⟩ : PS) = p0 := ⟨_, rfl⟩
  obtain ⟨p1, hp1⟩ : ∃ p1, p0.opsGo 6 = p1 := ⟨_, rfl⟩
  obtain ⟨⟨a2, p2⟩, hp2⟩ : ∃ r, innerB 40 p1 = r := ⟨_, rfl⟩
  have HF := Lib.hid (show parseTs ts s.size = (match (if p2.next.isSome then p2.fail 403 else p2).err with | some e => .error e | none => .ok ⟨(if p2.next.isSome then p2.fail 403 else p2).ops, (if p2.next.isSome then p2.fail 403 else p2).ns⟩) by
    unfold parseTs progB
    simp only [hp0, hp1, hp2]
    rfl)
  have HP0 := Lib.hid hp0
  have HP1 := Lib.hid hp1
  have HP2 := Lib.hid hp2
  clear hl hp0 hp1 hp2
  go_enter Tryd.func19, Tryd.ntmps19
  go_wp2_with (go_at_call 35; refine (tokensE_any s hs _ hg1).mono ?_; rw [HL.out]; rintro e w2 ⟨v, rfl, hown, hb2⟩
               have T2 := Lib.hid (T1.below hb2 T1.lt)
               have HST := Lib.hid (PAt.start _ s.size hb2.size hown hl1)
               have hz2 := T2.out.lt
               have HB2 := Lib.hid (hb1.trans (hb2.mono hb1.size))
               obtain ⟨At, capt, hv, _⟩ := RowIs.of_own (f := tokCells) (c := 4) (fun _ => rfl) hown
               subst hv
               clear hown)
  have HG2 := Lib.hid (hg.below HB2.out)
  have HG3 := Lib.hid (HG2.out.below ((Below.refl _ _).alloc (Nat.le_refl w2.heap.size) (.cells #[.slice At ts.length capt, .int .i64 (s.size : Int), .slice none 0 0, .slice none 0 0, .nilIface, .int .i64 0] 79)))
  obtain ⟨m, hm⟩ := HG3.out.ml
  have HM := Lib.hid hm
  clear hm
  have HB3 := Lib.hid (HB2.out.alloc HB2.out.size (.cells #[.slice At ts.length capt, .int .i64 (s.size : Int), .slice none 0 0, .slice none 0 0, .nilIface, .int .i64 0] 79))
  have T3 := Lib.hid (T2.out.alloc (.cells #[.slice At ts.length capt, .int .i64 (s.size : Int), .slice none 0 0, .slice none 0 0, .nilIface, .int .i64 0] 79))
  rw [HP0.out] at HST
  clear T2 HB2 T1 hb1 hg1 hb2
  obtain ⟨pb, hpb⟩ : ∃ pb, w2.heap.size = pb := ⟨_, rfl⟩
  rw [hpb] at HST hz2 ⊢
  generalize w2.alloc (.cells #[.slice At ts.length capt, .int .i64 (s.size : Int), .slice none 0 0, .slice none 0 0, .nilIface, .int .i64 0] 79) = w3 at *
  have hgm : 1 < pb := by
    obtain ⟨m2, hm2⟩ := HG2.out.ml
    rw [← hpb]
    exact block_lt_of_cell (a := ⟨1, 0, none⟩) hm2
  have hnL : ¬ (fun k => k < pb) pb := Nat.lt_irrefl pb
  go_loopw [26] (fun _ wr => OpsLoop p0 w3 pb (fun k => k < pb) wr) (fun _ wr => opsLeft wr pb)
  case atStart => exact ⟨p0, 6, rfl, .inr (by omega), HST.out, KeepOn.refl _ _⟩
  case round =>
    obtain ⟨q, n, hr, hn, h, hk⟩ := hrel
    have HQ := Lib.hid h
    have HK := Lib.hid hk
    cases his : q.is (tl { data := #[111, 112] }) with
    | true =>
      have HS := Lib.hid his
      have hgood := is_good his
      obtain ⟨Ao, capo, _, hol⟩ := h.ops_cell
      obtain ⟨n', rfl⟩ : ∃ n', n = n' + 1 := ⟨n - 1, by rcases hn with hn | hn; rw [hgood] at hn; cases hn; omega⟩
      have hgo : p0.opsGo 6 = q.op.opsGo n' := by rw [hr]; exact opsGo_yes his n'
      have hinv : q.op.bad = true ∨ 5 ≤ q.op.ops.length + n' := by
        by_cases h4 : q.ops.length = 4
        · exact .inl (op_bad q h4)
        · right
          rw [op_ops q h4]
          rcases hn with hn | hn
          · rw [hgood] at hn; cases hn
          · omega
      have hlt : (if q.op.bad then 0 else 5 - q.op.ops.length) < (if q.bad then 0 else 5 - q.ops.length) := by
        rw [hgood]
        by_cases h4 : q.ops.length = 4
        · rw [op_bad q h4, h4]; simp
        · rw [op_ops q h4]; split <;> simp <;> omega
      have HGO := Lib.hid hgo
      have HINV := Lib.hid hinv
      have HLT := Lib.hid hlt
      clear hr hn h hk his hgood hgo hinv hlt
      go_wp2_with fail
      refine (is_any _ _ _ q 0 _ HQ.out).mono ?_
      rw [HS.out]
      rintro e w4 ⟨rfl, hw⟩
      subst hw
      go_wp2_with fail
      refine (op_parse _ _ q 0 _ HQ.out).mono ?_
      rintro e w5 ⟨rfl, hP, hK⟩
      have HP5 := Lib.hid hP
      have HK5 := Lib.hid (HK.out.trans hK)
      clear hP hK
      go_wp2_with fail
      refine ⟨⟨q.op, n', HGO.out, HINV.out, HP5.out, HK5.out⟩, ?_⟩
      rw [PAt.opsLeft HP5.out, PAt.opsLeft HQ.out]
      exact HLT.out
    | false =>
      have HS := Lib.hid his
      have hq : q = p1 := by rw [← HP1.out, hr]; exact (opsGo_no his n).symm
      subst hq
      clear hr hn h hk his
      have INN := Lib.hid (show PFun 38 (innerB 40) 0 from inner_any 40 (Nat.le_refl _))
      go_wp2_with fail
      refine (is_any _ _ _ q 0 _ HQ.out).mono ?_
      rw [HS.out]
      rintro e w4 ⟨rfl, hw⟩
      subst hw
      go_wp2_with fail
      refine (INN.out m _ _ _ _ (HK.out.ml HM.out hgm) hgm HQ.out).mono ?_
      rw [HP2.out]
      rintro e w5 ⟨rfl, hP, hK⟩
      have HP5 := Lib.hid hP
      have HK5 := Lib.hid (HK.out.trans hK)
      have hlt5 := hP.lt
      clear hP hK
      obtain ⟨p3, hp3⟩ : ∃ p3, (if p2.next.isSome then p2.fail 403 else p2) = p3 := ⟨_, rfl⟩
      have HP3E := Lib.hid hp3
      rw [hp3] at HF
      cases hn : p2.next
      case' none =>
        have HN := Lib.hid hn
        have hp4 : p2 = p3 := by rw [← hp3, hn]; rfl
        have HP4 := Lib.hid hp4
        clear hp3 hn hp4
        go_wp2_with fail
        refine (next_no _ _ _ 0 _ HP5.out HN.out).mono ?_
        rintro e w7 ⟨rfl, hw⟩
        subst hw
        have HP6 := HP5
        rw [HP4.out] at HP6
        have HK6 := HK5
      case' some t =>
        have HN := Lib.hid hn
        have hp4 : p2.fail 403 = p3 := by rw [← hp3, hn]; rfl
        have HP4 := Lib.hid hp4
        obtain ⟨A, cap, ov, nv, ev, hPI⟩ := HP5.out
        obtain ⟨ho, ht⟩ := next_some hn
        obtain ⟨b, off, rfl, hb, t0, t1, t2, t3⟩ := hPI.2.head ht
        have HPI := Lib.hid hPI
        clear hp3 hn hp4 hPI ho ht t0 t1 t2 t3
        go_wp2_with fail
        refine (next_yes _ _ _ 0 _ _ cap ov nv ev HPI.out t HN.out).mono ?_
        rintro e w6 ⟨rfl, hw⟩
        subst hw
        go_wp2_with fail
        refine (fail_any 403 _ (ErrIs.want _) _ _ _ 0 _ (HP5.out.alloc _)).mono ?_
        rw [HP4.out]
        rintro e w7 ⟨rfl, hP, hK⟩
        have HP6 := Lib.hid hP
        have HK6 := Lib.hid ((HK5.out.alloc (fun k hk => Nat.lt_trans hk HST.out.lt) _).trans hK)
        clear hP hK
      all_goals
        have HB6 := Lib.hid (HB3.out.trans ((HK6.out.below (fun k hk => hk)).mono (Nat.le_of_lt hz2)))
        have HG6 := Lib.hid (hg.below HB6.out)
        have T6 := (HK6.out.blk hz2 T3.out)
        obtain ⟨z0, z1, zf⟩ := T6.c2
        obtain ⟨a, c, d, e, c0, c1, c2, c3, c4, c5, hf, he⟩ := HP6.out.c6
        cases hx : p3.err
        case' some x =>
          obtain ⟨xa, xc⟩ := x
          rw [hx] at he
          obtain ⟨g, e3, rfl, _, _, hBf, hE⟩ := he
          have HF2 := Lib.hid (show parseTs ts s.size = .error (xa, xc) by rw [HF.out, hx])
          clear hx
          go_wp2_with (go_at_call 26; refine (told_fault g xa xc _ hE _ HG6.out.et hBf).mono ?_; rintro e w8 ⟨rfl, hb8⟩
                       have T7 := T6.below hb8 T6.lt
                       obtain ⟨y0, y1, yf⟩ := T7.c2)
          have T8 := (T7.set_ 0 (.slice none 0 0)).set_ 1 (.slice none 0 0)
          obtain ⟨x0, x1, xf⟩ := Blk.c2 (show Blk _ _ _ #[.slice none 0 0, .slice none 0 0] from T8)
          have hb9 := ((HB6.out.trans (hb8.mono HB6.out.size)).setCell (p := ⟨w.heap.size, 0, none⟩) (Nat.le_refl _) (.slice none 0 0)).setCell (p := ⟨w.heap.size, 1, none⟩) (Nat.le_refl _) (.slice none 0 0)
          generalize (w8.setCell ⟨w.heap.size, 0, none⟩ (.slice none 0 0)).setCell ⟨w.heap.size, 1, none⟩ (.slice none 0 0) = w9 at *
          refine bodyPost_ret (v := .tuple #[.agg #[.slice none 0 0, .slice none 0 0], .int .i64 xa, .int .i64 xc]) (by simp [results, Tryd.results19, go_sem, x0, x1]) rfl ?_
          show parsePost (parseTs ts s.size) w _ _
          rw [HF2.out]
          exact ⟨rfl, hb9⟩
        case' none =>
          rw [hx] at he
          obtain rfl : e = .nilIface := he
          have HF2 := Lib.hid (show parseTs ts s.size = .ok ⟨p3.ops, p3.ns⟩ by rw [HF.out, hx])
          have HX := Lib.hid hx
          clear hx c0 c1 c2 c3 c4 c5 hf
          obtain ⟨A6, cap6, ov6, nv6, ev6, hB6, hR6⟩ := HP6.out
          have hE6 := hR6.err
          obtain ⟨Ao, capo, hov, hOA⟩ := own_ops hR6.ops
          obtain ⟨An, capn, hnv, hNA⟩ := own_nodes hR6.nds
          subst hov hnv
          obtain ⟨c0, c1, c2, c3, c4, c5, hf⟩ := Blk.c6 (show Blk _ pb _ #[.slice A6 p3.ts.length cap6, .int .i64 p3.fin, .slice Ao p3.ops.length capo, .slice An p3.ns.length capn, ev6, .int .i64 0] from hB6)
          have hgeo : ∀ a, Ao = some a → pb + 1 ≤ a.block := fun a ha => own_ge hR6.ops a.block (by rw [ha]; rfl)
          have hgen : ∀ a, An = some a → pb + 1 ≤ a.block := fun a ha => own_ge hR6.nds a.block (by rw [ha]; rfl)
          have hlt7 := hR6.lt
          have HOA := Lib.hid hOA
          have HNA := Lib.hid hNA
          have HGO := Lib.hid hgeo
          have HGN := Lib.hid hgen
          have hev : ev6 = .nilIface := by rw [HX.out] at hE6; exact hE6
          clear hB6 hR6 hE6 hOA hNA hgeo hgen
          subst hev
          go_wp2_with fail
          go_region
          all_goals
            go_wp2_with fail
            have hfo : ∀ a, Ao = some a → a.block ≠ w.heap.size := fun a ha => by have := HGO.out a ha; omega
            have hfn : ∀ a, An = some a → a.block ≠ w.heap.size := fun a ha => by have := HGN.out a ha; omega
            have T8 := (T6.set_ 0 (.slice Ao p3.ops.length capo)).set_ 1 (.slice An p3.ns.length capn)
            obtain ⟨y0, y1, yf⟩ := Blk.c2 (show Blk _ _ _ #[.slice Ao p3.ops.length capo, .slice An p3.ns.length capn] from T8)
            have HOF := ((HOA.out.row.far (p := ⟨w.heap.size, 0, none⟩) hfo (.slice Ao p3.ops.length capo)).far (p := ⟨w.heap.size, 1, none⟩) hfo (.slice An p3.ns.length capn))
            have HNF := ((HNA.out.row.far (p := ⟨w.heap.size, 0, none⟩) hfn (.slice Ao p3.ops.length capo)).far (p := ⟨w.heap.size, 1, none⟩) hfn (.slice An p3.ns.length capn))
            have hb9 := (HB6.out.setCell (p := ⟨w.heap.size, 0, none⟩) (Nat.le_refl _) (.slice Ao p3.ops.length capo)).setCell (p := ⟨w.heap.size, 1, none⟩) (Nat.le_refl _) (.slice An p3.ns.length capn)
            have hzz : ((w7.setCell ⟨w.heap.size, 0, none⟩ (.slice Ao p3.ops.length capo)).setCell ⟨w.heap.size, 1, none⟩ (.slice An p3.ns.length capn)).heap.size = w7.heap.size := by simp
            generalize (w7.setCell ⟨w.heap.size, 0, none⟩ (.slice Ao p3.ops.length capo)).setCell ⟨w.heap.size, 1, none⟩ (.slice An p3.ns.length capn) = w9 at *
            have z0 : w9.drew.cell? ⟨w.heap.size, 0, none⟩ = some (.slice Ao p3.ops.length capo) := y0
            have z1 : w9.drew.cell? ⟨w.heap.size, 1, none⟩ = some (.slice An p3.ns.length capn) := y1
            refine bodyPost_ret (v := .tuple #[.agg #[.slice Ao p3.ops.length capo, .slice An p3.ns.length capn], .int .i64 0, .int .i64 0]) (by simp [results, Tryd.results19, go_sem, y0, y1, z0, z1]) rfl ?_
            show parsePost (parseTs ts s.size) w _ _
            rw [HF2.out]
            refine ⟨Ao, capo, An, capn, rfl, ⟨OpsAt.of_row (RowIs.more HOF ?_), NodesAt.of_row (RowIs.more HNF ?_)⟩, fun a ha => by have := HGO.out a ha; omega, fun a ha => by have := HGN.out a ha; omega, hb9.drew⟩
            · show _ ≤ w9.heap.size; omega
            · show _ ≤ w9.heap.size; omega
theorem lexGo_err : ∀ (f : Nat) (l : Bs) (k : Nat) (acc : List Tok) (a x : Nat), lexGo f l k acc = .error (a, x) → x ≠ 0
  | 0, l, k, acc, a, x, h => by unfold lexGo at h; cases h
  | f + 1, [], k, acc, a, x, h => by unfold lexGo at h; cases h
  | f + 1, c :: r, k, acc, a, x, h => by
    unfold lexGo at h
    split at h
    · exact lexGo_err f _ _ _ _ _ h
    · split at h
      · exact lexGo_err f _ _ _ _ _ h
      · split at h
        · rename_i e he
          injection h with h
          injection h with h1 h2
          subst h2
          unfold tokenB at he
          dsimp only at he
          repeat' split at he
          all_goals first | (cases he; decide) | cases he
        · exact lexGo_err f _ _ _ _ _ h
theorem lexB_err {s : Bs} {a x : Nat} (h : lexB s = .error (a, x)) : x ≠ 0 := by
  unfold lexB at h
  split at h
  · injection h with h; injection h with _ h; omega
  · split at h
    · injection h with h; injection h with _ h; omega
    · exact lexGo_err _ _ _ _ _ _ h
theorem parse_any (s : ByteArray) (hs : s.size ≤ maxLen) (w : World) (hg : GE w) :
    Calls Tryd.prog 19 #[.string s] w (parsePost (parseB (tl s)) w) := by
  cases hl : lexB (tl s) with
  | ok ts =>
    have := parse_ok s hs w hg ts hl
    unfold parseB
    rw [hl, tl_length]
    exact this
  | error x =>
    obtain ⟨a, x⟩ := x
    have := parse_bad s hs w hg a x hl (lexB_err hl)
    unfold parseB
    rw [hl]
    exact this
end Go.Proofs.YtiflfnnnbgmomaaDoor
