/- The walks of tree.Begin, Shaped. -/
import Derived.Test.YtiflfnnnbgmomaaDoorTreeF
namespace Go.Proofs.YtiflfnnnbgmomaaDoor
set_option linter.unusedVariables false
set_option linter.unusedSimpArgs false
open Go.RowKit
set_option maxHeartbeats 1000000
set_option maxRecDepth 100000

/-- ten cells are a node -/
def Cells10 (w : World) (b o : Nat) (n : Nd) : Prop :=
  w.cell? ⟨b, o, none⟩ = some (.int .i64 n.kind) ∧ w.cell? ⟨b, o + 1, none⟩ = some (.int .i64 n.a) ∧ w.cell? ⟨b, o + 2, none⟩ = some (.int .i64 n.b) ∧ w.cell? ⟨b, o + 3, none⟩ = some (.int .i64 n.c) ∧ w.cell? ⟨b, o + 4, none⟩ = some (.int .i64 n.num) ∧
    w.cell? ⟨b, o + 5, none⟩ = some (.string (ba n.name)) ∧ w.cell? ⟨b, o + 6, none⟩ = some (.string (ba n.x)) ∧ w.cell? ⟨b, o + 7, none⟩ = some (.string (ba n.y)) ∧ w.cell? ⟨b, o + 8, none⟩ = some (.string (ba n.z)) ∧ w.cell? ⟨b, o + 9, none⟩ = some (.int .i64 n.pos)
/-- a slice that reads as nodes, below a block -/
def NodesAt (w : World) (B : Nat) (A : Option Addr) (ns : List Nd) : Prop :=
  0 < ns.length → ∃ b off, A = some ⟨b, off, none⟩ ∧ b < B ∧ ∀ i (h : i < ns.length), Cells10 w b (off + i * 10) ns[i]
theorem NodesAt.keep {w w' : World} {B : Nat} {A : Option Addr} {ns : List Nd} (h : NodesAt w B A ns) (hk : ∀ p : Addr, p.block < B → w'.cell? p = w.cell? p) : NodesAt w' B A ns := fun h0 => by
  obtain ⟨b, off, e, hb, hc⟩ := h h0
  refine ⟨b, off, e, hb, fun i hi => ?_⟩
  have := hc i hi
  unfold Cells10 at this ⊢
  simp only [hk ⟨b, _, none⟩ hb]
  exact this
theorem NodesAt.more {w : World} {B B' : Nat} {A : Option Addr} {ns : List Nd} (h : NodesAt w B A ns) (hB : B ≤ B') : NodesAt w B' A ns := fun h0 => by
  obtain ⟨b, off, e, hb, hc⟩ := h h0
  exact ⟨b, off, e, by omega, hc⟩
theorem NodesAt.below {w w' : World} {A : Option Addr} {ns : List Nd} (h : NodesAt w w.heap.size A ns) (hb : Below w.heap.size w w') : NodesAt w' w'.heap.size A ns :=
  (h.keep fun _ hp => hb.cell hp).more hb.size

theorem beginKids_le (g : Int → Int) (hg : ∀ x, 0 ≤ x → g x ≤ x) : ∀ (l : List Int) (a : Int), 0 ≤ a → beginKids g l a ≤ a
  | [], a, h => Int.le_refl _
  | k :: r, a, h => by
    unfold beginKids
    split
    · omega
    · split
      · omega
      · have := hg (a - 1) (by omega)
        have := beginKids_le g hg r (g (a - 1)) (by omega)
        omega
theorem beginB_le (ns : List Nd) : ∀ (f : Nat) (a : Int), 0 ≤ a → beginB ns f a ≤ a
  | 0, a, h => by unfold beginB; omega
  | f + 1, a, h => by unfold beginB; exact beginKids_le _ (beginB_le ns f) _ _ h
theorem kidOffs_len (n : Nd) : (kidOffs n.kind).length = n.kids.length := by
  unfold kidOffs Nd.kids; simp
theorem kid_at (n : Nd) (i : Nat) (h : i < (kidOffs n.kind).reverse.length) (h' : i < n.kids.reverse.length) :
    (ndArr n)[(kidOffs n.kind).reverse[i]]? = some (.int .i64 n.kids.reverse[i]) := by
  have hc : kidsN n.kind = 0 ∨ kidsN n.kind = 1 ∨ kidsN n.kind = 2 ∨ kidsN n.kind = 3 := by
    unfold kidsN
    repeat' split
    all_goals simp
  unfold kidOffs at h ⊢
  unfold Nd.kids at h' ⊢
  rcases hc with hc | hc | hc | hc <;> simp only [hc] at h h' ⊢
  · simp at h
  · match i, h with
    | 0, _ => rfl
  · match i, h with
    | 0, _ => rfl
    | 1, _ => rfl
  · match i, h with
    | 0, _ => rfl
    | 1, _ => rfl
    | 2, _ => rfl

theorem kids_two (k : Int) (b : Nat) (w : World) (hk : w.cell? ⟨b, 0, none⟩ = some (.int .i64 k)) :
    Calls Tryd.prog 49 #[.pointer (some ⟨b, 0, none⟩)] w fun e w' => (kidOffs k = [] ∧ e = .returned (.slice none 0 0) ∧ w' = w) ∨
      ∃ g, 0 < (kidOffs k).length ∧ e = .returned (.slice (some ⟨g, 0, none⟩) (kidOffs k).length (kidOffs k).length) ∧ w.heap.size ≤ g ∧ Blk w' g 104 (ptrs b (kidOffs k)).toArray ∧ Below w.heap.size w w' := by
  refine (kids_any k b w hk).mono ?_
  rintro e w' (⟨h0, rfl, rfl⟩ | ⟨h0, rfl, m, rfl⟩)
  · exact .inl ⟨h0, rfl, rfl⟩
  · exact .inr ⟨_, List.length_pos_iff.2 h0, rfl, Nat.le_refl _, (Blk.new w 104 _).drewN m, below_drewN ((Below.refl _ _).alloc (Nat.le_refl _) _) m⟩
theorem begin_any (A : Option Addr) (c : Nat) (ns : List Nd) (hlen : ns.length ≤ maxLen) (f : Nat) : ∀ (a : Nat) (w : World), a < ns.length → a < f → NodesAt w w.heap.size A ns →
    Calls Tryd.prog 66 #[.slice A ns.length c, .int .i64 a] w fun e w' => e = .returned (.int .i64 (beginB ns f a)) ∧ Below w.heap.size w w' := by
  unfold maxLen at hlen
  induction f with
  | zero => intro a w _ h; omega
  | succ f ih =>
    intro a w ha hf hA
    obtain ⟨b, off, rfl, hb, hc⟩ := hA (by omega)
    obtain ⟨x, hx⟩ : ∃ x, ns[a] = x := ⟨_, rfl⟩
    have HX := Lib.hid (show beginB ns (f + 1) a = beginKids (beginB ns f) x.kids.reverse a by
      unfold beginB
      rw [Int.toNat_natCast, List.getD_eq_getElem?_getD, List.getElem?_eq_getElem ha, ← hx]; rfl)
    have hxa := hc a ha
    rw [hx] at hxa
    obtain ⟨c0, c1, c2, c3, c4, c5, c6, c7, c8, c9⟩ := hxa
    have HC := Lib.hid hc
    have HA := Lib.hid hA
    have IH := Lib.hid ih
    clear hc hA hx ih
    go_enter Tryd.func66, Tryd.ntmps66
    go_wp2_with fail
    have B1 : Blk (w.alloc (.cells (ndArr x) 24)) w.heap.size 24 (ndArr x) := Blk.new w _ _
    have hb1 : Below w.heap.size w (w.alloc (.cells (ndArr x) 24)) := (Below.refl _ _).alloc (Nat.le_refl _) _
    clear c0 c1 c2 c3 c4 c5 c6 c7 c8 c9
    refine (kids_two x.kind _ _ (nd10 B1).1).mono ?_
    rintro e w2 (⟨h0, rfl, rfl⟩ | ⟨g, hl0, rfl, hg1, G2, hbb⟩)
    · have HR := Lib.hid (show beginB ns (f + 1) a = a by
        rw [HX.out]
        have : x.kids = [] := List.length_eq_zero_iff.1 (by rw [← kidOffs_len, h0]; rfl)
        rw [this]; rfl)
      clear h0
      go_wp2_with (go_at_call 95; refine (rev_nil _).mono ?_; rintro e w3 ⟨rfl, hw3⟩; obtain rfl := hw3)
      refine wp_loop_rounds 1 ?_
      rw [rounds_succ]
      go_wp2_with fail
      go_ret
      exact ⟨ret_int HR.out.symm, hb1⟩
    · have hl3 := kidOffs_le x.kind
      have hg2 : w.heap.size < g := by simp at hg1; omega
      have B2 := B1.below hbb B1.lt
      have hb2 := hb1.trans (hbb.mono (by simp))
      have HL := Lib.hid (kidOffs_len x)
      have HRL := Lib.hid (show (kidOffs x.kind).reverse.length = (kidOffs x.kind).length from List.length_reverse)
      have HKL := Lib.hid (show x.kids.reverse.length = x.kids.length from List.length_reverse)
      clear B1 hb1 hbb hg1
      go_wp2_with (go_at_call 95; refine (rev_any g w.heap.size _ (kidOffs x.kind) rfl hl0 hl3 _ G2).mono ?_; rintro e w3 ⟨rfl, G3, hb3⟩)
      have B3 := B2.below hb3 hg2
      have hb4 := hb2.trans (hb3.mono (Nat.le_of_lt hg2))
      clear B2 hb2 hb3 G2
      go_loopw [1, 8, 18] (fun r _ i wr => ∃ (k : Nat) (q : Int), k ≤ (kidOffs x.kind).length ∧ 0 ≤ q ∧ q ≤ a ∧ i = .int .i64 k ∧ r = .int .i64 q ∧ beginB ns (f + 1) a = beginKids (beginB ns f) (x.kids.reverse.drop k) q ∧
          Blk wr w.heap.size 24 (ndArr x) ∧ Blk wr g 104 (ptrs w.heap.size (kidOffs x.kind).reverse).toArray ∧ Below w.heap.size w wr) (fun _ _ i _ => (kidOffs x.kind).length - (intOf i).toNat)
      case atStart => exact ⟨0, a, Nat.zero_le _, by omega, by omega, rfl, rfl, HX.out, B3, G3, hb4⟩
      case round =>
        obtain ⟨k, q, hk, hq0, hqa, rfl, rfl, hr, hB, hG, hbr⟩ := hrel
        by_cases hlt : k < (kidOffs x.kind).length
        · have h1 : k < (kidOffs x.kind).reverse.length := by rw [HRL.out]; exact hlt
          have h2 : k < x.kids.reverse.length := by rw [HKL.out, ← HL.out]; exact hlt
          have p1 := (hG.cell k).trans (ptrs_at _ _ k h1)
          have p2 := (hB.cell _).trans (kid_at x k h1 h2)
          rw [List.drop_eq_getElem_cons h2] at hr
          obtain ⟨o, ho⟩ : ∃ o, (kidOffs x.kind).reverse[k] = o := ⟨_, rfl⟩
          rw [ho] at p1 p2
          clear ho
          obtain ⟨kv, hkv⟩ : ∃ kv, x.kids.reverse[k] = kv := ⟨_, rfl⟩
          rw [hkv] at p2 hr
          clear hkv
          have HR := Lib.hid hr
          clear hr
          by_cases hq : q - 1 < 0
          · have HF := Lib.hid (show beginB ns (f + 1) a = -1 by rw [HR.out, beginKids, if_pos (.inl hq)])
            go_wp2_with fail
            go_ret
            exact ⟨ret_int HF.out.symm, hbr⟩
          · obtain ⟨m, rfl⟩ : ∃ m : Nat, q = (m : Int) + 1 := ⟨(q - 1).toNat, by omega⟩
            have HM := Lib.hid (show (m : Int) + 1 - 1 = m by omega)
            by_cases hkm : kv = m
            · subst hkm
              have hml : m < ns.length := by omega
              have hmf : m < f := by omega
              have HAr := Lib.hid (HA.out.below hbr)
              obtain ⟨r, hrv⟩ : ∃ r, beginB ns f m = r := ⟨_, rfl⟩
              have hrle : r ≤ m := by rw [← hrv]; exact beginB_le ns f m (by omega)
              have HRV := Lib.hid hrv
              clear hrv
              by_cases hneg : r < 0
              · have HF := Lib.hid (show beginB ns (f + 1) a = -1 by rw [HR.out, beginKids, if_neg (by rw [HM.out]; omega), HM.out, HRV.out, if_pos hneg])
                go_wp2_with (go_at_call 66; refine (IH.out m _ hml hmf HAr.out).mono ?_; rintro e w5 ⟨rfl, hb5⟩; rw [HRV.out])
                go_ret
                exact ⟨ret_int HF.out.symm, hbr.trans (hb5.mono hbr.size)⟩
              · have HF := Lib.hid (show beginB ns (f + 1) a = beginKids (beginB ns f) (x.kids.reverse.drop (k + 1)) r by rw [HR.out, beginKids, if_neg (by rw [HM.out]; omega), HM.out, HRV.out, if_neg hneg])
                go_wp2_with (go_at_call 66; refine (IH.out m _ hml hmf HAr.out).mono ?_; rintro e w5 ⟨rfl, hb5⟩; rw [HRV.out])
                go_roundw
                case rel => exact ⟨k + 1, r, by omega, by omega, by omega, by go_num, rfl, HF.out, hB.below hb5 hB.lt, hG.below hb5 hG.lt, hbr.trans (hb5.mono hbr.size)⟩
                case measure => simp [intOf]; omega
            · have HF := Lib.hid (show beginB ns (f + 1) a = -1 by rw [HR.out, beginKids, if_pos (.inr (by rw [HM.out]; exact hkm))])
              have hkm' : (kv == (m : Int)) = false := by simpa using hkm
              have hkm2 : (kv != (m : Int)) = true := by simpa using hkm
              go_wp2_with fail
              go_ret
              exact ⟨ret_int HF.out.symm, hbr⟩
        · have HF := Lib.hid (show beginB ns (f + 1) a = q by
            rw [hr, List.drop_of_length_le (by rw [HKL.out, ← HL.out]; omega)]; rfl)
          clear hr
          go_wp2_with fail
          go_ret
          exact ⟨ret_int HF.out.symm, hbr⟩
end Go.Proofs.YtiflfnnnbgmomaaDoor
