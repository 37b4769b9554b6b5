/- Reverse and Index at texts, op, Binds, bound. -/
import Derived.Test.YtiflfnnnbgmomaaDoorClone
import Derived.Lib.LazyBuf
namespace Go.Proofs.YtiflfnnnbgmomaaDoor
open Go.RowKit
set_option maxHeartbeats 1000000
set_option maxRecDepth 100000

theorem below_cells {B b : Nat} {a : World} (hb : B ≤ b) : ∀ (vs : List Value) (o : Nat) (w : World), Below B a w → Below B a (w.setCells b o vs)
  | [], _, _, h => h
  | v :: r, o, w, h => below_cells hb r (o + 1) _ (h.setCell (p := ⟨b, o, none⟩) hb v)
/-- Reverse at a row of texts that the call owns -/
theorem rev_strs (base e : Nat) (v : Value) (ss : List Bs) (hlen : ss.length ≤ 1000000) (w : World) (h : w.ownsRow base e 1 v ss.length (ss.flatMap strCells)) :
    Calls Tryd.prog 46 #[v] w fun e w' => ∃ A cap, e = .returned (.tuple #[]) ∧ v = .slice A ss.length cap ∧ StrsAt w' w.heap.size A ss.reverse ∧ Below base w w' := by
  rcases h.2 with ⟨rfl, h0⟩ | ⟨g, cap, cur, rfl, hb, hh, hcap, _⟩
  · have : ss = [] := List.length_eq_zero_iff.1 h0
    subst this
    refine (Tryd.slices_Reverse_string_empty none 0 w).mono ?_
    rintro e w' ⟨rfl, rfl⟩
    exact ⟨none, 0, rfl, rfl, fun h => absurd h (by simp), Below.refl _ _⟩
  · have hS : StrsAt w w.heap.size (some ⟨g, 0, none⟩) ss := RowIs.of_reads strCells_len (Reads.of_own h)
    have hlt : g < w.heap.size := (Array.getElem?_eq_some_iff.1 hh).1
    have hc : ∀ i, i < ss.length → w.cell? ⟨g, 0 + i, none⟩ = some (.string (ba (ss.getD i []))) := by
      intro i hi
      rw [hS.at_ i hi, List.getD_eq_getElem?_getD, List.getElem?_eq_getElem hi]; rfl
    have hf : ∀ j, j < ss.length → w.frozen? ⟨g, 0 + j, none⟩ = false := by
      intro j _
      simp [World.frozen?, hh]
    refine (Tryd.slices_Reverse_string_cells g 0 ss.length cap (fun i => ba (ss.getD i [])) w (by omega) hc hf).mono ?_
    rintro e w' ⟨rfl, q, rfl⟩
    have hl : ((Lib.strsOf (fun i => ba (ss.getD i [])) ss.length).reverse.map encStr) = ss.reverse.map fun s => Value.string (ba s) := by
      have e : Lib.strsOf (fun i => ba (ss.getD i [])) ss.length = ss := by
        unfold Lib.strsOf
        apply List.ext_getElem
        · simp
        · intro i h1 h2
          simp only [List.getElem_map, List.getElem_range]
          show tl (ba _) = _
          rw [tl_ba, List.getD_eq_getElem?_getD, List.getElem?_eq_getElem h2]; rfl
      rw [e]; rfl
    rw [hl]
    refine ⟨_, cap, rfl, rfl, ?_, ?_⟩
    · intro h0
      refine ⟨g, 0, rfl, hlt, fun i hi r u hu => ?_⟩
      have hr : r = 0 := by have := (List.getElem?_eq_some_iff.1 hu).1; simp [strCells] at this; omega
      subst hr
      have := World.cell?_setCells_in g (ss.reverse.map fun s => Value.string (ba s)) 0 (w.drewN q) (fun j hj => by
        have := hc j (by simpa using hj)
        show (w.cell? _).isSome = true
        rw [this]; rfl) i (by simpa using hi)
      simp only [List.getElem_map] at this
      simp only [strCells, List.getElem?_cons_zero, Option.some.injEq] at hu
      rw [← hu]
      simpa using this
    · exact below_cells hb _ _ _ (below_drewN (Below.refl _ _) q)

theorem idxFrom_of (x : Bs) : ∀ (l : List Bs) (i : Nat), Lib.idxFromS (l.map ba) (ba x) i = match l.findIdx? (fun y => decide (y = x)) with | some k => ((i + k : Nat) : Int) | none => -1
  | [], i => rfl
  | y :: l, i => by
    rw [List.map_cons, Lib.idxFromS, List.findIdx?_cons]
    by_cases h : y = x
    · subst h; simp
    · have h' : ba y ≠ ba x := fun e => h (ba_inj e)
      simp only [h', if_false, h, decide_false, Bool.false_eq_true]
      rw [idxFrom_of x l (i + 1)]
      cases l.findIdx? (fun y => decide (y = x)) with
      | none => rfl
      | some k =>
        show ((i + 1 + k : Nat) : Int) = ((i + (k + 1) : Nat) : Int)
        congr 1
        omega
theorem idxS_of (l : List Bs) (x : Bs) : Lib.idxOfS (l.map ba) (ba x) = idxS l x := by
  unfold Lib.idxOfS idxS
  rw [idxFrom_of]
  cases l.findIdx? (fun y => decide (y = x)) with
  | none => rfl
  | some k => simp
/-- Index at a row of texts -/
theorem index_strs (A : Option Addr) (c : Nat) (ss : List Bs) (x : Bs) (hlen : ss.length ≤ 1000000) (w : World) (h : StrsAt w w.heap.size A ss) :
    Calls Tryd.prog 47 #[.slice A ss.length c, .string (ba x)] w fun e w' => e = .returned (.int .i64 (idxS ss x)) ∧ w' = w := by
  rcases Nat.eq_zero_or_pos ss.length with h0 | h0
  · have : ss = [] := List.length_eq_zero_iff.1 h0
    subst this
    refine (Tryd.slices_Index_string_empty A c _ w).mono ?_
    rintro e w' ⟨rfl, rfl⟩
    exact ⟨rfl, rfl⟩
  · obtain ⟨b, off, rfl, hb, _⟩ := h h0
    refine (Tryd.slices_Index_string b off ss.length c (ss.map ba) (ba x) w (by simp) (by omega) (fun j hj => ?_)).mono ?_
    · have hj' : j < ss.length := by simpa using hj
      rw [h.at_ j hj', List.getD_eq_getElem?_getD, List.getElem?_map, List.getElem?_eq_getElem hj']; rfl
    · rintro e w' ⟨rfl, rfl⟩
      refine ⟨ret_int ?_, rfl⟩
      rw [List.take_of_length_le (by simp), idxS_of]

theorem binds_any (k : Int) (w : World) :
    Calls Tryd.prog 68 #[.int .i64 k] w fun e w' => e = .returned (.agg #[.int .i64 (bindsN k 0 : Int), .int .i64 (bindsN k 1 : Int), .int .i64 (bindsN k 2 : Int)]) ∧ Below w.heap.size w w' := by
  by_cases h3 : k = 3
  · subst h3
    go_enter Tryd.func68, Tryd.ntmps68
    go_wp2
    exact bodyPost_ret (v := .agg #[.int .i64 (bindsN 3 0 : Int), .int .i64 (bindsN 3 1 : Int), .int .i64 (bindsN 3 2 : Int)]) (by simp [results, Tryd.results68, go_sem, bindsN]) rfl ⟨rfl, (Below.refl _ _).alloc (Nat.le_refl _) _⟩
  by_cases h5 : k = 5
  · subst h5
    go_enter Tryd.func68, Tryd.ntmps68
    go_wp2
    exact bodyPost_ret (v := .agg #[.int .i64 (bindsN 5 0 : Int), .int .i64 (bindsN 5 1 : Int), .int .i64 (bindsN 5 2 : Int)]) (by simp [results, Tryd.results68, go_sem, bindsN]) rfl ⟨rfl, (Below.refl _ _).alloc (Nat.le_refl _) _⟩
  by_cases h6 : k = 6
  · subst h6
    go_enter Tryd.func68, Tryd.ntmps68
    go_wp2
    exact bodyPost_ret (v := .agg #[.int .i64 (bindsN 6 0 : Int), .int .i64 (bindsN 6 1 : Int), .int .i64 (bindsN 6 2 : Int)]) (by simp [results, Tryd.results68, go_sem, bindsN]) rfl ⟨rfl, (Below.refl _ _).alloc (Nat.le_refl _) _⟩
  by_cases h10 : k = 10
  · subst h10
    go_enter Tryd.func68, Tryd.ntmps68
    go_wp2
    exact bodyPost_ret (v := .agg #[.int .i64 (bindsN 10 0 : Int), .int .i64 (bindsN 10 1 : Int), .int .i64 (bindsN 10 2 : Int)]) (by simp [results, Tryd.results68, go_sem, bindsN]) rfl ⟨rfl, (Below.refl _ _).alloc (Nat.le_refl _) _⟩
  have g3 : (k == 3) = false := by simpa using h3
  have g5 : (k == 5) = false := by simpa using h5
  have g6 : (k == 6) = false := by simpa using h6
  have g10 : (k == 10) = false := by simpa using h10
  have e0 : bindsN k 0 = 0 := by simp [bindsN, h3, h6]
  have e1 : bindsN k 1 = 0 := by simp [bindsN, h5, h6, h10]
  have e2 : bindsN k 2 = 0 := by simp [bindsN, h10]
  rw [e0, e1, e2]
  clear h3 h5 h6 h10 e0 e1 e2
  go_enter Tryd.func68, Tryd.ntmps68
  go_wp2
  exact bodyPost_ret (v := .agg #[.int .i64 (0 : Nat), .int .i64 (0 : Nat), .int .i64 (0 : Nat)]) (by simp [results, Tryd.results68, go_sem]) rfl ⟨rfl, (Below.refl _ _).alloc (Nat.le_refl _) _⟩

theorem strs_of_blk {w : World} {g T : Nat} {ss : List Bs} (h : Blk w g T (ss.map fun s => Value.string (ba s)).toArray) (n : Nat) (hn : n ≤ ss.length) : StrsAt w w.heap.size (some ⟨g, 0, none⟩) (ss.take n) := fun _ => by
  refine ⟨g, 0, rfl, h.lt, fun i hi r u hu => ?_⟩
  have hr : r = 0 := by have := (List.getElem?_eq_some_iff.1 hu).1; simp [strCells] at this; omega
  subst hr
  have hi' : i < ss.length := by rw [List.length_take] at hi; omega
  simp only [strCells, List.getElem?_cons_zero, Option.some.injEq, List.getElem_take] at hu
  rw [← hu, show 0 + i * 1 + 0 = i by omega, h.cell]
  simp [List.getElem?_eq_getElem hi']
theorem bindsN_le (k : Int) (c : Nat) : bindsN k c ≤ 2 := by
  unfold bindsN
  repeat' split
  all_goals omega
theorem idx121_0 (a b c : Value) (w : World) : (Instr.index 121 (.agg #[a, b, c]) (.int .i64 0)).run Tryd.prog w = .ok a w := by kernel_rfl
theorem idx121_1 (a b c : Value) (w : World) : (Instr.index 121 (.agg #[a, b, c]) (.int .i64 1)).run Tryd.prog w = .ok b w := by kernel_rfl
theorem idx121_2 (a b c : Value) (w : World) : (Instr.index 121 (.agg #[a, b, c]) (.int .i64 2)).run Tryd.prog w = .ok c w := by kernel_rfl
theorem idx121 (j : Nat) (hj : j ≤ 2) (a b c : Value) (w : World) : (Instr.index 121 (.agg #[a, b, c]) (.int .i64 (j : Int))).run Tryd.prog w = .ok (#[a, b, c].getD j undef) w := by
  match j, hj with
  | 0, _ => exact idx121_0 a b c w
  | 1, _ => exact idx121_1 a b c w
  | 2, _ => exact idx121_2 a b c w
theorem ret_slice {A : Option Addr} {n m c : Nat} (h : n = m) : Ending.returned (.slice A n c) = .returned (.slice A m c) := by rw [h]
theorem bound_any (n : Nd) (child : Nat) (hc : child ≤ 2) (b : Nat) (w : World) (hB : Blk w b 24 (ndArr n)) :
    Calls Tryd.prog 51 #[.pointer (some ⟨b, 0, none⟩), .int .i64 (child : Int)] w fun e w' => ∃ A cap, e = .returned (.slice A (boundB n child).length cap) ∧ StrsAt w' w'.heap.size A (boundB n child) ∧ Below w.heap.size w w' := by
  obtain ⟨c0, c1, c2, c3, c4, c5, c6, c7, c8, c9, hf⟩ := nd10 hB
  have hlt := hB.lt
  by_cases hk : n.kind = 10 ∧ child = 2
  · obtain ⟨hk, rfl⟩ := hk
    have HK := Lib.hid (show bindsN n.kind 2 = 1 by rw [hk]; rfl)
    have HB := Lib.hid (show boundB n 2 = [n.z].take 1 by unfold boundB; rw [if_pos ⟨hk, rfl⟩, HK.out])
    have hk' : (n.kind == 10) = true := by simpa using hk
    have ix := fun a b c w => idx121 2 (by omega) a b c w
    have ix2 := idx121_2
    have hb2 : Below w.heap.size w ((w.alloc (.cells #[.string (ba n.x), .string (ba n.y)] 9)).alloc (.cells #[.string (ba n.z)] 9)).drew := (((Below.refl _ _).alloc (Nat.le_refl _) _).alloc (by simp) _).drew
    have B2 : Blk ((w.alloc (.cells #[.string (ba n.x), .string (ba n.y)] 9)).alloc (.cells #[.string (ba n.z)] 9)).drew (w.heap.size + 1) 9 ([n.z].map fun s => Value.string (ba s)).toArray := (Blk.new1 w _ _ _).drew
    clear hk
    go_enter Tryd.func51, Tryd.ntmps51
    go_wp2_with fail
    go_region
    all_goals
      go_wp2_with (go_at_call 68; refine (binds_any _ _).mono ?_; rintro e w3 ⟨rfl, hb3⟩; rw [HK.out])
      go_ret
      rw [HB.out]
      exact ⟨_, 1, ret_slice (by simp), strs_of_blk (B2.below hb3 B2.lt) 1 (by simp), hb2.trans (hb3.mono hb2.size)⟩
  · have HB := Lib.hid (show boundB n child = [n.x, n.y].take (bindsN n.kind child) by unfold boundB; rw [if_neg hk])
    obtain ⟨m, hm⟩ : ∃ m, bindsN n.kind child = m := ⟨_, rfl⟩
    have hm2 : m ≤ 2 := by rw [← hm]; exact bindsN_le _ _
    rw [hm] at HB
    have HM := Lib.hid hm
    clear hm
    have ix : ∀ w, (Instr.index 121 (.agg #[.int .i64 (bindsN n.kind 0 : Int), .int .i64 (bindsN n.kind 1 : Int), .int .i64 (bindsN n.kind 2 : Int)]) (.int .i64 (child : Int))).run Tryd.prog w = .ok (.int .i64 (m : Int)) w := by
      intro w
      rw [idx121 child hc, ← HM.out]
      match child, hc with
      | 0, _ => rfl
      | 1, _ => rfl
      | 2, _ => rfl
    have hb2 : Below w.heap.size w (w.alloc (.cells #[.string (ba n.x), .string (ba n.y)] 9)).drew := ((Below.refl _ _).alloc (Nat.le_refl _) _).drew
    have B2 : Blk (w.alloc (.cells #[.string (ba n.x), .string (ba n.y)] 9)).drew w.heap.size 9 ([n.x, n.y].map fun s => Value.string (ba s)).toArray := (Blk.new w _ _).drew
    have hk2 : (n.kind == 10) = false ∨ (n.kind == 10) = true ∧ ((child : Int) == 2) = false := by
      by_cases h : n.kind = 10
      · exact .inr ⟨by simpa using h, by simp; omega⟩
      · exact .inl (by simpa using h)
    clear hk
    rcases hk2 with hk2 | ⟨hk2, hk3⟩
    all_goals
      go_enter Tryd.func51, Tryd.ntmps51
      go_wp2_with fail
      go_region
      all_goals
        go_wp2_with (go_at_call 68; refine (binds_any _ _).mono ?_; rintro e w3 ⟨rfl, hb3⟩; skip)
        go_ret
        rw [HB.out]
        exact ⟨_, 2, ret_slice (by simp; omega), strs_of_blk (B2.below hb3 B2.lt) m (by simp; omega), hb2.trans (hb3.mono hb2.size)⟩
end Go.Proofs.YtiflfnnnbgmomaaDoor
