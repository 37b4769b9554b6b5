/- The walk of scope.Resolve. -/
import Derived.Test.YtiflfnnnbgmomaaDoorScopeI
import Derived.Deep.RegionWith
import Derived.Deep.DrawnRows
namespace Go.Proofs.YtiflfnnnbgmomaaDoor
open Go.RowKit
set_option maxHeartbeats 2000000
set_option maxRecDepth 100000
attribute [local go_sem ↓] Go.wp_at_zero Go.wp_at_succ

theorem OpsAt.lower {w w' : World} {B nb : Nat} {A : Option Addr} {os : List OpD} (h' : OpsAt w' w'.heap.size A os) (h : OpsAt w B A os) (_hb : Below B w w') (hn : B ≤ nb) : OpsAt w' nb A os := fun h0 => by
  obtain ⟨b, off, e, hb, hc⟩ := h h0
  obtain ⟨b', off', e', hb', hc'⟩ := h' h0
  exact ⟨b', off', e', by rw [e] at e'; injection e' with e'; injection e' with e1 e2; omega, hc'⟩
theorem OpsAt.far {w : World} {B : Nat} {A : Option Addr} {os : List OpD} (h : OpsAt w B A os) {p : Addr} (hA : ∀ q, A = some q → q.block ≠ p.block) (u : Value) : OpsAt (w.setCell p u) B A os := fun h0 => by
  obtain ⟨b, off, e, hb, hc⟩ := h h0
  have hne : b ≠ p.block := hA _ e
  have hk : ∀ o, (w.setCell p u).cell? ⟨b, o, none⟩ = w.cell? ⟨b, o, none⟩ := fun o => World.cell?_of_block (a := ⟨b, o, none⟩) (Below.heap_setCell w p u b hne)
  refine ⟨b, off, e, hb, fun i hi => ?_⟩
  have := hc i hi
  unfold Cells3 at this ⊢
  simpa only [hk] using this
theorem NRow.far {w : World} {g : Nat} {ns : List Nd} (h : NRow w g ns) {p : Addr} (hp : g ≠ p.block) (u : Value) : NRow (w.setCell p u) g ns := by
  obtain ⟨cs, hB, hc⟩ := h
  exact ⟨cs, hB.far hp u, hc⟩
theorem NRow.drew {w : World} {g : Nat} {ns : List Nd} (h : NRow w g ns) : NRow w.drew g ns := h
theorem OpsAt.raise {w : World} {B B' : Nat} {A : Option Addr} {os : List OpD} (h : OpsAt w B A os) (hB : B ≤ B') : OpsAt w B' A os := fun h0 => by
  obtain ⟨b, off, e, hb, hc⟩ := h h0
  exact ⟨b, off, e, Nat.lt_of_lt_of_le hb hB, hc⟩
theorem OpsAt.drew {w : World} {B : Nat} {A : Option Addr} {os : List OpD} (h : OpsAt w B A os) : OpsAt w.drew B A os := h
theorem resolve_fin {A A' : Option Addr} {k n m c c' : Nat} (h : n = m) : Ending.returned (.tuple #[.agg #[.slice A k c, .slice A' n c'], .int .i64 0, .int .i64 0]) = .returned (.tuple #[.agg #[.slice A k c, .slice A' m c'], .int .i64 0, .int .i64 0]) := by rw [h]
theorem resKids_err (g : List Nd → Int → List Bs → List Nd × Option (Int × Int)) (hg : ∀ ns a e p n, (g ns a e).2 = some (p, n) → n = 601 ∨ n = 602) (x : Nd) (env : List Bs) : ∀ (l : List Int) (i : Nat) (ns : List Nd) (p n : Int), (resKids g x env i l ns).2 = some (p, n) → n = 601 ∨ n = 602
  | [], _, ns, p, n, h => by cases h
  | k :: r, i, ns, p, n, h => by
    have h1 := hg ns k (env ++ boundB x i) p n
    unfold resKids at h
    cases hr : g ns k (env ++ boundB x i) with
    | mk ns' o =>
      rw [hr] at h h1
      cases o with
      | some e => exact h1 h
      | none => exact resKids_err g hg x env r (i + 1) ns' p n h
theorem resB_err (os : List OpD) : ∀ (f : Nat) (ns : List Nd) (a : Int) (env : List Bs) (p n : Int), (resB os f ns a env).2 = some (p, n) → n = 601 ∨ n = 602
  | 0, ns, _, _, p, n, h => by cases h
  | f + 1, ns, a, env, p, n, h => by
    rw [resB_succ] at h
    generalize resNum os env (ns.getD a.toNat default) = num at h
    generalize ns.set a.toNat _ = ns' at h
    unfold resRest at h
    split at h
    · injection h with h; injection h with _ h; exact .inl h.symm
    · split at h
      · injection h with h; injection h with _ h; exact .inr h.symm
      · exact resKids_err _ (resB_err os f) _ _ _ _ _ p n h
/-- resolver.node at the root of a tree -/
theorem node_start (os : List OpD) (A : Option Addr) (c rb nb cn : Nat) (ns : List Nd) (hol : os.length ≤ maxLen) (hrn : nb < rb) (hfit : Fits ns ns.length ((ns.length : Int) - 1)) (h1 : 1 ≤ ns.length) (h2 : ns.length ≤ 512) (w : World)
    (hR : Blk w rb 54 #[.slice A os.length c, .slice (some ⟨nb, 0, none⟩) ns.length cn]) (hN : NRow w nb ns) (hO : OpsAt w nb A os) :
    Calls Tryd.prog 27 #[.pointer (some ⟨rb, 0, none⟩), .int .i64 ((ns.length : Int) - 1), .slice none 0 0] w (NodePost os ns.length nb ns ((ns.length : Int) - 1) [] w) := by
  have e : ((ns.length : Int) - 1) = ((ns.length - 1 : Nat) : Int) := by omega
  rw [e] at hfit ⊢
  exact node_any os A c rb nb cn hol hrn ns.length ns (ns.length - 1) [] none 0 w hfit (by omega) (by simp; omega) hR hN hO (fun h => absurd h (by simp)) (fun p hp => by cases hp)

def resolvePost (R : Except (Int × Int) Pg) (w : World) (e : Ending) (w' : World) : Prop :=
  match R with
  | .error (a, n) => e = .returned (.tuple #[.agg #[.slice none 0 0, .slice none 0 0], .int .i64 a, .int .i64 n]) ∧ Below w.heap.size w w'
  | .ok q => ∃ A c A' c', e = .returned (.tuple #[pgV q A c A' c', .int .i64 0, .int .i64 0]) ∧ PgAt w' w'.heap.size A A' q ∧ (∀ a, A = some a → w.heap.size ≤ a.block) ∧ (∀ a, A' = some a → w.heap.size ≤ a.block) ∧ Below w.heap.size w w'
theorem PgAt.drew {w : World} {B : Nat} {A A' : Option Addr} {p : Pg} (h : PgAt w B A A' p) : PgAt w.drew B A A' p := ⟨h.ops, h.nodes⟩
theorem resolve_any (p : Pg) (A : Option Addr) (c : Nat) (A' : Option Addr) (c' : Nat) (hok : PgOk p) (w : World) (hg : GE w) (hA : PgAt w w.heap.size A A' p) :
    Calls Tryd.prog 12 #[pgV p A c A' c'] w (resolvePost (resolveB p) w) := by
  have hb1 : Below w.heap.size w ((w.alloc (.cells #[.slice A p.ops.length c, .slice A' p.nodes.length c'] 31)).alloc (.cells #[.slice none 0 0, .slice none 0 0] 31)) := ((Below.refl _ _).alloc (Nat.le_refl _) _).alloc (by simp) _
  have T1 := (Blk.new w 31 #[.slice A p.ops.length c, .slice A' p.nodes.length c']).alloc (.cells #[.slice none 0 0, .slice none 0 0] 31)
  have T2 := Blk.new1 w (.cells #[.slice A p.ops.length c, .slice A' p.nodes.length c'] 31) 31 #[.slice none 0 0, .slice none 0 0]
  have hg1 := hg.below hb1
  have HA1 := Lib.hid (hA.below hb1)
  cases hm : p.may with
  | false =>
    have HM := Lib.hid hm
    have HF := Lib.hid (show resolveB p = .error (0, 600) by unfold resolveB; rw [hm]; rfl)
    clear hm
    rw [HF.out]
    go_enter Tryd.func12, Tryd.ntmps12
    go_wp2_with (go_at_call 22; refine (treeMay_any p A c A' c' hok _ hg1.g HA1.out).mono ?_; rintro e w3 ⟨rfl, hb3⟩; rw [HM.out]
                 have T3 := T2.below hb3 T2.lt
                 obtain ⟨z0, z1, zf⟩ := T3.c2)
    have T4 := (T3.set_ 0 (.slice none 0 0)).set_ 1 (.slice none 0 0)
    obtain ⟨y0, y1, yf⟩ := Blk.c2 (show Blk _ _ _ #[.slice none 0 0, .slice none 0 0] from T4)
    have hb4 := ((hb1.trans (hb3.mono hb1.size)).setCell (p := ⟨w.heap.size + 1, 0, none⟩) (by simp) (.slice none 0 0)).setCell (p := ⟨w.heap.size + 1, 1, none⟩) (by simp) (.slice none 0 0)
    generalize (w3.setCell ⟨w.heap.size + 1, 0, none⟩ (.slice none 0 0)).setCell ⟨w.heap.size + 1, 1, none⟩ (.slice none 0 0) = w4 at *
    exact bodyPost_ret (v := .tuple #[.agg #[.slice none 0 0, .slice none 0 0], .int .i64 0, .int .i64 600]) (by simp [results, Tryd.results12, go_sem, y0, y1]) rfl ⟨rfl, hb4⟩
  | true =>
    have HM := Lib.hid hm
    cases ht : twiceB p.ops with
    | true =>
      have HT := Lib.hid ht
      have HF := Lib.hid (show resolveB p = .error (0, 602) by unfold resolveB; rw [hm, ht]; rfl)
      clear hm ht
      rw [HF.out]
      go_enter Tryd.func12, Tryd.ntmps12
      go_wp2_with (first
        | (go_at_call 22; refine (treeMay_any p A c A' c' hok _ hg1.g HA1.out).mono ?_; rintro e w2 ⟨rfl, hb2⟩; rw [HM.out]
           obtain ⟨u0, u1, uf⟩ := (T1.below hb2 T1.lt).c2
           have HO2 := Lib.hid (HA1.out.below hb2).ops
           have T2' := T2.below hb2 T2.lt
           have hb12 := hb1.trans (hb2.mono hb1.size))
        | (go_at_call 23; refine (twice_any A c p.ops hok.olen _ HO2.out).mono ?_; rintro e w3 ⟨rfl, hb3⟩; rw [HT.out]
           have T3 := T2'.below hb3 T2'.lt
           obtain ⟨z0, z1, zf⟩ := T3.c2))
      have T4 := (T3.set_ 0 (.slice none 0 0)).set_ 1 (.slice none 0 0)
      obtain ⟨y0, y1, yf⟩ := Blk.c2 (show Blk _ _ _ #[.slice none 0 0, .slice none 0 0] from T4)
      have hb4 := ((hb12.trans (hb3.mono hb12.size)).setCell (p := ⟨w.heap.size + 1, 0, none⟩) (by simp) (.slice none 0 0)).setCell (p := ⟨w.heap.size + 1, 1, none⟩) (by simp) (.slice none 0 0)
      generalize (w3.setCell ⟨w.heap.size + 1, 0, none⟩ (.slice none 0 0)).setCell ⟨w.heap.size + 1, 1, none⟩ (.slice none 0 0) = w4 at *
      exact bodyPost_ret (v := .tuple #[.agg #[.slice none 0 0, .slice none 0 0], .int .i64 0, .int .i64 602]) (by simp [results, Tryd.results12, go_sem, y0, y1]) rfl ⟨rfl, hb4⟩
    | false =>
      have HT := Lib.hid ht
      have hmay := hm
      unfold Pg.may at hmay
      simp only [Bool.and_eq_true] at hmay
      obtain ⟨hom, hsh⟩ := hmay
      obtain ⟨hn1, hn2, hfit⟩ := fits_of_shaped _ _ hsh
      have hol : p.ops.length ≤ 4 := by unfold opsMayB at hom; simp only [Bool.and_eq_true, decide_eq_true_eq] at hom; exact hom.1
      have HF := Lib.hid (show resolveB p = (match resB p.ops p.nodes.length p.nodes ((p.nodes.length : Int) - 1) [] with
        | (_, some e) => .error e
        | (ns, none) => .ok ⟨p.ops, ns⟩) by unfold resolveB; rw [hm, ht]; rfl)
      have HFIT := Lib.hid hfit
      have hn0 : 0 < p.nodes.length := by omega
      have hnl : p.nodes.length ≤ 1000000 := by omega
      clear hm ht hom hsh hfit
      go_enter Tryd.func12, Tryd.ntmps12
      go_wp2_with (first
        | (go_at_call 22; refine (treeMay_any p A c A' c' hok _ hg1.g HA1.out).mono ?_; rintro e w2 ⟨rfl, hb2⟩; rw [HM.out]
           have T1a := T1.below hb2 T1.lt
           obtain ⟨u0, u1, uf⟩ := T1a.c2
           have HA2 := Lib.hid (HA1.out.below hb2)
           have HO2 := Lib.hid HA2.out.ops
           have T2a := T2.below hb2 T2.lt
           have hb12 := hb1.trans (hb2.mono hb1.size))
        | (go_at_call 23; refine (twice_any A c p.ops hok.olen _ HO2.out).mono ?_; rintro e w3 ⟨rfl, hb3⟩; rw [HT.out]
           have T1b := T1a.below hb3 T1a.lt
           have T2b := T2a.below hb3 T2a.lt
           obtain ⟨x0, x1, xf⟩ := T1b.c2
           have HA3 := Lib.hid (HA2.out.below hb3)
           have hb13 := hb12.trans (hb3.mono hb12.size)))
      have ht1 : w.heap.size < w3.heap.size := T1b.lt
      have CO := clone_ops A c p.ops (by omega) w3.drew HA3.out.ops
      go_region_with (first
        | (go_at_call 24; refine CO.mono ?_; rintro e w4 ⟨v4, rfl, hown4, hb4⟩
           obtain ⟨A4, cap4, hv4, hr4⟩ := RowIs.of_own opCells_len hown4
           subst hv4
           have T1c := T1b.drew.below hb4 T1b.lt
           obtain ⟨y0, y1, yf⟩ := T1c.c2
           have ht4 : w.heap.size < w4.heap.size := T1c.lt
           have HA4 := Lib.hid (HA3.out.drew.below hb4)
           have hb14 := hb13.drew.trans (hb4.mono hb13.size))
        | (go_at_call 25; refine (clone_nodes A' c' p.nodes hnl w4 HA4.out.nodes).mono ?_; rintro e w5 ⟨v5, rfl, hown5, hb5⟩
           obtain ⟨nb, cap5, hv5, hnb5, hlt5⟩ := hown5.form hn0
           subst hv5))
      all_goals
        have HO4 := Lib.hid (show OpsAt w5 nb A4 p.ops from ((OpsAt.of_row hr4).below hb5).lower (OpsAt.of_row hr4) hb5 hnb5)
        have HN5 := Lib.hid (NRow.of_own rfl hown5)
        have T2c := ((T2b.drew.below hb4 T2b.lt).below hb5 (T2b.drew.below hb4 T2b.lt).lt)
        have hg5 := hg1.below (show Below _ _ w5 from hb2.trans (((hb3.drew).trans (hb4.mono hb3.size)).mono hb2.size |>.trans (hb5.mono (Nat.le_trans hb2.size (Nat.le_trans hb3.size hb4.size)))))
        have hb15 : Below w.heap.size w w5 := hb14.trans (hb5.mono (Nat.le_of_lt ht4))
        have hb5' : Below w5.heap.size w5 (w5.alloc (.cells #[.slice A4 p.ops.length cap4, .slice (some ⟨nb, 0, none⟩) p.nodes.length cap5] 54)) := (Below.refl _ _).alloc (Nat.le_refl _) _
        have HR6 := Lib.hid (Blk.new w5 54 #[.slice A4 p.ops.length cap4, .slice (some ⟨nb, 0, none⟩) p.nodes.length cap5])
        have HN6 := Lib.hid (HN5.out.below hb5' hlt5)
        have HO6 := Lib.hid (show OpsAt (w5.alloc (.cells #[.slice A4 p.ops.length cap4, .slice (some ⟨nb, 0, none⟩) p.nodes.length cap5] 54)) nb A4 p.ops from HO4.out.keep fun q hq => hb5'.cell (by omega))
        have hT2lt : w.heap.size + 1 < w4.heap.size := (T2b.drew.below hb4 T2b.lt).lt
        have hA4 : ∀ q, A4 = some q → q.block ≠ w.heap.size + 1 := fun q hq => by
          have := own_ge hown4 q.block (by rw [hq]; rfl)
          have := T2b.lt
          have e : w3.drew.heap.size = w3.heap.size := rfl
          omega
        have hA4g : ∀ q, A4 = some q → w.heap.size ≤ q.block := fun q hq => by
          have := own_ge hown4 q.block (by rw [hq]; rfl)
          have := T2b.lt
          have e : w3.drew.heap.size = w3.heap.size := rfl
          omega
        have hneN : nb ≠ w.heap.size + 1 := by omega
        have hnbg : w.heap.size ≤ nb := by omega
        have hne : some (w.heap.size + 1) ≠ some nb := by intro h; injection h with h; omega
        have hne5 : some w5.heap.size ≠ some nb := by intro h; injection h with h; omega
        have T2d := T2c.below hb5' T2c.lt
        have hg6 := hg5.below hb5'
        have hb16 := hb15.trans (hb5'.mono hb15.size)
        obtain ⟨⟨ns1, o1⟩, hres⟩ : ∃ r, resB p.ops p.nodes.length p.nodes ((p.nodes.length : Int) - 1) [] = r := ⟨_, rfl⟩
        have HRES := Lib.hid hres
        have hzz : w5.heap.size < (w5.alloc (.cells #[.slice A4 p.ops.length cap4, .slice (some ⟨nb, 0, none⟩) p.nodes.length cap5] 54)).heap.size := by simp
        clear hres hown4 hown5 hb2 hb3 hb4 hb5 T1b T1c T2b T2c y0 y1 yf x0 x1 xf hb12 hb13 hb14 hb1 T1 T2 T1a T2a u0 u1 uf
        cases o1 with
        | none =>
          have HF2 := Lib.hid (show resolveB p = .ok ⟨p.ops, ns1⟩ by rw [HF.out, HRES.out])
          have HLEN := Lib.hid (show ns1.length = p.nodes.length by have h := (resB_same p.ops p.nodes.length p.nodes ((p.nodes.length : Int) - 1) []).1; rw [HRES.out] at h; exact h)
          go_wp2_with (first
            | (go_at_call 27; refine (node_start p.ops A4 cap4 w5.heap.size nb cap5 p.nodes (by unfold maxLen; omega) hlt5 HFIT.out hn1 hn2 _ HR6.out HN6.out HO6.out).mono ?_; rintro e w7 ⟨v7, rfl, he7, hrow7, hg7⟩
               rw [HRES.out] at he7 hrow7
               obtain rfl := he7
               have HN7 := Lib.hid hrow7
               have HR7 := HR6.out.grown hg7 hne5
               have T2e := T2d.grown hg7 hne
               have HO7 := Lib.hid (show OpsAt w7 nb A4 p.ops from HO6.out.keep fun q hq => grown_cell hg7 (by omega) (by intro h; injection h with h; omega))
               have hb17 := hb16.grown hg7 hb16.size (fun k hk => by injection hk with hk; omega)
               clear hrow7)
            | (go_at_call 26; refine (told_nil _).mono ?_; rintro e w8 ⟨rfl, hb8⟩
               have HR8 := HR7.below hb8 HR7.lt
               obtain ⟨r0, r1, _⟩ := HR8.c2
               have T2f := T2e.below hb8 T2e.lt
               obtain ⟨q0, q1, qf⟩ := T2f.c2
               have HN8 := HN7.out.below hb8 HN7.out.lt
               have HO8 : OpsAt w8 nb A4 p.ops := HO7.out.keep fun q hq => hb8.cell (Nat.lt_trans hq HN7.out.lt)
               have hb18 := hb17.trans (hb8.mono hb17.size)))
          go_region
          all_goals
            go_wp2_with fail
            have T4 := (T2f.set_ 0 (.slice A4 p.ops.length cap4)).set_ 1 (.slice (some ⟨nb, 0, none⟩) p.nodes.length cap5)
            obtain ⟨y0, y1, yf⟩ := Blk.c2 (show Blk _ _ _ #[.slice A4 p.ops.length cap4, .slice (some ⟨nb, 0, none⟩) p.nodes.length cap5] from T4)
            have HOF := (HO8.far (p := ⟨w.heap.size + 1, 0, none⟩) hA4 (.slice A4 p.ops.length cap4)).far (p := ⟨w.heap.size + 1, 1, none⟩) hA4 (.slice (some ⟨nb, 0, none⟩) p.nodes.length cap5)
            have HNF := (HN8.far (p := ⟨w.heap.size + 1, 0, none⟩) hneN (.slice A4 p.ops.length cap4)).far (p := ⟨w.heap.size + 1, 1, none⟩) hneN (.slice (some ⟨nb, 0, none⟩) p.nodes.length cap5)
            have hb19 := (hb18.setCell (p := ⟨w.heap.size + 1, 0, none⟩) (by simp) (.slice A4 p.ops.length cap4)).setCell (p := ⟨w.heap.size + 1, 1, none⟩) (by simp) (.slice (some ⟨nb, 0, none⟩) p.nodes.length cap5)
            generalize (w8.setCell ⟨w.heap.size + 1, 0, none⟩ (.slice A4 p.ops.length cap4)).setCell ⟨w.heap.size + 1, 1, none⟩ (.slice (some ⟨nb, 0, none⟩) p.nodes.length cap5) = w9 at *
            have z0 : w9.drew.cell? ⟨w.heap.size + 1, 0, none⟩ = some (.slice A4 p.ops.length cap4) := y0
            have z1 : w9.drew.cell? ⟨w.heap.size + 1, 1, none⟩ = some (.slice (some ⟨nb, 0, none⟩) p.nodes.length cap5) := y1
            refine bodyPost_ret (v := .tuple #[.agg #[.slice A4 p.ops.length cap4, .slice (some ⟨nb, 0, none⟩) p.nodes.length cap5], .int .i64 0, .int .i64 0]) (by simp [results, Tryd.results12, go_sem, y0, y1, z0, z1]) rfl ?_
            show resolvePost (resolveB p) w _ _
            rw [HF2.out]
            refine ⟨A4, cap4, some ⟨nb, 0, none⟩, cap5, resolve_fin HLEN.out.symm, ⟨OpsAt.raise HOF.drew (Nat.le_of_lt HNF.lt), HNF.drew.at_ HNF.lt⟩, hA4g, fun q hq => by injection hq with hq; subst hq; exact hnbg, hb19.drew⟩
        | some e1 =>
          obtain ⟨ep, en⟩ := e1
          have HF2 := Lib.hid (show resolveB p = .error (ep, en) by rw [HF.out, HRES.out])
          have hen2 : (en != 0) = true := by
            have := resB_err p.ops p.nodes.length p.nodes ((p.nodes.length : Int) - 1) [] ep en (by rw [HRES.out])
            rw [bne_iff_ne]; omega
          go_wp2_with (first
            | (go_at_call 27; refine (node_start p.ops A4 cap4 w5.heap.size nb cap5 p.nodes (by unfold maxLen; omega) hlt5 HFIT.out hn1 hn2 _ HR6.out HN6.out HO6.out).mono ?_; rintro e w7 ⟨v7, rfl, he7, hrow7, hg7⟩
               rw [HRES.out] at he7
               obtain ⟨g7, rfl, hnb7, hB7⟩ := he7
               have T2e := T2d.grown hg7 hne
               have hg7' := hg6.g
               have hb17 := hb16.grown hg7 hb16.size (fun k hk => by injection hk with hk; omega)
               have hE7 : w7.cell? ⟨0, 0, none⟩ = some (.iface TRT (.agg #[hd TER])) := (hg.below hb17).et
               clear hrow7)
            | (go_at_call 26; refine (told_fault g7 ep en _ (ErrIs.num _) _ hE7 hB7).mono ?_; rintro e w8 ⟨rfl, hb8⟩
               have T2f := T2e.below hb8 T2e.lt
               obtain ⟨q0, q1, qf⟩ := T2f.c2
               have hb18 := hb17.trans (hb8.mono hb17.size)))
          have T4 := (T2f.set_ 0 (.slice none 0 0)).set_ 1 (.slice none 0 0)
          obtain ⟨y0, y1, yf⟩ := Blk.c2 (show Blk _ _ _ #[.slice none 0 0, .slice none 0 0] from T4)
          have hb19 := (hb18.setCell (p := ⟨w.heap.size + 1, 0, none⟩) (by simp) (.slice none 0 0)).setCell (p := ⟨w.heap.size + 1, 1, none⟩) (by simp) (.slice none 0 0)
          generalize (w8.setCell ⟨w.heap.size + 1, 0, none⟩ (.slice none 0 0)).setCell ⟨w.heap.size + 1, 1, none⟩ (.slice none 0 0) = w9 at *
          refine bodyPost_ret (v := .tuple #[.agg #[.slice none 0 0, .slice none 0 0], .int .i64 ep, .int .i64 en]) (by simp [results, Tryd.results12, go_sem, y0, y1]) rfl ?_
          show resolvePost (resolveB p) w _ _
          rw [HF2.out]
          exact ⟨rfl, hb19⟩
end Go.Proofs.YtiflfnnnbgmomaaDoor
