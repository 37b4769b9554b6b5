/- Rows of nodes that are written; which nodes' children stand as they must. -/
import Derived.Test.YtiflfnnnbgmomaaDoorScopeE
namespace Go.Proofs.YtiflfnnnbgmomaaDoor
open Go.RowKit
set_option maxRecDepth 100000

/-- a row of nodes of the call's own, at the head of a block -/
def NRow (w : World) (g : Nat) (ns : List Nd) : Prop := ∃ cs, Blk w g 24 cs ∧ ∀ i (h : i < ns.length) r u, (ndCells ns[i])[r]? = some u → cs[i * 10 + r]? = some u
theorem NRow.lt {w : World} {g : Nat} {ns : List Nd} (h : NRow w g ns) : g < w.heap.size := by obtain ⟨cs, hB, _⟩ := h; exact hB.lt
theorem NRow.frozen {w : World} {g : Nat} {ns : List Nd} (h : NRow w g ns) (i : Nat) : w.frozen? ⟨g, i, none⟩ = false := by obtain ⟨cs, hB, _⟩ := h; exact hB.frozen i
theorem NRow.cell {w : World} {g : Nat} {ns : List Nd} (h : NRow w g ns) (i : Nat) (hi : i < ns.length) (r : Nat) (u : Value) (hu : (ndCells ns[i])[r]? = some u) : w.cell? ⟨g, i * 10 + r, none⟩ = some u := by
  obtain ⟨cs, hB, hc⟩ := h
  rw [hB.cell]; exact hc i hi r u hu
theorem NRow.below {w w' : World} {g B : Nat} {ns : List Nd} (h : NRow w g ns) (hb : Below B w w') (hg : g < B) : NRow w' g ns := by
  obtain ⟨cs, hB, hc⟩ := h
  exact ⟨cs, hB.below hb hg, hc⟩
theorem NRow.at_ {w : World} {g B : Nat} {ns : List Nd} (h : NRow w g ns) (hg : g < B) : NodesAt w B (some ⟨g, 0, none⟩) ns :=
  NodesAt.of_row fun _ => ⟨g, 0, rfl, hg, fun i hi r u hu => by rw [Nat.zero_add]; exact h.cell i hi r u hu⟩
theorem NRow.of_own {w : World} {base g cap n : Nat} {ns : List Nd} (hn : n = ns.length) (h : w.ownsRow base 24 10 (.slice (some ⟨g, 0, none⟩) n cap) n (ns.flatMap ndCells)) : NRow w g ns := by
  rcases h.2 with ⟨h, _⟩ | ⟨g', cap', cur, e, hb, hh, hcap, _, hsz, htk⟩
  · cases h
  · injection e with e1 e2 e3
    injection e1 with e1
    injection e1 with e1
    subst e1
    refine ⟨cur, hh, fun i hi r u hu => ?_⟩
    have hr : r < 10 := (List.getElem?_eq_some_iff.1 hu).1
    have h1 := flat_at ndCells 10 ndCells_len ns i r hr
    rw [List.getElem?_eq_getElem hi, Option.bind_some, hu, ← htk, List.getElem?_take] at h1
    split at h1
    · rw [← Array.getElem?_toList]; exact h1
    · cases h1
theorem NRow.set {w : World} {g : Nat} {ns : List Nd} (h : NRow w g ns) (i : Nat) (hi : i < ns.length) (r : Nat) (hr : r < 10) (u : Value) (x : Nd) (hx : ndCells x = (ndCells ns[i]).set r u) : NRow (w.setCell ⟨g, i * 10 + r, none⟩ u) g (ns.set i x) := by
  obtain ⟨cs, hB, hc⟩ := h
  refine ⟨_, hB.set_ _ _, fun j hj s v hv => ?_⟩
  have hj' : j < ns.length := by simpa using hj
  have hs : s < 10 := (List.getElem?_eq_some_iff.1 hv).1
  rw [Array.getElem?_setIfInBounds]
  by_cases hji : j = i
  · subst hji
    rw [List.getElem_set_self, hx] at hv
    by_cases hsr : s = r
    · subst hsr
      rw [List.getElem?_set_self (by rw [ndCells_len]; exact hs)] at hv
      have hlen : j * 10 + s < cs.size := by
        have hu : (ndCells ns[j])[s]? = some ((ndCells ns[j])[s]'(by rw [ndCells_len]; exact hs)) := List.getElem?_eq_getElem _
        exact (Array.getElem?_eq_some_iff.1 (hc j hi s _ hu)).1
      rw [if_pos rfl, if_pos hlen]; exact hv
    · rw [List.getElem?_set_ne (Ne.symm hsr)] at hv
      rw [if_neg (by omega)]
      exact hc j hi s v hv
  · rw [List.getElem_set_ne (Ne.symm hji)] at hv
    rw [if_neg (by omega)]
    exact hc j hj' s v hv

/-- has the part of a node, so many levels deep, children that stand in the list? -/
def Fits (ns : List Nd) : Nat → Int → Prop
  | 0, _ => False
  | f + 1, a => 0 ≤ a ∧ a < ns.length ∧ ∀ k ∈ (ns.getD a.toNat default).kids, Fits ns f k
theorem kids_of_begin (g : Int → Int) (hg : ∀ x, 0 ≤ x → g x ≤ x) : ∀ (l : List Int) (a : Int), 0 ≤ beginKids g l a → ∀ k ∈ l, 0 ≤ k ∧ k < a ∧ 0 ≤ g k
  | [], a, h => by simp
  | k :: r, a, h => by
    rw [beginKids] at h
    by_cases h1 : a - 1 < 0 ∨ k ≠ a - 1
    · rw [if_pos h1] at h; omega
    · rw [if_neg h1] at h
      have hk : k = a - 1 := by omega
      by_cases h2 : g (a - 1) < 0
      · rw [if_pos h2] at h; omega
      · rw [if_neg h2] at h
        intro q hq
        rcases List.mem_cons.1 hq with rfl | hq
        · exact ⟨by omega, by omega, by rw [hk]; omega⟩
        · have := kids_of_begin g hg r _ h q hq
          have := hg (a - 1) (by omega)
          exact ⟨by omega, by omega, by omega⟩
theorem fits_of_begin (ns : List Nd) : ∀ (f : Nat) (a : Int), 0 ≤ a → a < ns.length → 0 ≤ beginB ns f a → Fits ns f a
  | 0, a, _, _, h => by unfold beginB at h; omega
  | f + 1, a, h0, h1, h => by
    unfold beginB at h
    refine ⟨h0, h1, fun k hk => ?_⟩
    obtain ⟨k0, k1, k2⟩ := kids_of_begin _ (beginB_le ns f) _ _ h k (List.mem_reverse.2 hk)
    exact fits_of_begin ns f k k0 (by omega) k2
theorem fits_of_shaped (ns : List Nd) (named : Bool) (h : shapedB ns named = true) : 1 ≤ ns.length ∧ ns.length ≤ 512 ∧ Fits ns ns.length ((ns.length : Int) - 1) := by
  unfold shapedB at h
  simp only [Bool.and_eq_true, Bool.not_eq_true', Bool.or_eq_false_iff, decide_eq_false_iff_not, decide_eq_true_eq] at h
  obtain ⟨⟨⟨h1, h2⟩, _⟩, h3⟩ := h
  exact ⟨by omega, by omega, fits_of_begin ns _ _ (by omega) (by omega) (by omega)⟩
/-- the same children everywhere -/
def SameKids (ns ns' : List Nd) : Prop := ns'.length = ns.length ∧ ∀ i, (ns'.getD i default).kids = (ns.getD i default).kids
theorem SameKids.refl (ns : List Nd) : SameKids ns ns := ⟨rfl, fun _ => rfl⟩
theorem SameKids.trans {a b c : List Nd} (h : SameKids a b) (h' : SameKids b c) : SameKids a c := ⟨h'.1.trans h.1, fun i => (h'.2 i).trans (h.2 i)⟩
theorem SameKids.fits {ns ns' : List Nd} (h : SameKids ns ns') : ∀ (f : Nat) (a : Int), Fits ns f a → Fits ns' f a
  | 0, _, hf => hf.elim
  | f + 1, a, ⟨h0, h1, h2⟩ => ⟨h0, by rw [h.1]; exact h1, fun k hk => h.fits f k (h2 k (by rw [← h.2]; exact hk))⟩
theorem SameKids.set (ns : List Nd) (i : Nat) (x : Nd) (hx : x.kids = (ns.getD i default).kids) : SameKids ns (ns.set i x) := by
  refine ⟨by simp, fun j => ?_⟩
  rw [List.getD_eq_getElem?_getD, List.getElem?_set]
  by_cases hj : i = j
  · subst hj
    by_cases hl : i < ns.length
    · simp [hl, hx]
    · simp [hl, List.getD_eq_getElem?_getD]
  · simp [hj, List.getD_eq_getElem?_getD]
theorem resKids_same (g : List Nd → Int → List Bs → List Nd × Option (Int × Int)) (hg : ∀ ns a e, SameKids ns (g ns a e).1) (x : Nd) (env : List Bs) : ∀ (l : List Int) (i : Nat) (ns : List Nd), SameKids ns (resKids g x env i l ns).1
  | [], _, ns => SameKids.refl _
  | k :: r, i, ns => by
    have h1 := hg ns k (env ++ boundB x i)
    unfold resKids
    cases hr : g ns k (env ++ boundB x i) with
    | mk ns' o =>
      rw [hr] at h1
      cases o with
      | some e => exact h1
      | none => exact h1.trans (resKids_same g hg x env r (i + 1) ns')
/-- the number that a node gets -/
def resNum (os : List OpD) (env : List Bs) (x : Nd) : Int := if x.kind = 0 then idxS env.reverse x.name else if x.kind = 9 ∨ x.kind = 10 then idxO os x.name else x.num
/-- what is left of a node's part, its number found -/
def resRest (os : List OpD) (f : Nat) (env : List Bs) (x : Nd) (num : Int) (ns' : List Nd) : List Nd × Option (Int × Int) :=
  if x.kind = 0 ∧ num < 0 then (ns', some (x.pos, 601))
  else if (x.kind = 9 ∨ x.kind = 10) ∧ num < 0 then (ns', some (x.pos, 602))
  else resKids (resB os f) x env 0 x.kids ns'
theorem resB_succ (os : List OpD) (f : Nat) (ns : List Nd) (a : Int) (env : List Bs) : resB os (f + 1) ns a env =
    resRest os f env (ns.getD a.toNat default) (resNum os env (ns.getD a.toNat default)) (ns.set a.toNat { (ns.getD a.toNat default).bald with num := resNum os env (ns.getD a.toNat default) }) := rfl
theorem resB_same (os : List OpD) : ∀ (f : Nat) (ns : List Nd) (a : Int) (env : List Bs), SameKids ns (resB os f ns a env).1
  | 0, ns, _, _ => SameKids.refl _
  | f + 1, ns, a, env => by
    rw [resB_succ]
    refine (SameKids.set ns a.toNat { (ns.getD a.toNat default).bald with num := resNum os env (ns.getD a.toNat default) } rfl).trans ?_
    generalize resNum os env (ns.getD a.toNat default) = num
    generalize ns.set a.toNat _ = ns'
    unfold resRest
    split
    · exact SameKids.refl _
    · split
      · exact SameKids.refl _
      · exact resKids_same _ (resB_same os f) _ _ _ _ _
theorem boundB_len (n : Nd) (c : Nat) : (boundB n c).length ≤ 2 := by
  unfold boundB
  rw [List.length_take]
  have := bindsN_le n.kind c
  omega
end Go.Proofs.YtiflfnnnbgmomaaDoor
