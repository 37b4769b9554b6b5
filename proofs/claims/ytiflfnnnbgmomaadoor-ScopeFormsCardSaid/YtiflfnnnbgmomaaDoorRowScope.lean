/- trammellaw6.ScopeForms: of whatever number that comes in the call returns true, and the number reads as it did: the row, and its tied card. -/
import Derived.Test.YtiflfnnnbgmomaaDoorRowA
import Derived.Test.YtiflfnnnbgmomaaDoorScopeN0
import Derived.Test.YtiflfnnnbgmomaaDoorScopeN1
import Derived.Test.YtiflfnnnbgmomaaDoorScopeN2
import Derived.Test.YtiflfnnnbgmomaaDoorScopeN3
import Derived.Test.YtiflfnnnbgmomaaDoorTie
import Derived.Test.YtiflfnnnbgmomaaDoorCards
namespace Go.Proofs.YtiflfnnnbgmomaaDoor
open Go.ChangeShapes Go.WideShapes Go.RowKit
set_option maxRecDepth 100000

theorem u64_nonneg (n : Int) : 0 ≤ IntKind.u64.wrap n := wrap_u64_nonneg n
theorem mod_cases (m n : Int) (h0 : 0 ≤ m) (hn : 0 < n) (hn2 : n ≤ 1000) : 0 ≤ wrap64 (m.tmod n) ∧ wrap64 (m.tmod n) < n := by
  have h1 := Int.tmod_nonneg n h0
  have h2 := Int.tmod_lt_of_pos m hn
  rw [IntWalk.wrap64_in _ ⟨by omega, by omega⟩]
  exact ⟨h1, h2⟩
theorem scopeForms_any (which : Int) (w : World) (hg : GE w) :
    Calls Tryd.prog 3 #[.int .i64 which] w fun e w' => e = .returned (.bool true) ∧ Below w.heap.size w w' := by
  obtain ⟨h0, h1⟩ := mod_cases (IntKind.u64.wrap which) 12 (u64_nonneg which) (by decide) (by decide)
  generalize hk : wrap64 ((IntKind.u64.wrap which).tmod 12) = k at h0 h1
  have : k = 0 ∨ k = 1 ∨ k = 2 ∨ k = 3 ∨ k = 4 ∨ k = 5 ∨ k = 6 ∨ k = 7 ∨ k = 8 ∨ k = 9 ∨ k = 10 ∨ k = 11 := by omega
  rcases this with rfl | rfl | rfl | rfl | rfl | rfl | rfl | rfl | rfl | rfl | rfl | rfl
  · exact scopeForms_0 which hk w hg
  · exact scopeForms_1 which hk w hg
  · exact scopeForms_2 which hk w hg
  · exact scopeForms_3 which hk w hg
  · exact scopeForms_4 which hk w hg
  · exact scopeForms_5 which hk w hg
  · exact scopeForms_6 which hk w hg
  · exact scopeForms_7 which hk w hg
  · exact scopeForms_8 which hk w hg
  · exact scopeForms_9 which hk w hg
  · exact scopeForms_10 which hk w hg
  · exact scopeForms_11 which hk w hg

theorem scopeForms_lifted (os : Os) (started : os.Started) (H : Type) (enc : TypeId × Value → H) :
    ReturnsInHanded {} Tryd.checked os 3 .any (fun w args => (Rows.scopeFormsSpec.pre enc Tryd.prog Tryd.f3 [] false w args ∧ laidMetH Tryd.prog laidE w) ∧ sizedMet enc Tryd.prog Tryd.f3 (OpenSpec.ofChange Rows.scopeFormsSpec) false w args)
      (Rows.scopeFormsSpec.post enc Tryd.prog Tryd.f3 false true false false) := by
  refine handed_and_shaped (C := Tryd.checked) (X := fun w _ => laidMetH Tryd.prog laidE w) (fun _ _ _ hh h => h.of_heap hh) own_none started (by kernel_rfl) Tryd.func3
    (ChangeSpec.witness_shaped (enc := enc) (C := Tryd.checked) (os := os) (X := fun w _ => laidMetH Tryd.prog laidE w) false (worldE os) #[.int .i64 0] 8 (worldE_os os) (worldE_shaped os _) (by kernel_rfl) (by kernel_rfl) (by kernel_rfl) (worldE_met os _)) ?_
  intro W base args ds gs before hval0 hW _ _ hL hsh _
  have hval : ∀ (j : Nat) t v, Tryd.f3.params[j]? = some t → args[j]? = some v → Value.okWide Tryd.prog W .any base t v := hval0
  have hW' := hW
  obtain ⟨p, q, hA0, hV, rfl, _, _⟩ := hW
  have hA : DataW.TrodAll enc Tryd.prog W 0 (fun _ => true) true Tryd.f3.params.toList args.toList ds p := hA0
  rw [Tryd.params3] at hA hval
  obtain ⟨v0, d0, rfl, rfl, h0⟩ := trodAll_one hA
  obtain ⟨rfl, rfl⟩ := trodVars_none hV
  obtain ⟨x, rfl, rfl, rfl, wx⟩ := open_int Tryd.underlying3 (hval 0 3 v0 rfl rfl) h0
  simp only [List.append_nil] at hW'
  refine (scopeForms_any x W (GE.of_row hL hsh)).mono fun e W' ⟨he, hb⟩ => ?_
  subst he
  exact ⟨_, rfl, _, _, _, [], [], [], hW', trodAll_mk1 (shut_bool Tryd.underlying4 _), trodAll_mk1 (shut_int Tryd.underlying3 wx), rfl, hb.frame _, fun h => by cases h⟩

theorem scopeForms_holds : Rows.ScopeFormsSaid :=
  OpenClaim.holds_of_wide 3 Tryd.f3 rfl rfl rfl rfl rfl rfl rfl ⟨rfl, rfl, rfl, rfl, rfl⟩ rfl rfl rfl rfl rfl (by kernel_rfl) Tryd.func3 (by kernel_rfl)
    (of_decide_eq_true (by kernel_rfl)) (by unfold Func.isWrapper; first | (rw [if_pos (by decide +kernel)]; kernel_rfl) | (rw [if_neg (by decide +kernel)]; exact ⟨rfl, rfl⟩))
    (fun os started H enc _ => scopeForms_lifted os started H enc)
theorem scopeForms_card : Rows.ScopeFormsCardSaid :=
  Claim7.holds_tied_plain_at .later [] [.data, .handle, .pinned] true (true, "a64dec817c562097b49d64b278274537a90b1bc883608b2399acebe242ecc728") true
    scopeForms_holds (fun _ h => by cases h) (by kernel_rfl) (fun _ h => by cases h) scopeForms_row_tie rfl ⟨rfl, rfl⟩ (by kernel_rfl) rfl
    (fun f fn hf hfn => by
      obtain rfl : f = 3 := Option.some.inj ((show Tryd.prog.funcNamed "trammel/trammellaw6.ScopeForms" = some 3 by kernel_rfl).symm.trans hf) |>.symm
      obtain rfl : fn = Tryd.f3 := (Option.some.inj (Tryd.func3.symm.trans hfn)).symm
      exact ⟨by kernel_rfl, fun j t ht => by
        rw [Tryd.params3] at ht
        have h3 : t = 3 := by
          rcases j with _ | j
          · simpa using ht.symm
          · simp at ht
        subst h3
        exact (show Tryd.prog.wantsStandIn 3 = false by kernel_rfl)⟩)
    (by kernel_rfl)
end Go.Proofs.YtiflfnnnbgmomaaDoor
