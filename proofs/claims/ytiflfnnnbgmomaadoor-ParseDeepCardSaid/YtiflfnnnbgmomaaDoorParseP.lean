/- The walks of package parse: Prims, prim. -/
import Derived.Test.YtiflfnnnbgmomaaDoorParseF
namespace Go.Proofs.YtiflfnnnbgmomaaDoor
set_option linter.unusedVariables false
set_option linter.unusedSimpArgs false
open Go.RowKit
set_option maxHeartbeats 2000000
set_option maxRecDepth 100000

/-- the library's variable that strings.Contains, strings.Split read -/
abbrev ML (m : Int) (w : World) : Prop := w.cell? ⟨1, 0, none⟩ = some (.int .i64 m)
def primsText : Bs := [43, 32, 45, 32, 42, 32, 47, 32, 61, 61, 32, 60]
def primsBA : List ByteArray := primsL.map ba
theorem prims_count : Lib.countB (ba primsText) ⟨#[32]⟩ = 5 := by decide +kernel
theorem prims_split : Lib.splitB ⟨#[32]⟩ 0 5 (ba primsText) = primsBA := by decide +kernel
theorem prims_any (m : Int) (w : World) (hm : ML m w) :
    Calls Tryd.prog 81 #[] w fun e w' => e = .returned (.slice (some ⟨w.heap.size, 0, none⟩) 6 6) ∧ w' = w.alloc (.cells #[.string { data := #[43] }, .string { data := #[45] }, .string { data := #[42] }, .string { data := #[47] }, .string { data := #[61, 61] }, .string { data := #[60] }] 9) := by
  have key : Calls Tryd.prog 102 #[.string (ba primsText), .string ⟨#[32]⟩] w fun e w' => e = .returned (.slice (some ⟨w.heap.size, 0, none⟩) 6 6) ∧ w' = w.alloc (.cells (primsBA.map Value.string).toArray 9) := by
    refine (Tryd.strings_Split _ _ m w (by rw [ba_size]; decide +kernel) hm (by decide)).mono ?_
    rintro e w' ⟨rfl, rfl⟩
    rw [prims_count, prims_split]
    exact ⟨rfl, rfl⟩
  go_enter Tryd.func81, Tryd.ntmps81
  go_wp2_with fail
  refine key.mono ?_
  rintro e w' ⟨rfl, rfl⟩
  go_wp2_with fail
  go_ret
  exact ⟨rfl, rfl⟩
theorem levels_any (w : World) :
    Calls Tryd.prog 108 #[] w fun e w' => e = .returned (.slice (some ⟨w.heap.size, 0, none⟩) 3 3) ∧ w' = w.alloc (.cells #[.string { data := #[61, 61, 32, 60] }, .string { data := #[43, 32, 45] }, .string { data := #[42, 32, 47] }] 9) := by
  go_enter Tryd.func108, Tryd.ntmps108
  go_wp2
  go_ret
  exact ⟨rfl, rfl⟩
theorem ML.below {m : Int} {w w' : World} (h : ML m w) (hg : 1 < w.heap.size) (hb : Below w.heap.size w w') : ML m w' := (hb.cell (p := ⟨1, 0, none⟩) hg).trans h
theorem PAt.below {w w' : World} {pb : Nat} {p : PS} {deep : Int} {L : Nat → Prop} (h : PAt w pb p deep L) (hb : Below w.heap.size w w') : PAt w' pb p deep L := by
  obtain ⟨A, cap, ov, nv, ev, hB, hR⟩ := h
  exact ⟨A, cap, ov, nv, ev, hB.below hb hR.lt, hR.keep (only_of_below hb _)⟩
theorem cont_0_0 (m : Int) (w : World) (hm : ML m w) : Calls Tryd.prog 121 #[.string ({ data := #[32] } ++ { data := #[61, 61, 32, 60] } ++ { data := #[32] }), .string ({ data := #[32] } ++ { data := #[43] } ++ { data := #[32] })] w fun e w' => e = .returned (.bool false) ∧ w' = w := by
  have h := Tryd.strings_Contains ({ data := #[32] } ++ { data := #[61, 61, 32, 60] } ++ { data := #[32] }) ({ data := #[32] } ++ { data := #[43] } ++ { data := #[32] }) m w (by decide +kernel) hm
  rwa [show Lib.contains (({ data := #[32] } ++ { data := #[61, 61, 32, 60] } ++ { data := #[32] }) : ByteArray).data.toList (({ data := #[32] } ++ { data := #[43] } ++ { data := #[32] }) : ByteArray).data.toList = false by decide +kernel] at h
theorem cont_0_1 (m : Int) (w : World) (hm : ML m w) : Calls Tryd.prog 121 #[.string ({ data := #[32] } ++ { data := #[61, 61, 32, 60] } ++ { data := #[32] }), .string ({ data := #[32] } ++ { data := #[45] } ++ { data := #[32] })] w fun e w' => e = .returned (.bool false) ∧ w' = w := by
  have h := Tryd.strings_Contains ({ data := #[32] } ++ { data := #[61, 61, 32, 60] } ++ { data := #[32] }) ({ data := #[32] } ++ { data := #[45] } ++ { data := #[32] }) m w (by decide +kernel) hm
  rwa [show Lib.contains (({ data := #[32] } ++ { data := #[61, 61, 32, 60] } ++ { data := #[32] }) : ByteArray).data.toList (({ data := #[32] } ++ { data := #[45] } ++ { data := #[32] }) : ByteArray).data.toList = false by decide +kernel] at h
theorem cont_0_2 (m : Int) (w : World) (hm : ML m w) : Calls Tryd.prog 121 #[.string ({ data := #[32] } ++ { data := #[61, 61, 32, 60] } ++ { data := #[32] }), .string ({ data := #[32] } ++ { data := #[42] } ++ { data := #[32] })] w fun e w' => e = .returned (.bool false) ∧ w' = w := by
  have h := Tryd.strings_Contains ({ data := #[32] } ++ { data := #[61, 61, 32, 60] } ++ { data := #[32] }) ({ data := #[32] } ++ { data := #[42] } ++ { data := #[32] }) m w (by decide +kernel) hm
  rwa [show Lib.contains (({ data := #[32] } ++ { data := #[61, 61, 32, 60] } ++ { data := #[32] }) : ByteArray).data.toList (({ data := #[32] } ++ { data := #[42] } ++ { data := #[32] }) : ByteArray).data.toList = false by decide +kernel] at h
theorem cont_0_3 (m : Int) (w : World) (hm : ML m w) : Calls Tryd.prog 121 #[.string ({ data := #[32] } ++ { data := #[61, 61, 32, 60] } ++ { data := #[32] }), .string ({ data := #[32] } ++ { data := #[47] } ++ { data := #[32] })] w fun e w' => e = .returned (.bool false) ∧ w' = w := by
  have h := Tryd.strings_Contains ({ data := #[32] } ++ { data := #[61, 61, 32, 60] } ++ { data := #[32] }) ({ data := #[32] } ++ { data := #[47] } ++ { data := #[32] }) m w (by decide +kernel) hm
  rwa [show Lib.contains (({ data := #[32] } ++ { data := #[61, 61, 32, 60] } ++ { data := #[32] }) : ByteArray).data.toList (({ data := #[32] } ++ { data := #[47] } ++ { data := #[32] }) : ByteArray).data.toList = false by decide +kernel] at h
theorem cont_0_4 (m : Int) (w : World) (hm : ML m w) : Calls Tryd.prog 121 #[.string ({ data := #[32] } ++ { data := #[61, 61, 32, 60] } ++ { data := #[32] }), .string ({ data := #[32] } ++ { data := #[61, 61] } ++ { data := #[32] })] w fun e w' => e = .returned (.bool true) ∧ w' = w := by
  have h := Tryd.strings_Contains ({ data := #[32] } ++ { data := #[61, 61, 32, 60] } ++ { data := #[32] }) ({ data := #[32] } ++ { data := #[61, 61] } ++ { data := #[32] }) m w (by decide +kernel) hm
  rwa [show Lib.contains (({ data := #[32] } ++ { data := #[61, 61, 32, 60] } ++ { data := #[32] }) : ByteArray).data.toList (({ data := #[32] } ++ { data := #[61, 61] } ++ { data := #[32] }) : ByteArray).data.toList = true by decide +kernel] at h
theorem cont_0_5 (m : Int) (w : World) (hm : ML m w) : Calls Tryd.prog 121 #[.string ({ data := #[32] } ++ { data := #[61, 61, 32, 60] } ++ { data := #[32] }), .string ({ data := #[32] } ++ { data := #[60] } ++ { data := #[32] })] w fun e w' => e = .returned (.bool true) ∧ w' = w := by
  have h := Tryd.strings_Contains ({ data := #[32] } ++ { data := #[61, 61, 32, 60] } ++ { data := #[32] }) ({ data := #[32] } ++ { data := #[60] } ++ { data := #[32] }) m w (by decide +kernel) hm
  rwa [show Lib.contains (({ data := #[32] } ++ { data := #[61, 61, 32, 60] } ++ { data := #[32] }) : ByteArray).data.toList (({ data := #[32] } ++ { data := #[60] } ++ { data := #[32] }) : ByteArray).data.toList = true by decide +kernel] at h
theorem cont_1_0 (m : Int) (w : World) (hm : ML m w) : Calls Tryd.prog 121 #[.string ({ data := #[32] } ++ { data := #[43, 32, 45] } ++ { data := #[32] }), .string ({ data := #[32] } ++ { data := #[43] } ++ { data := #[32] })] w fun e w' => e = .returned (.bool true) ∧ w' = w := by
  have h := Tryd.strings_Contains ({ data := #[32] } ++ { data := #[43, 32, 45] } ++ { data := #[32] }) ({ data := #[32] } ++ { data := #[43] } ++ { data := #[32] }) m w (by decide +kernel) hm
  rwa [show Lib.contains (({ data := #[32] } ++ { data := #[43, 32, 45] } ++ { data := #[32] }) : ByteArray).data.toList (({ data := #[32] } ++ { data := #[43] } ++ { data := #[32] }) : ByteArray).data.toList = true by decide +kernel] at h
theorem cont_1_1 (m : Int) (w : World) (hm : ML m w) : Calls Tryd.prog 121 #[.string ({ data := #[32] } ++ { data := #[43, 32, 45] } ++ { data := #[32] }), .string ({ data := #[32] } ++ { data := #[45] } ++ { data := #[32] })] w fun e w' => e = .returned (.bool true) ∧ w' = w := by
  have h := Tryd.strings_Contains ({ data := #[32] } ++ { data := #[43, 32, 45] } ++ { data := #[32] }) ({ data := #[32] } ++ { data := #[45] } ++ { data := #[32] }) m w (by decide +kernel) hm
  rwa [show Lib.contains (({ data := #[32] } ++ { data := #[43, 32, 45] } ++ { data := #[32] }) : ByteArray).data.toList (({ data := #[32] } ++ { data := #[45] } ++ { data := #[32] }) : ByteArray).data.toList = true by decide +kernel] at h
theorem cont_1_2 (m : Int) (w : World) (hm : ML m w) : Calls Tryd.prog 121 #[.string ({ data := #[32] } ++ { data := #[43, 32, 45] } ++ { data := #[32] }), .string ({ data := #[32] } ++ { data := #[42] } ++ { data := #[32] })] w fun e w' => e = .returned (.bool false) ∧ w' = w := by
  have h := Tryd.strings_Contains ({ data := #[32] } ++ { data := #[43, 32, 45] } ++ { data := #[32] }) ({ data := #[32] } ++ { data := #[42] } ++ { data := #[32] }) m w (by decide +kernel) hm
  rwa [show Lib.contains (({ data := #[32] } ++ { data := #[43, 32, 45] } ++ { data := #[32] }) : ByteArray).data.toList (({ data := #[32] } ++ { data := #[42] } ++ { data := #[32] }) : ByteArray).data.toList = false by decide +kernel] at h
theorem cont_1_3 (m : Int) (w : World) (hm : ML m w) : Calls Tryd.prog 121 #[.string ({ data := #[32] } ++ { data := #[43, 32, 45] } ++ { data := #[32] }), .string ({ data := #[32] } ++ { data := #[47] } ++ { data := #[32] })] w fun e w' => e = .returned (.bool false) ∧ w' = w := by
  have h := Tryd.strings_Contains ({ data := #[32] } ++ { data := #[43, 32, 45] } ++ { data := #[32] }) ({ data := #[32] } ++ { data := #[47] } ++ { data := #[32] }) m w (by decide +kernel) hm
  rwa [show Lib.contains (({ data := #[32] } ++ { data := #[43, 32, 45] } ++ { data := #[32] }) : ByteArray).data.toList (({ data := #[32] } ++ { data := #[47] } ++ { data := #[32] }) : ByteArray).data.toList = false by decide +kernel] at h
theorem cont_1_4 (m : Int) (w : World) (hm : ML m w) : Calls Tryd.prog 121 #[.string ({ data := #[32] } ++ { data := #[43, 32, 45] } ++ { data := #[32] }), .string ({ data := #[32] } ++ { data := #[61, 61] } ++ { data := #[32] })] w fun e w' => e = .returned (.bool false) ∧ w' = w := by
  have h := Tryd.strings_Contains ({ data := #[32] } ++ { data := #[43, 32, 45] } ++ { data := #[32] }) ({ data := #[32] } ++ { data := #[61, 61] } ++ { data := #[32] }) m w (by decide +kernel) hm
  rwa [show Lib.contains (({ data := #[32] } ++ { data := #[43, 32, 45] } ++ { data := #[32] }) : ByteArray).data.toList (({ data := #[32] } ++ { data := #[61, 61] } ++ { data := #[32] }) : ByteArray).data.toList = false by decide +kernel] at h
theorem cont_1_5 (m : Int) (w : World) (hm : ML m w) : Calls Tryd.prog 121 #[.string ({ data := #[32] } ++ { data := #[43, 32, 45] } ++ { data := #[32] }), .string ({ data := #[32] } ++ { data := #[60] } ++ { data := #[32] })] w fun e w' => e = .returned (.bool false) ∧ w' = w := by
  have h := Tryd.strings_Contains ({ data := #[32] } ++ { data := #[43, 32, 45] } ++ { data := #[32] }) ({ data := #[32] } ++ { data := #[60] } ++ { data := #[32] }) m w (by decide +kernel) hm
  rwa [show Lib.contains (({ data := #[32] } ++ { data := #[43, 32, 45] } ++ { data := #[32] }) : ByteArray).data.toList (({ data := #[32] } ++ { data := #[60] } ++ { data := #[32] }) : ByteArray).data.toList = false by decide +kernel] at h
theorem cont_2_0 (m : Int) (w : World) (hm : ML m w) : Calls Tryd.prog 121 #[.string ({ data := #[32] } ++ { data := #[42, 32, 47] } ++ { data := #[32] }), .string ({ data := #[32] } ++ { data := #[43] } ++ { data := #[32] })] w fun e w' => e = .returned (.bool false) ∧ w' = w := by
  have h := Tryd.strings_Contains ({ data := #[32] } ++ { data := #[42, 32, 47] } ++ { data := #[32] }) ({ data := #[32] } ++ { data := #[43] } ++ { data := #[32] }) m w (by decide +kernel) hm
  rwa [show Lib.contains (({ data := #[32] } ++ { data := #[42, 32, 47] } ++ { data := #[32] }) : ByteArray).data.toList (({ data := #[32] } ++ { data := #[43] } ++ { data := #[32] }) : ByteArray).data.toList = false by decide +kernel] at h
theorem cont_2_1 (m : Int) (w : World) (hm : ML m w) : Calls Tryd.prog 121 #[.string ({ data := #[32] } ++ { data := #[42, 32, 47] } ++ { data := #[32] }), .string ({ data := #[32] } ++ { data := #[45] } ++ { data := #[32] })] w fun e w' => e = .returned (.bool false) ∧ w' = w := by
  have h := Tryd.strings_Contains ({ data := #[32] } ++ { data := #[42, 32, 47] } ++ { data := #[32] }) ({ data := #[32] } ++ { data := #[45] } ++ { data := #[32] }) m w (by decide +kernel) hm
  rwa [show Lib.contains (({ data := #[32] } ++ { data := #[42, 32, 47] } ++ { data := #[32] }) : ByteArray).data.toList (({ data := #[32] } ++ { data := #[45] } ++ { data := #[32] }) : ByteArray).data.toList = false by decide +kernel] at h
theorem cont_2_2 (m : Int) (w : World) (hm : ML m w) : Calls Tryd.prog 121 #[.string ({ data := #[32] } ++ { data := #[42, 32, 47] } ++ { data := #[32] }), .string ({ data := #[32] } ++ { data := #[42] } ++ { data := #[32] })] w fun e w' => e = .returned (.bool true) ∧ w' = w := by
  have h := Tryd.strings_Contains ({ data := #[32] } ++ { data := #[42, 32, 47] } ++ { data := #[32] }) ({ data := #[32] } ++ { data := #[42] } ++ { data := #[32] }) m w (by decide +kernel) hm
  rwa [show Lib.contains (({ data := #[32] } ++ { data := #[42, 32, 47] } ++ { data := #[32] }) : ByteArray).data.toList (({ data := #[32] } ++ { data := #[42] } ++ { data := #[32] }) : ByteArray).data.toList = true by decide +kernel] at h
theorem cont_2_3 (m : Int) (w : World) (hm : ML m w) : Calls Tryd.prog 121 #[.string ({ data := #[32] } ++ { data := #[42, 32, 47] } ++ { data := #[32] }), .string ({ data := #[32] } ++ { data := #[47] } ++ { data := #[32] })] w fun e w' => e = .returned (.bool true) ∧ w' = w := by
  have h := Tryd.strings_Contains ({ data := #[32] } ++ { data := #[42, 32, 47] } ++ { data := #[32] }) ({ data := #[32] } ++ { data := #[47] } ++ { data := #[32] }) m w (by decide +kernel) hm
  rwa [show Lib.contains (({ data := #[32] } ++ { data := #[42, 32, 47] } ++ { data := #[32] }) : ByteArray).data.toList (({ data := #[32] } ++ { data := #[47] } ++ { data := #[32] }) : ByteArray).data.toList = true by decide +kernel] at h
theorem cont_2_4 (m : Int) (w : World) (hm : ML m w) : Calls Tryd.prog 121 #[.string ({ data := #[32] } ++ { data := #[42, 32, 47] } ++ { data := #[32] }), .string ({ data := #[32] } ++ { data := #[61, 61] } ++ { data := #[32] })] w fun e w' => e = .returned (.bool false) ∧ w' = w := by
  have h := Tryd.strings_Contains ({ data := #[32] } ++ { data := #[42, 32, 47] } ++ { data := #[32] }) ({ data := #[32] } ++ { data := #[61, 61] } ++ { data := #[32] }) m w (by decide +kernel) hm
  rwa [show Lib.contains (({ data := #[32] } ++ { data := #[42, 32, 47] } ++ { data := #[32] }) : ByteArray).data.toList (({ data := #[32] } ++ { data := #[61, 61] } ++ { data := #[32] }) : ByteArray).data.toList = false by decide +kernel] at h
theorem cont_2_5 (m : Int) (w : World) (hm : ML m w) : Calls Tryd.prog 121 #[.string ({ data := #[32] } ++ { data := #[42, 32, 47] } ++ { data := #[32] }), .string ({ data := #[32] } ++ { data := #[60] } ++ { data := #[32] })] w fun e w' => e = .returned (.bool false) ∧ w' = w := by
  have h := Tryd.strings_Contains ({ data := #[32] } ++ { data := #[42, 32, 47] } ++ { data := #[32] }) ({ data := #[32] } ++ { data := #[60] } ++ { data := #[32] }) m w (by decide +kernel) hm
  rwa [show Lib.contains (({ data := #[32] } ++ { data := #[42, 32, 47] } ++ { data := #[32] }) : ByteArray).data.toList (({ data := #[32] } ++ { data := #[60] } ++ { data := #[32] }) : ByteArray).data.toList = false by decide +kernel] at h
theorem prim_0A (m : Int) (w : World) (hm : ML m w) (hg : 1 < w.heap.size) (pb : Nat) (p : PS) (deep : Int) (L : Nat → Prop) (h : PAt w pb p deep L) (iA : p.is (tl { data := #[61, 61] }) = true) :
    Calls Tryd.prog 110 #[.pointer (some ⟨pb, 0, none⟩), .int .i64 0] w fun e w' => e = .returned (.int .i64 (4)) ∧ Below w.heap.size w w' := by
  have HP := Lib.hid h
  have HM := Lib.hid hm
  have IA := Lib.hid iA
  clear h hm iA
  go_enter Tryd.func110, Tryd.ntmps110
  go_wp2_with (go_at_call 81; refine (prims_any m _ HM.out).mono ?_; rintro e w1 ⟨rfl, rfl⟩)
  refine wp_loop_rounds 7 ?_
  rw [rounds_succ]
  go_wp2_with (go_at_call 108; refine (levels_any _).mono ?_; rintro e w1 ⟨rfl, rfl⟩)
  refine (cont_0_0 m _ (HM.out.below hg (((Below.refl _ _).alloc (by first | (simp; done) | (simp; omega)) _).alloc (by first | (simp; done) | (simp; omega)) _))).mono ?_
  rintro e w1 ⟨rfl, hw⟩
  subst hw
  go_wp2_with fail
  rw [rounds_succ]
  go_wp2_with (go_at_call 108; refine (levels_any _).mono ?_; rintro e w1 ⟨rfl, rfl⟩)
  refine (cont_0_1 m _ (HM.out.below hg ((((Below.refl _ _).alloc (by first | (simp; done) | (simp; omega)) _).alloc (by first | (simp; done) | (simp; omega)) _).alloc (by first | (simp; done) | (simp; omega)) _))).mono ?_
  rintro e w1 ⟨rfl, hw⟩
  subst hw
  go_wp2_with fail
  rw [rounds_succ]
  go_wp2_with (go_at_call 108; refine (levels_any _).mono ?_; rintro e w1 ⟨rfl, rfl⟩)
  refine (cont_0_2 m _ (HM.out.below hg (((((Below.refl _ _).alloc (by first | (simp; done) | (simp; omega)) _).alloc (by first | (simp; done) | (simp; omega)) _).alloc (by first | (simp; done) | (simp; omega)) _).alloc (by first | (simp; done) | (simp; omega)) _))).mono ?_
  rintro e w1 ⟨rfl, hw⟩
  subst hw
  go_wp2_with fail
  rw [rounds_succ]
  go_wp2_with (go_at_call 108; refine (levels_any _).mono ?_; rintro e w1 ⟨rfl, rfl⟩)
  refine (cont_0_3 m _ (HM.out.below hg ((((((Below.refl _ _).alloc (by first | (simp; done) | (simp; omega)) _).alloc (by first | (simp; done) | (simp; omega)) _).alloc (by first | (simp; done) | (simp; omega)) _).alloc (by first | (simp; done) | (simp; omega)) _).alloc (by first | (simp; done) | (simp; omega)) _))).mono ?_
  rintro e w1 ⟨rfl, hw⟩
  subst hw
  go_wp2_with fail
  rw [rounds_succ]
  go_wp2_with (go_at_call 108; refine (levels_any _).mono ?_; rintro e w1 ⟨rfl, rfl⟩)
  refine (cont_0_4 m _ (HM.out.below hg (((((((Below.refl _ _).alloc (by first | (simp; done) | (simp; omega)) _).alloc (by first | (simp; done) | (simp; omega)) _).alloc (by first | (simp; done) | (simp; omega)) _).alloc (by first | (simp; done) | (simp; omega)) _).alloc (by first | (simp; done) | (simp; omega)) _).alloc (by first | (simp; done) | (simp; omega)) _))).mono ?_
  rintro e w1 ⟨rfl, hw⟩
  subst hw
  go_wp2_with fail
  refine (is_any _ _ pb p deep L (HP.out.below (((((((Below.refl _ _).alloc (by first | (simp; done) | (simp; omega)) _).alloc (by first | (simp; done) | (simp; omega)) _).alloc (by first | (simp; done) | (simp; omega)) _).alloc (by first | (simp; done) | (simp; omega)) _).alloc (by first | (simp; done) | (simp; omega)) _).alloc (by first | (simp; done) | (simp; omega)) _))).mono ?_
  rw [IA.out]
  rintro e w1 ⟨rfl, hw⟩
  subst hw
  go_wp2_with fail
  go_ret
  exact ⟨rfl, ((((((Below.refl _ _).alloc (by first | (simp; done) | (simp; omega)) _).alloc (by first | (simp; done) | (simp; omega)) _).alloc (by first | (simp; done) | (simp; omega)) _).alloc (by first | (simp; done) | (simp; omega)) _).alloc (by first | (simp; done) | (simp; omega)) _).alloc (by first | (simp; done) | (simp; omega)) _⟩
theorem prim_0B (m : Int) (w : World) (hm : ML m w) (hg : 1 < w.heap.size) (pb : Nat) (p : PS) (deep : Int) (L : Nat → Prop) (h : PAt w pb p deep L) (iA : p.is (tl { data := #[61, 61] }) = false) (iB : p.is (tl { data := #[60] }) = true) :
    Calls Tryd.prog 110 #[.pointer (some ⟨pb, 0, none⟩), .int .i64 0] w fun e w' => e = .returned (.int .i64 (5)) ∧ Below w.heap.size w w' := by
  have HP := Lib.hid h
  have HM := Lib.hid hm
  have IA := Lib.hid iA
  have IB := Lib.hid iB
  clear h hm iA iB
  go_enter Tryd.func110, Tryd.ntmps110
  go_wp2_with (go_at_call 81; refine (prims_any m _ HM.out).mono ?_; rintro e w1 ⟨rfl, rfl⟩)
  refine wp_loop_rounds 7 ?_
  rw [rounds_succ]
  go_wp2_with (go_at_call 108; refine (levels_any _).mono ?_; rintro e w1 ⟨rfl, rfl⟩)
  refine (cont_0_0 m _ (HM.out.below hg (((Below.refl _ _).alloc (by first | (simp; done) | (simp; omega)) _).alloc (by first | (simp; done) | (simp; omega)) _))).mono ?_
  rintro e w1 ⟨rfl, hw⟩
  subst hw
  go_wp2_with fail
  rw [rounds_succ]
  go_wp2_with (go_at_call 108; refine (levels_any _).mono ?_; rintro e w1 ⟨rfl, rfl⟩)
  refine (cont_0_1 m _ (HM.out.below hg ((((Below.refl _ _).alloc (by first | (simp; done) | (simp; omega)) _).alloc (by first | (simp; done) | (simp; omega)) _).alloc (by first | (simp; done) | (simp; omega)) _))).mono ?_
  rintro e w1 ⟨rfl, hw⟩
  subst hw
  go_wp2_with fail
  rw [rounds_succ]
  go_wp2_with (go_at_call 108; refine (levels_any _).mono ?_; rintro e w1 ⟨rfl, rfl⟩)
  refine (cont_0_2 m _ (HM.out.below hg (((((Below.refl _ _).alloc (by first | (simp; done) | (simp; omega)) _).alloc (by first | (simp; done) | (simp; omega)) _).alloc (by first | (simp; done) | (simp; omega)) _).alloc (by first | (simp; done) | (simp; omega)) _))).mono ?_
  rintro e w1 ⟨rfl, hw⟩
  subst hw
  go_wp2_with fail
  rw [rounds_succ]
  go_wp2_with (go_at_call 108; refine (levels_any _).mono ?_; rintro e w1 ⟨rfl, rfl⟩)
  refine (cont_0_3 m _ (HM.out.below hg ((((((Below.refl _ _).alloc (by first | (simp; done) | (simp; omega)) _).alloc (by first | (simp; done) | (simp; omega)) _).alloc (by first | (simp; done) | (simp; omega)) _).alloc (by first | (simp; done) | (simp; omega)) _).alloc (by first | (simp; done) | (simp; omega)) _))).mono ?_
  rintro e w1 ⟨rfl, hw⟩
  subst hw
  go_wp2_with fail
  rw [rounds_succ]
  go_wp2_with (go_at_call 108; refine (levels_any _).mono ?_; rintro e w1 ⟨rfl, rfl⟩)
  refine (cont_0_4 m _ (HM.out.below hg (((((((Below.refl _ _).alloc (by first | (simp; done) | (simp; omega)) _).alloc (by first | (simp; done) | (simp; omega)) _).alloc (by first | (simp; done) | (simp; omega)) _).alloc (by first | (simp; done) | (simp; omega)) _).alloc (by first | (simp; done) | (simp; omega)) _).alloc (by first | (simp; done) | (simp; omega)) _))).mono ?_
  rintro e w1 ⟨rfl, hw⟩
  subst hw
  go_wp2_with fail
  refine (is_any _ _ pb p deep L (HP.out.below (((((((Below.refl _ _).alloc (by first | (simp; done) | (simp; omega)) _).alloc (by first | (simp; done) | (simp; omega)) _).alloc (by first | (simp; done) | (simp; omega)) _).alloc (by first | (simp; done) | (simp; omega)) _).alloc (by first | (simp; done) | (simp; omega)) _).alloc (by first | (simp; done) | (simp; omega)) _))).mono ?_
  rw [IA.out]
  rintro e w1 ⟨rfl, hw⟩
  subst hw
  go_wp2_with fail
  rw [rounds_succ]
  go_wp2_with (go_at_call 108; refine (levels_any _).mono ?_; rintro e w1 ⟨rfl, rfl⟩)
  refine (cont_0_5 m _ (HM.out.below hg ((((((((Below.refl _ _).alloc (by first | (simp; done) | (simp; omega)) _).alloc (by first | (simp; done) | (simp; omega)) _).alloc (by first | (simp; done) | (simp; omega)) _).alloc (by first | (simp; done) | (simp; omega)) _).alloc (by first | (simp; done) | (simp; omega)) _).alloc (by first | (simp; done) | (simp; omega)) _).alloc (by first | (simp; done) | (simp; omega)) _))).mono ?_
  rintro e w1 ⟨rfl, hw⟩
  subst hw
  go_wp2_with fail
  refine (is_any _ _ pb p deep L (HP.out.below ((((((((Below.refl _ _).alloc (by first | (simp; done) | (simp; omega)) _).alloc (by first | (simp; done) | (simp; omega)) _).alloc (by first | (simp; done) | (simp; omega)) _).alloc (by first | (simp; done) | (simp; omega)) _).alloc (by first | (simp; done) | (simp; omega)) _).alloc (by first | (simp; done) | (simp; omega)) _).alloc (by first | (simp; done) | (simp; omega)) _))).mono ?_
  rw [IB.out]
  rintro e w1 ⟨rfl, hw⟩
  subst hw
  go_wp2_with fail
  go_ret
  exact ⟨rfl, (((((((Below.refl _ _).alloc (by first | (simp; done) | (simp; omega)) _).alloc (by first | (simp; done) | (simp; omega)) _).alloc (by first | (simp; done) | (simp; omega)) _).alloc (by first | (simp; done) | (simp; omega)) _).alloc (by first | (simp; done) | (simp; omega)) _).alloc (by first | (simp; done) | (simp; omega)) _).alloc (by first | (simp; done) | (simp; omega)) _⟩
theorem prim_0N (m : Int) (w : World) (hm : ML m w) (hg : 1 < w.heap.size) (pb : Nat) (p : PS) (deep : Int) (L : Nat → Prop) (h : PAt w pb p deep L) (iA : p.is (tl { data := #[61, 61] }) = false) (iB : p.is (tl { data := #[60] }) = false) :
    Calls Tryd.prog 110 #[.pointer (some ⟨pb, 0, none⟩), .int .i64 0] w fun e w' => e = .returned (.int .i64 (-1)) ∧ Below w.heap.size w w' := by
  have HP := Lib.hid h
  have HM := Lib.hid hm
  have IA := Lib.hid iA
  have IB := Lib.hid iB
  clear h hm iA iB
  go_enter Tryd.func110, Tryd.ntmps110
  go_wp2_with (go_at_call 81; refine (prims_any m _ HM.out).mono ?_; rintro e w1 ⟨rfl, rfl⟩)
  refine wp_loop_rounds 7 ?_
  rw [rounds_succ]
  go_wp2_with (go_at_call 108; refine (levels_any _).mono ?_; rintro e w1 ⟨rfl, rfl⟩)
  refine (cont_0_0 m _ (HM.out.below hg (((Below.refl _ _).alloc (by first | (simp; done) | (simp; omega)) _).alloc (by first | (simp; done) | (simp; omega)) _))).mono ?_
  rintro e w1 ⟨rfl, hw⟩
  subst hw
  go_wp2_with fail
  rw [rounds_succ]
  go_wp2_with (go_at_call 108; refine (levels_any _).mono ?_; rintro e w1 ⟨rfl, rfl⟩)
  refine (cont_0_1 m _ (HM.out.below hg ((((Below.refl _ _).alloc (by first | (simp; done) | (simp; omega)) _).alloc (by first | (simp; done) | (simp; omega)) _).alloc (by first | (simp; done) | (simp; omega)) _))).mono ?_
  rintro e w1 ⟨rfl, hw⟩
  subst hw
  go_wp2_with fail
  rw [rounds_succ]
  go_wp2_with (go_at_call 108; refine (levels_any _).mono ?_; rintro e w1 ⟨rfl, rfl⟩)
  refine (cont_0_2 m _ (HM.out.below hg (((((Below.refl _ _).alloc (by first | (simp; done) | (simp; omega)) _).alloc (by first | (simp; done) | (simp; omega)) _).alloc (by first | (simp; done) | (simp; omega)) _).alloc (by first | (simp; done) | (simp; omega)) _))).mono ?_
  rintro e w1 ⟨rfl, hw⟩
  subst hw
  go_wp2_with fail
  rw [rounds_succ]
  go_wp2_with (go_at_call 108; refine (levels_any _).mono ?_; rintro e w1 ⟨rfl, rfl⟩)
  refine (cont_0_3 m _ (HM.out.below hg ((((((Below.refl _ _).alloc (by first | (simp; done) | (simp; omega)) _).alloc (by first | (simp; done) | (simp; omega)) _).alloc (by first | (simp; done) | (simp; omega)) _).alloc (by first | (simp; done) | (simp; omega)) _).alloc (by first | (simp; done) | (simp; omega)) _))).mono ?_
  rintro e w1 ⟨rfl, hw⟩
  subst hw
  go_wp2_with fail
  rw [rounds_succ]
  go_wp2_with (go_at_call 108; refine (levels_any _).mono ?_; rintro e w1 ⟨rfl, rfl⟩)
  refine (cont_0_4 m _ (HM.out.below hg (((((((Below.refl _ _).alloc (by first | (simp; done) | (simp; omega)) _).alloc (by first | (simp; done) | (simp; omega)) _).alloc (by first | (simp; done) | (simp; omega)) _).alloc (by first | (simp; done) | (simp; omega)) _).alloc (by first | (simp; done) | (simp; omega)) _).alloc (by first | (simp; done) | (simp; omega)) _))).mono ?_
  rintro e w1 ⟨rfl, hw⟩
  subst hw
  go_wp2_with fail
  refine (is_any _ _ pb p deep L (HP.out.below (((((((Below.refl _ _).alloc (by first | (simp; done) | (simp; omega)) _).alloc (by first | (simp; done) | (simp; omega)) _).alloc (by first | (simp; done) | (simp; omega)) _).alloc (by first | (simp; done) | (simp; omega)) _).alloc (by first | (simp; done) | (simp; omega)) _).alloc (by first | (simp; done) | (simp; omega)) _))).mono ?_
  rw [IA.out]
  rintro e w1 ⟨rfl, hw⟩
  subst hw
  go_wp2_with fail
  rw [rounds_succ]
  go_wp2_with (go_at_call 108; refine (levels_any _).mono ?_; rintro e w1 ⟨rfl, rfl⟩)
  refine (cont_0_5 m _ (HM.out.below hg ((((((((Below.refl _ _).alloc (by first | (simp; done) | (simp; omega)) _).alloc (by first | (simp; done) | (simp; omega)) _).alloc (by first | (simp; done) | (simp; omega)) _).alloc (by first | (simp; done) | (simp; omega)) _).alloc (by first | (simp; done) | (simp; omega)) _).alloc (by first | (simp; done) | (simp; omega)) _).alloc (by first | (simp; done) | (simp; omega)) _))).mono ?_
  rintro e w1 ⟨rfl, hw⟩
  subst hw
  go_wp2_with fail
  refine (is_any _ _ pb p deep L (HP.out.below ((((((((Below.refl _ _).alloc (by first | (simp; done) | (simp; omega)) _).alloc (by first | (simp; done) | (simp; omega)) _).alloc (by first | (simp; done) | (simp; omega)) _).alloc (by first | (simp; done) | (simp; omega)) _).alloc (by first | (simp; done) | (simp; omega)) _).alloc (by first | (simp; done) | (simp; omega)) _).alloc (by first | (simp; done) | (simp; omega)) _))).mono ?_
  rw [IB.out]
  rintro e w1 ⟨rfl, hw⟩
  subst hw
  go_wp2_with fail
  rw [rounds_succ]
  go_wp2_with fail
  go_ret
  exact ⟨rfl, (((((((Below.refl _ _).alloc (by first | (simp; done) | (simp; omega)) _).alloc (by first | (simp; done) | (simp; omega)) _).alloc (by first | (simp; done) | (simp; omega)) _).alloc (by first | (simp; done) | (simp; omega)) _).alloc (by first | (simp; done) | (simp; omega)) _).alloc (by first | (simp; done) | (simp; omega)) _).alloc (by first | (simp; done) | (simp; omega)) _⟩
theorem prim_1A (m : Int) (w : World) (hm : ML m w) (hg : 1 < w.heap.size) (pb : Nat) (p : PS) (deep : Int) (L : Nat → Prop) (h : PAt w pb p deep L) (iA : p.is (tl { data := #[43] }) = true) :
    Calls Tryd.prog 110 #[.pointer (some ⟨pb, 0, none⟩), .int .i64 1] w fun e w' => e = .returned (.int .i64 (0)) ∧ Below w.heap.size w w' := by
  have HP := Lib.hid h
  have HM := Lib.hid hm
  have IA := Lib.hid iA
  clear h hm iA
  go_enter Tryd.func110, Tryd.ntmps110
  go_wp2_with (go_at_call 81; refine (prims_any m _ HM.out).mono ?_; rintro e w1 ⟨rfl, rfl⟩)
  refine wp_loop_rounds 7 ?_
  rw [rounds_succ]
  go_wp2_with (go_at_call 108; refine (levels_any _).mono ?_; rintro e w1 ⟨rfl, rfl⟩)
  refine (cont_1_0 m _ (HM.out.below hg (((Below.refl _ _).alloc (by first | (simp; done) | (simp; omega)) _).alloc (by first | (simp; done) | (simp; omega)) _))).mono ?_
  rintro e w1 ⟨rfl, hw⟩
  subst hw
  go_wp2_with fail
  refine (is_any _ _ pb p deep L (HP.out.below (((Below.refl _ _).alloc (by first | (simp; done) | (simp; omega)) _).alloc (by first | (simp; done) | (simp; omega)) _))).mono ?_
  rw [IA.out]
  rintro e w1 ⟨rfl, hw⟩
  subst hw
  go_wp2_with fail
  go_ret
  exact ⟨rfl, ((Below.refl _ _).alloc (by first | (simp; done) | (simp; omega)) _).alloc (by first | (simp; done) | (simp; omega)) _⟩
theorem prim_1B (m : Int) (w : World) (hm : ML m w) (hg : 1 < w.heap.size) (pb : Nat) (p : PS) (deep : Int) (L : Nat → Prop) (h : PAt w pb p deep L) (iA : p.is (tl { data := #[43] }) = false) (iB : p.is (tl { data := #[45] }) = true) :
    Calls Tryd.prog 110 #[.pointer (some ⟨pb, 0, none⟩), .int .i64 1] w fun e w' => e = .returned (.int .i64 (1)) ∧ Below w.heap.size w w' := by
  have HP := Lib.hid h
  have HM := Lib.hid hm
  have IA := Lib.hid iA
  have IB := Lib.hid iB
  clear h hm iA iB
  go_enter Tryd.func110, Tryd.ntmps110
  go_wp2_with (go_at_call 81; refine (prims_any m _ HM.out).mono ?_; rintro e w1 ⟨rfl, rfl⟩)
  refine wp_loop_rounds 7 ?_
  rw [rounds_succ]
  go_wp2_with (go_at_call 108; refine (levels_any _).mono ?_; rintro e w1 ⟨rfl, rfl⟩)
  refine (cont_1_0 m _ (HM.out.below hg (((Below.refl _ _).alloc (by first | (simp; done) | (simp; omega)) _).alloc (by first | (simp; done) | (simp; omega)) _))).mono ?_
  rintro e w1 ⟨rfl, hw⟩
  subst hw
  go_wp2_with fail
  refine (is_any _ _ pb p deep L (HP.out.below (((Below.refl _ _).alloc (by first | (simp; done) | (simp; omega)) _).alloc (by first | (simp; done) | (simp; omega)) _))).mono ?_
  rw [IA.out]
  rintro e w1 ⟨rfl, hw⟩
  subst hw
  go_wp2_with fail
  rw [rounds_succ]
  go_wp2_with (go_at_call 108; refine (levels_any _).mono ?_; rintro e w1 ⟨rfl, rfl⟩)
  refine (cont_1_1 m _ (HM.out.below hg ((((Below.refl _ _).alloc (by first | (simp; done) | (simp; omega)) _).alloc (by first | (simp; done) | (simp; omega)) _).alloc (by first | (simp; done) | (simp; omega)) _))).mono ?_
  rintro e w1 ⟨rfl, hw⟩
  subst hw
  go_wp2_with fail
  refine (is_any _ _ pb p deep L (HP.out.below ((((Below.refl _ _).alloc (by first | (simp; done) | (simp; omega)) _).alloc (by first | (simp; done) | (simp; omega)) _).alloc (by first | (simp; done) | (simp; omega)) _))).mono ?_
  rw [IB.out]
  rintro e w1 ⟨rfl, hw⟩
  subst hw
  go_wp2_with fail
  go_ret
  exact ⟨rfl, (((Below.refl _ _).alloc (by first | (simp; done) | (simp; omega)) _).alloc (by first | (simp; done) | (simp; omega)) _).alloc (by first | (simp; done) | (simp; omega)) _⟩
theorem prim_1N (m : Int) (w : World) (hm : ML m w) (hg : 1 < w.heap.size) (pb : Nat) (p : PS) (deep : Int) (L : Nat → Prop) (h : PAt w pb p deep L) (iA : p.is (tl { data := #[43] }) = false) (iB : p.is (tl { data := #[45] }) = false) :
    Calls Tryd.prog 110 #[.pointer (some ⟨pb, 0, none⟩), .int .i64 1] w fun e w' => e = .returned (.int .i64 (-1)) ∧ Below w.heap.size w w' := by
  have HP := Lib.hid h
  have HM := Lib.hid hm
  have IA := Lib.hid iA
  have IB := Lib.hid iB
  clear h hm iA iB
  go_enter Tryd.func110, Tryd.ntmps110
  go_wp2_with (go_at_call 81; refine (prims_any m _ HM.out).mono ?_; rintro e w1 ⟨rfl, rfl⟩)
  refine wp_loop_rounds 7 ?_
  rw [rounds_succ]
  go_wp2_with (go_at_call 108; refine (levels_any _).mono ?_; rintro e w1 ⟨rfl, rfl⟩)
  refine (cont_1_0 m _ (HM.out.below hg (((Below.refl _ _).alloc (by first | (simp; done) | (simp; omega)) _).alloc (by first | (simp; done) | (simp; omega)) _))).mono ?_
  rintro e w1 ⟨rfl, hw⟩
  subst hw
  go_wp2_with fail
  refine (is_any _ _ pb p deep L (HP.out.below (((Below.refl _ _).alloc (by first | (simp; done) | (simp; omega)) _).alloc (by first | (simp; done) | (simp; omega)) _))).mono ?_
  rw [IA.out]
  rintro e w1 ⟨rfl, hw⟩
  subst hw
  go_wp2_with fail
  rw [rounds_succ]
  go_wp2_with (go_at_call 108; refine (levels_any _).mono ?_; rintro e w1 ⟨rfl, rfl⟩)
  refine (cont_1_1 m _ (HM.out.below hg ((((Below.refl _ _).alloc (by first | (simp; done) | (simp; omega)) _).alloc (by first | (simp; done) | (simp; omega)) _).alloc (by first | (simp; done) | (simp; omega)) _))).mono ?_
  rintro e w1 ⟨rfl, hw⟩
  subst hw
  go_wp2_with fail
  refine (is_any _ _ pb p deep L (HP.out.below ((((Below.refl _ _).alloc (by first | (simp; done) | (simp; omega)) _).alloc (by first | (simp; done) | (simp; omega)) _).alloc (by first | (simp; done) | (simp; omega)) _))).mono ?_
  rw [IB.out]
  rintro e w1 ⟨rfl, hw⟩
  subst hw
  go_wp2_with fail
  rw [rounds_succ]
  go_wp2_with (go_at_call 108; refine (levels_any _).mono ?_; rintro e w1 ⟨rfl, rfl⟩)
  refine (cont_1_2 m _ (HM.out.below hg (((((Below.refl _ _).alloc (by first | (simp; done) | (simp; omega)) _).alloc (by first | (simp; done) | (simp; omega)) _).alloc (by first | (simp; done) | (simp; omega)) _).alloc (by first | (simp; done) | (simp; omega)) _))).mono ?_
  rintro e w1 ⟨rfl, hw⟩
  subst hw
  go_wp2_with fail
  rw [rounds_succ]
  go_wp2_with (go_at_call 108; refine (levels_any _).mono ?_; rintro e w1 ⟨rfl, rfl⟩)
  refine (cont_1_3 m _ (HM.out.below hg ((((((Below.refl _ _).alloc (by first | (simp; done) | (simp; omega)) _).alloc (by first | (simp; done) | (simp; omega)) _).alloc (by first | (simp; done) | (simp; omega)) _).alloc (by first | (simp; done) | (simp; omega)) _).alloc (by first | (simp; done) | (simp; omega)) _))).mono ?_
  rintro e w1 ⟨rfl, hw⟩
  subst hw
  go_wp2_with fail
  rw [rounds_succ]
  go_wp2_with (go_at_call 108; refine (levels_any _).mono ?_; rintro e w1 ⟨rfl, rfl⟩)
  refine (cont_1_4 m _ (HM.out.below hg (((((((Below.refl _ _).alloc (by first | (simp; done) | (simp; omega)) _).alloc (by first | (simp; done) | (simp; omega)) _).alloc (by first | (simp; done) | (simp; omega)) _).alloc (by first | (simp; done) | (simp; omega)) _).alloc (by first | (simp; done) | (simp; omega)) _).alloc (by first | (simp; done) | (simp; omega)) _))).mono ?_
  rintro e w1 ⟨rfl, hw⟩
  subst hw
  go_wp2_with fail
  rw [rounds_succ]
  go_wp2_with (go_at_call 108; refine (levels_any _).mono ?_; rintro e w1 ⟨rfl, rfl⟩)
  refine (cont_1_5 m _ (HM.out.below hg ((((((((Below.refl _ _).alloc (by first | (simp; done) | (simp; omega)) _).alloc (by first | (simp; done) | (simp; omega)) _).alloc (by first | (simp; done) | (simp; omega)) _).alloc (by first | (simp; done) | (simp; omega)) _).alloc (by first | (simp; done) | (simp; omega)) _).alloc (by first | (simp; done) | (simp; omega)) _).alloc (by first | (simp; done) | (simp; omega)) _))).mono ?_
  rintro e w1 ⟨rfl, hw⟩
  subst hw
  go_wp2_with fail
  rw [rounds_succ]
  go_wp2_with fail
  go_ret
  exact ⟨rfl, (((((((Below.refl _ _).alloc (by first | (simp; done) | (simp; omega)) _).alloc (by first | (simp; done) | (simp; omega)) _).alloc (by first | (simp; done) | (simp; omega)) _).alloc (by first | (simp; done) | (simp; omega)) _).alloc (by first | (simp; done) | (simp; omega)) _).alloc (by first | (simp; done) | (simp; omega)) _).alloc (by first | (simp; done) | (simp; omega)) _⟩
theorem prim_2A (m : Int) (w : World) (hm : ML m w) (hg : 1 < w.heap.size) (pb : Nat) (p : PS) (deep : Int) (L : Nat → Prop) (h : PAt w pb p deep L) (iA : p.is (tl { data := #[42] }) = true) :
    Calls Tryd.prog 110 #[.pointer (some ⟨pb, 0, none⟩), .int .i64 2] w fun e w' => e = .returned (.int .i64 (2)) ∧ Below w.heap.size w w' := by
  have HP := Lib.hid h
  have HM := Lib.hid hm
  have IA := Lib.hid iA
  clear h hm iA
  go_enter Tryd.func110, Tryd.ntmps110
  go_wp2_with (go_at_call 81; refine (prims_any m _ HM.out).mono ?_; rintro e w1 ⟨rfl, rfl⟩)
  refine wp_loop_rounds 7 ?_
  rw [rounds_succ]
  go_wp2_with (go_at_call 108; refine (levels_any _).mono ?_; rintro e w1 ⟨rfl, rfl⟩)
  refine (cont_2_0 m _ (HM.out.below hg (((Below.refl _ _).alloc (by first | (simp; done) | (simp; omega)) _).alloc (by first | (simp; done) | (simp; omega)) _))).mono ?_
  rintro e w1 ⟨rfl, hw⟩
  subst hw
  go_wp2_with fail
  rw [rounds_succ]
  go_wp2_with (go_at_call 108; refine (levels_any _).mono ?_; rintro e w1 ⟨rfl, rfl⟩)
  refine (cont_2_1 m _ (HM.out.below hg ((((Below.refl _ _).alloc (by first | (simp; done) | (simp; omega)) _).alloc (by first | (simp; done) | (simp; omega)) _).alloc (by first | (simp; done) | (simp; omega)) _))).mono ?_
  rintro e w1 ⟨rfl, hw⟩
  subst hw
  go_wp2_with fail
  rw [rounds_succ]
  go_wp2_with (go_at_call 108; refine (levels_any _).mono ?_; rintro e w1 ⟨rfl, rfl⟩)
  refine (cont_2_2 m _ (HM.out.below hg (((((Below.refl _ _).alloc (by first | (simp; done) | (simp; omega)) _).alloc (by first | (simp; done) | (simp; omega)) _).alloc (by first | (simp; done) | (simp; omega)) _).alloc (by first | (simp; done) | (simp; omega)) _))).mono ?_
  rintro e w1 ⟨rfl, hw⟩
  subst hw
  go_wp2_with fail
  refine (is_any _ _ pb p deep L (HP.out.below (((((Below.refl _ _).alloc (by first | (simp; done) | (simp; omega)) _).alloc (by first | (simp; done) | (simp; omega)) _).alloc (by first | (simp; done) | (simp; omega)) _).alloc (by first | (simp; done) | (simp; omega)) _))).mono ?_
  rw [IA.out]
  rintro e w1 ⟨rfl, hw⟩
  subst hw
  go_wp2_with fail
  go_ret
  exact ⟨rfl, ((((Below.refl _ _).alloc (by first | (simp; done) | (simp; omega)) _).alloc (by first | (simp; done) | (simp; omega)) _).alloc (by first | (simp; done) | (simp; omega)) _).alloc (by first | (simp; done) | (simp; omega)) _⟩
theorem prim_2B (m : Int) (w : World) (hm : ML m w) (hg : 1 < w.heap.size) (pb : Nat) (p : PS) (deep : Int) (L : Nat → Prop) (h : PAt w pb p deep L) (iA : p.is (tl { data := #[42] }) = false) (iB : p.is (tl { data := #[47] }) = true) :
    Calls Tryd.prog 110 #[.pointer (some ⟨pb, 0, none⟩), .int .i64 2] w fun e w' => e = .returned (.int .i64 (3)) ∧ Below w.heap.size w w' := by
  have HP := Lib.hid h
  have HM := Lib.hid hm
  have IA := Lib.hid iA
  have IB := Lib.hid iB
  clear h hm iA iB
  go_enter Tryd.func110, Tryd.ntmps110
  go_wp2_with (go_at_call 81; refine (prims_any m _ HM.out).mono ?_; rintro e w1 ⟨rfl, rfl⟩)
  refine wp_loop_rounds 7 ?_
  rw [rounds_succ]
  go_wp2_with (go_at_call 108; refine (levels_any _).mono ?_; rintro e w1 ⟨rfl, rfl⟩)
  refine (cont_2_0 m _ (HM.out.below hg (((Below.refl _ _).alloc (by first | (simp; done) | (simp; omega)) _).alloc (by first | (simp; done) | (simp; omega)) _))).mono ?_
  rintro e w1 ⟨rfl, hw⟩
  subst hw
  go_wp2_with fail
  rw [rounds_succ]
  go_wp2_with (go_at_call 108; refine (levels_any _).mono ?_; rintro e w1 ⟨rfl, rfl⟩)
  refine (cont_2_1 m _ (HM.out.below hg ((((Below.refl _ _).alloc (by first | (simp; done) | (simp; omega)) _).alloc (by first | (simp; done) | (simp; omega)) _).alloc (by first | (simp; done) | (simp; omega)) _))).mono ?_
  rintro e w1 ⟨rfl, hw⟩
  subst hw
  go_wp2_with fail
  rw [rounds_succ]
  go_wp2_with (go_at_call 108; refine (levels_any _).mono ?_; rintro e w1 ⟨rfl, rfl⟩)
  refine (cont_2_2 m _ (HM.out.below hg (((((Below.refl _ _).alloc (by first | (simp; done) | (simp; omega)) _).alloc (by first | (simp; done) | (simp; omega)) _).alloc (by first | (simp; done) | (simp; omega)) _).alloc (by first | (simp; done) | (simp; omega)) _))).mono ?_
  rintro e w1 ⟨rfl, hw⟩
  subst hw
  go_wp2_with fail
  refine (is_any _ _ pb p deep L (HP.out.below (((((Below.refl _ _).alloc (by first | (simp; done) | (simp; omega)) _).alloc (by first | (simp; done) | (simp; omega)) _).alloc (by first | (simp; done) | (simp; omega)) _).alloc (by first | (simp; done) | (simp; omega)) _))).mono ?_
  rw [IA.out]
  rintro e w1 ⟨rfl, hw⟩
  subst hw
  go_wp2_with fail
  rw [rounds_succ]
  go_wp2_with (go_at_call 108; refine (levels_any _).mono ?_; rintro e w1 ⟨rfl, rfl⟩)
  refine (cont_2_3 m _ (HM.out.below hg ((((((Below.refl _ _).alloc (by first | (simp; done) | (simp; omega)) _).alloc (by first | (simp; done) | (simp; omega)) _).alloc (by first | (simp; done) | (simp; omega)) _).alloc (by first | (simp; done) | (simp; omega)) _).alloc (by first | (simp; done) | (simp; omega)) _))).mono ?_
  rintro e w1 ⟨rfl, hw⟩
  subst hw
  go_wp2_with fail
  refine (is_any _ _ pb p deep L (HP.out.below ((((((Below.refl _ _).alloc (by first | (simp; done) | (simp; omega)) _).alloc (by first | (simp; done) | (simp; omega)) _).alloc (by first | (simp; done) | (simp; omega)) _).alloc (by first | (simp; done) | (simp; omega)) _).alloc (by first | (simp; done) | (simp; omega)) _))).mono ?_
  rw [IB.out]
  rintro e w1 ⟨rfl, hw⟩
  subst hw
  go_wp2_with fail
  go_ret
  exact ⟨rfl, (((((Below.refl _ _).alloc (by first | (simp; done) | (simp; omega)) _).alloc (by first | (simp; done) | (simp; omega)) _).alloc (by first | (simp; done) | (simp; omega)) _).alloc (by first | (simp; done) | (simp; omega)) _).alloc (by first | (simp; done) | (simp; omega)) _⟩
theorem prim_2N (m : Int) (w : World) (hm : ML m w) (hg : 1 < w.heap.size) (pb : Nat) (p : PS) (deep : Int) (L : Nat → Prop) (h : PAt w pb p deep L) (iA : p.is (tl { data := #[42] }) = false) (iB : p.is (tl { data := #[47] }) = false) :
    Calls Tryd.prog 110 #[.pointer (some ⟨pb, 0, none⟩), .int .i64 2] w fun e w' => e = .returned (.int .i64 (-1)) ∧ Below w.heap.size w w' := by
  have HP := Lib.hid h
  have HM := Lib.hid hm
  have IA := Lib.hid iA
  have IB := Lib.hid iB
  clear h hm iA iB
  go_enter Tryd.func110, Tryd.ntmps110
  go_wp2_with (go_at_call 81; refine (prims_any m _ HM.out).mono ?_; rintro e w1 ⟨rfl, rfl⟩)
  refine wp_loop_rounds 7 ?_
  rw [rounds_succ]
  go_wp2_with (go_at_call 108; refine (levels_any _).mono ?_; rintro e w1 ⟨rfl, rfl⟩)
  refine (cont_2_0 m _ (HM.out.below hg (((Below.refl _ _).alloc (by first | (simp; done) | (simp; omega)) _).alloc (by first | (simp; done) | (simp; omega)) _))).mono ?_
  rintro e w1 ⟨rfl, hw⟩
  subst hw
  go_wp2_with fail
  rw [rounds_succ]
  go_wp2_with (go_at_call 108; refine (levels_any _).mono ?_; rintro e w1 ⟨rfl, rfl⟩)
  refine (cont_2_1 m _ (HM.out.below hg ((((Below.refl _ _).alloc (by first | (simp; done) | (simp; omega)) _).alloc (by first | (simp; done) | (simp; omega)) _).alloc (by first | (simp; done) | (simp; omega)) _))).mono ?_
  rintro e w1 ⟨rfl, hw⟩
  subst hw
  go_wp2_with fail
  rw [rounds_succ]
  go_wp2_with (go_at_call 108; refine (levels_any _).mono ?_; rintro e w1 ⟨rfl, rfl⟩)
  refine (cont_2_2 m _ (HM.out.below hg (((((Below.refl _ _).alloc (by first | (simp; done) | (simp; omega)) _).alloc (by first | (simp; done) | (simp; omega)) _).alloc (by first | (simp; done) | (simp; omega)) _).alloc (by first | (simp; done) | (simp; omega)) _))).mono ?_
  rintro e w1 ⟨rfl, hw⟩
  subst hw
  go_wp2_with fail
  refine (is_any _ _ pb p deep L (HP.out.below (((((Below.refl _ _).alloc (by first | (simp; done) | (simp; omega)) _).alloc (by first | (simp; done) | (simp; omega)) _).alloc (by first | (simp; done) | (simp; omega)) _).alloc (by first | (simp; done) | (simp; omega)) _))).mono ?_
  rw [IA.out]
  rintro e w1 ⟨rfl, hw⟩
  subst hw
  go_wp2_with fail
  rw [rounds_succ]
  go_wp2_with (go_at_call 108; refine (levels_any _).mono ?_; rintro e w1 ⟨rfl, rfl⟩)
  refine (cont_2_3 m _ (HM.out.below hg ((((((Below.refl _ _).alloc (by first | (simp; done) | (simp; omega)) _).alloc (by first | (simp; done) | (simp; omega)) _).alloc (by first | (simp; done) | (simp; omega)) _).alloc (by first | (simp; done) | (simp; omega)) _).alloc (by first | (simp; done) | (simp; omega)) _))).mono ?_
  rintro e w1 ⟨rfl, hw⟩
  subst hw
  go_wp2_with fail
  refine (is_any _ _ pb p deep L (HP.out.below ((((((Below.refl _ _).alloc (by first | (simp; done) | (simp; omega)) _).alloc (by first | (simp; done) | (simp; omega)) _).alloc (by first | (simp; done) | (simp; omega)) _).alloc (by first | (simp; done) | (simp; omega)) _).alloc (by first | (simp; done) | (simp; omega)) _))).mono ?_
  rw [IB.out]
  rintro e w1 ⟨rfl, hw⟩
  subst hw
  go_wp2_with fail
  rw [rounds_succ]
  go_wp2_with (go_at_call 108; refine (levels_any _).mono ?_; rintro e w1 ⟨rfl, rfl⟩)
  refine (cont_2_4 m _ (HM.out.below hg (((((((Below.refl _ _).alloc (by first | (simp; done) | (simp; omega)) _).alloc (by first | (simp; done) | (simp; omega)) _).alloc (by first | (simp; done) | (simp; omega)) _).alloc (by first | (simp; done) | (simp; omega)) _).alloc (by first | (simp; done) | (simp; omega)) _).alloc (by first | (simp; done) | (simp; omega)) _))).mono ?_
  rintro e w1 ⟨rfl, hw⟩
  subst hw
  go_wp2_with fail
  rw [rounds_succ]
  go_wp2_with (go_at_call 108; refine (levels_any _).mono ?_; rintro e w1 ⟨rfl, rfl⟩)
  refine (cont_2_5 m _ (HM.out.below hg ((((((((Below.refl _ _).alloc (by first | (simp; done) | (simp; omega)) _).alloc (by first | (simp; done) | (simp; omega)) _).alloc (by first | (simp; done) | (simp; omega)) _).alloc (by first | (simp; done) | (simp; omega)) _).alloc (by first | (simp; done) | (simp; omega)) _).alloc (by first | (simp; done) | (simp; omega)) _).alloc (by first | (simp; done) | (simp; omega)) _))).mono ?_
  rintro e w1 ⟨rfl, hw⟩
  subst hw
  go_wp2_with fail
  rw [rounds_succ]
  go_wp2_with fail
  go_ret
  exact ⟨rfl, (((((((Below.refl _ _).alloc (by first | (simp; done) | (simp; omega)) _).alloc (by first | (simp; done) | (simp; omega)) _).alloc (by first | (simp; done) | (simp; omega)) _).alloc (by first | (simp; done) | (simp; omega)) _).alloc (by first | (simp; done) | (simp; omega)) _).alloc (by first | (simp; done) | (simp; omega)) _).alloc (by first | (simp; done) | (simp; omega)) _⟩
/-- which prim of a level is next -/
def primV (o : Option Nat) : Int := match o with | some k => (k : Int) | none => -1
theorem prim_any (l : Nat) (hl : l ≤ 2) (m : Int) (w : World) (hm : ML m w) (hg : 1 < w.heap.size) (pb : Nat) (p : PS) (deep : Int) (L : Nat → Prop) (h : PAt w pb p deep L) :
    Calls Tryd.prog 110 #[.pointer (some ⟨pb, 0, none⟩), .int .i64 (l : Int)] w fun e w' => e = .returned (.int .i64 (primV (primB p l))) ∧ Below w.heap.size w w' := by
  match l, hl with
  | 0, _ =>
    cases iA : p.is (tl { data := #[61, 61] }) with
    | true =>
      have e : primB p 0 = some 4 := by show (List.find? _ [4, 5]) = _; rw [List.find?_cons_of_pos (by exact iA)]
      rw [e]
      exact prim_0A m w hm hg pb p deep L h iA
    | false =>
      cases iB : p.is (tl { data := #[60] }) with
      | true =>
        have e : primB p 0 = some 5 := by show (List.find? _ [4, 5]) = _; rw [List.find?_cons_of_neg (by show ¬ p.is (tl { data := #[61, 61] }) = true; rw [iA]; decide), List.find?_cons_of_pos (by exact iB)]
        rw [e]
        exact prim_0B m w hm hg pb p deep L h iA iB
      | false =>
        have e : primB p 0 = none := by show (List.find? _ [4, 5]) = _; rw [List.find?_cons_of_neg (by show ¬ p.is (tl { data := #[61, 61] }) = true; rw [iA]; decide), List.find?_cons_of_neg (by show ¬ p.is (tl { data := #[60] }) = true; rw [iB]; decide)]; rfl
        rw [e]
        exact prim_0N m w hm hg pb p deep L h iA iB
  | 1, _ =>
    cases iA : p.is (tl { data := #[43] }) with
    | true =>
      have e : primB p 1 = some 0 := by show (List.find? _ [0, 1]) = _; rw [List.find?_cons_of_pos (by exact iA)]
      rw [e]
      exact prim_1A m w hm hg pb p deep L h iA
    | false =>
      cases iB : p.is (tl { data := #[45] }) with
      | true =>
        have e : primB p 1 = some 1 := by show (List.find? _ [0, 1]) = _; rw [List.find?_cons_of_neg (by show ¬ p.is (tl { data := #[43] }) = true; rw [iA]; decide), List.find?_cons_of_pos (by exact iB)]
        rw [e]
        exact prim_1B m w hm hg pb p deep L h iA iB
      | false =>
        have e : primB p 1 = none := by show (List.find? _ [0, 1]) = _; rw [List.find?_cons_of_neg (by show ¬ p.is (tl { data := #[43] }) = true; rw [iA]; decide), List.find?_cons_of_neg (by show ¬ p.is (tl { data := #[45] }) = true; rw [iB]; decide)]; rfl
        rw [e]
        exact prim_1N m w hm hg pb p deep L h iA iB
  | 2, _ =>
    cases iA : p.is (tl { data := #[42] }) with
    | true =>
      have e : primB p 2 = some 2 := by show (List.find? _ [2, 3]) = _; rw [List.find?_cons_of_pos (by exact iA)]
      rw [e]
      exact prim_2A m w hm hg pb p deep L h iA
    | false =>
      cases iB : p.is (tl { data := #[47] }) with
      | true =>
        have e : primB p 2 = some 3 := by show (List.find? _ [2, 3]) = _; rw [List.find?_cons_of_neg (by show ¬ p.is (tl { data := #[42] }) = true; rw [iA]; decide), List.find?_cons_of_pos (by exact iB)]
        rw [e]
        exact prim_2B m w hm hg pb p deep L h iA iB
      | false =>
        have e : primB p 2 = none := by show (List.find? _ [2, 3]) = _; rw [List.find?_cons_of_neg (by show ¬ p.is (tl { data := #[42] }) = true; rw [iA]; decide), List.find?_cons_of_neg (by show ¬ p.is (tl { data := #[47] }) = true; rw [iB]; decide)]; rfl
        rw [e]
        exact prim_2N m w hm hg pb p deep L h iA iB
end Go.Proofs.YtiflfnnnbgmomaaDoor
