/- The walks of slices.Clone at operations, nodes, texts. -/
import Derived.Test.YtiflfnnnbgmomaaDoorRowIs
import Derived.Test.YtiflfnnnbgmomaaDoorScopeB
namespace Go.Proofs.YtiflfnnnbgmomaaDoor
open Go.RowKit
set_option maxHeartbeats 1000000
set_option maxRecDepth 100000
theorem ndInfo : (Tryd.prog.info? 24).map (fun i => (i.zero, i.size, i.bytes)) = some (some (.agg #[.int .i64 0, .int .i64 0, .int .i64 0, .int .i64 0, .int .i64 0, .string ⟨#[]⟩, .string ⟨#[]⟩, .string ⟨#[]⟩, .string ⟨#[]⟩, .int .i64 0]), 10, 112) := by kernel_rfl
theorem opInfo : (Tryd.prog.info? 36).map (fun i => (i.zero, i.size, i.bytes)) = some (some (.agg #[.string ⟨#[]⟩, .int .i64 0, .int .i64 0]), 3, 32) := by kernel_rfl
theorem strInfo : (Tryd.prog.info? 9).map (fun i => (i.zero, i.size, i.bytes)) = some (some (.string ⟨#[]⟩), 1, 16) := by kernel_rfl
theorem one_nd (n : Nd) : ∀ u ∈ ndCells n, u.oneCell' = true := by intro u hu; simp [ndCells] at hu; rcases hu with rfl | rfl | rfl | rfl | rfl | rfl | rfl | rfl | rfl | rfl <;> rfl
theorem one_op (o : OpD) : ∀ u ∈ opCells o, u.oneCell' = true := by intro u hu; simp [opCells] at hu; rcases hu with rfl | rfl | rfl <;> rfl
theorem one_str (s : Bs) : ∀ u ∈ strCells s, u.oneCell' = true := by intro u hu; simp [strCells] at hu; rw [hu]; rfl
theorem one_flat {α : Type} {f : α → List Value} (h : ∀ x, ∀ u ∈ f x, u.oneCell' = true) (xs : List α) : ∀ u ∈ xs.flatMap f, u.oneCell' = true := by
  intro u hu
  obtain ⟨x, _, hx⟩ := List.mem_flatMap.1 hu
  exact h x u hx
theorem clone_ops (A : Option Addr) (c : Nat) (os : List OpD) (hlen : os.length ≤ 1000000) (w : World) (hA : OpsAt w w.heap.size A os) :
    Calls Tryd.prog 24 #[.slice A os.length c] w fun e w' => ∃ v, e = .returned v ∧ w'.ownsRow w.heap.size 36 3 v os.length (os.flatMap opCells) ∧ Below w.heap.size w w' := by
  obtain ⟨i0, hi0, hz0, hz1, hz2⟩ := info_parts opInfo
  have HR := Lib.hid (hA.row.reads (by omega) opCells_len)
  have he := fun (w : World) (a : Option Addr) (n c : Nat) => Lib.run_eql_slice_nil (P := Tryd.prog) w 29 36 a n c 0 0 Tryd.underlying29
  rcases A with _ | ad
  · have h0 : os = [] := by
      rcases Nat.eq_zero_or_pos os.length with h | h
      · exact List.length_eq_zero_iff.1 h
      · obtain ⟨b, off, e, _⟩ := hA h; cases e
    subst h0
    go_enter Tryd.func24, Tryd.ntmps24
    go_wp2_with fail
    go_ret
    exact ⟨_, rfl, World.ownsRow_nil _ _ _ _, Below.refl _ _⟩
  · go_enter Tryd.func24, Tryd.ntmps24
    have hown0 : (w.alloc (.cells #[] 36)).ownsRow w.heap.size 36 3 (.slice (some ⟨w.heap.size, 0, none⟩) 0 0) 0 [] :=
      World.ownsRow_lit (base := w.heap.size) (e := 36) (size := 3) w #[] 0 (Nat.le_refl _) (by simp [maxLen]) rfl
    have HR1 := Lib.hid (HR.out.alloc (Nat.le_refl _) (.cells #[] 36))
    have HO := Lib.hid hown0
    clear hown0
    go_wp2_with (at_builtin; refine wpList_append_any _ rfl (.tmp 5) (.tmp 6) _ rfl w.heap.size 36 i0 _ 3 32 Tryd.underlying29 hi0 hz0 hz1 hz2 rfl (by omega) _ 0 [] rfl HO.out _ _ os.length c _ rfl HR1.out ?c1 ?c2 ?c3 ?c4 ?_)
    case c1 => exact one_flat one_op os
    case c2 => simp only [maxLen]; omega
    case c3 => omega
    case c4 => simp
    · intro v1 w4 hown4 hg4 hat4
      have HO4 := Lib.hid hown4
      clear hown4 hat4
      go_wp2_with fail
      go_ret
      refine ⟨_, rfl, ?_, ((Below.refl _ _).alloc (Nat.le_refl _) _).grown hg4 (by simp) (fun k hk => by simp [Value.ownBlock] at hk; omega)⟩
      have := HO4.out
      simpa using this
theorem clone_nodes (A : Option Addr) (c : Nat) (os : List Nd) (hlen : os.length ≤ 1000000) (w : World) (hA : NodesAt w w.heap.size A os) :
    Calls Tryd.prog 25 #[.slice A os.length c] w fun e w' => ∃ v, e = .returned v ∧ w'.ownsRow w.heap.size 24 10 v os.length (os.flatMap ndCells) ∧ Below w.heap.size w w' := by
  obtain ⟨i0, hi0, hz0, hz1, hz2⟩ := info_parts ndInfo
  have HR := Lib.hid (hA.row.reads (by omega) ndCells_len)
  have he := fun (w : World) (a : Option Addr) (n c : Nat) => Lib.run_eql_slice_nil (P := Tryd.prog) w 25 24 a n c 0 0 Tryd.underlying25
  rcases A with _ | ad
  · have h0 : os = [] := by
      rcases Nat.eq_zero_or_pos os.length with h | h
      · exact List.length_eq_zero_iff.1 h
      · obtain ⟨b, off, e, _⟩ := hA h; cases e
    subst h0
    go_enter Tryd.func25, Tryd.ntmps25
    go_wp2_with fail
    go_ret
    exact ⟨_, rfl, World.ownsRow_nil _ _ _ _, Below.refl _ _⟩
  · go_enter Tryd.func25, Tryd.ntmps25
    have hown0 : (w.alloc (.cells #[] 24)).ownsRow w.heap.size 24 10 (.slice (some ⟨w.heap.size, 0, none⟩) 0 0) 0 [] :=
      World.ownsRow_lit (base := w.heap.size) (e := 24) (size := 10) w #[] 0 (Nat.le_refl _) (by simp [maxLen]) rfl
    have HR1 := Lib.hid (HR.out.alloc (Nat.le_refl _) (.cells #[] 24))
    have HO := Lib.hid hown0
    clear hown0
    go_wp2_with (at_builtin; refine wpList_append_any _ rfl (.tmp 5) (.tmp 6) _ rfl w.heap.size 24 i0 _ 10 112 Tryd.underlying25 hi0 hz0 hz1 hz2 rfl (by omega) _ 0 [] rfl HO.out _ _ os.length c _ rfl HR1.out ?c1 ?c2 ?c3 ?c4 ?_)
    case c1 => exact one_flat one_nd os
    case c2 => simp only [maxLen]; omega
    case c3 => omega
    case c4 => simp
    · intro v1 w4 hown4 hg4 hat4
      have HO4 := Lib.hid hown4
      clear hown4 hat4
      go_wp2_with fail
      go_ret
      refine ⟨_, rfl, ?_, ((Below.refl _ _).alloc (Nat.le_refl _) _).grown hg4 (by simp) (fun k hk => by simp [Value.ownBlock] at hk; omega)⟩
      have := HO4.out
      simpa using this
theorem clone_strs (A : Option Addr) (c : Nat) (os : List Bs) (hlen : os.length ≤ 1000000) (w : World) (hA : StrsAt w w.heap.size A os) :
    Calls Tryd.prog 45 #[.slice A os.length c] w fun e w' => ∃ v, e = .returned v ∧ w'.ownsRow w.heap.size 9 1 v os.length (os.flatMap strCells) ∧ Below w.heap.size w w' := by
  obtain ⟨i0, hi0, hz0, hz1, hz2⟩ := info_parts strInfo
  have HR := Lib.hid (hA.reads (by omega) strCells_len)
  have he := fun (w : World) (a : Option Addr) (n c : Nat) => Lib.run_eql_slice_nil (P := Tryd.prog) w 45 9 a n c 0 0 Tryd.underlying45
  rcases A with _ | ad
  · have h0 : os = [] := by
      rcases Nat.eq_zero_or_pos os.length with h | h
      · exact List.length_eq_zero_iff.1 h
      · obtain ⟨b, off, e, _⟩ := hA h; cases e
    subst h0
    go_enter Tryd.func45, Tryd.ntmps45
    go_wp2_with fail
    go_ret
    exact ⟨_, rfl, World.ownsRow_nil _ _ _ _, Below.refl _ _⟩
  · go_enter Tryd.func45, Tryd.ntmps45
    have hown0 : (w.alloc (.cells #[] 9)).ownsRow w.heap.size 9 1 (.slice (some ⟨w.heap.size, 0, none⟩) 0 0) 0 [] :=
      World.ownsRow_lit (base := w.heap.size) (e := 9) (size := 1) w #[] 0 (Nat.le_refl _) (by simp [maxLen]) rfl
    have HR1 := Lib.hid (HR.out.alloc (Nat.le_refl _) (.cells #[] 9))
    have HO := Lib.hid hown0
    clear hown0
    go_wp2_with (at_builtin; refine wpList_append_any _ rfl (.tmp 5) (.tmp 6) _ rfl w.heap.size 9 i0 _ 1 16 Tryd.underlying45 hi0 hz0 hz1 hz2 rfl (by omega) _ 0 [] rfl HO.out _ _ os.length c _ rfl HR1.out ?c1 ?c2 ?c3 ?c4 ?_)
    case c1 => exact one_flat one_str os
    case c2 => simp only [maxLen]; omega
    case c3 => omega
    case c4 => simp
    · intro v1 w4 hown4 hg4 hat4
      have HO4 := Lib.hid hown4
      clear hown4 hat4
      go_wp2_with fail
      go_ret
      refine ⟨_, rfl, ?_, ((Below.refl _ _).alloc (Nat.le_refl _) _).grown hg4 (by simp) (fun k hk => by simp [Value.ownBlock] at hk; omega)⟩
      have := HO4.out
      simpa using this
end Go.Proofs.YtiflfnnnbgmomaaDoor
