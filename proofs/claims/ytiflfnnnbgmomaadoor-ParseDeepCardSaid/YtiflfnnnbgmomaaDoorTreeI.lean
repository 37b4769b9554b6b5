/- The walks of tree.OpsMay, May. -/
import Derived.Test.YtiflfnnnbgmomaaDoorTreeH
namespace Go.Proofs.YtiflfnnnbgmomaaDoor
set_option linter.unusedVariables false
set_option linter.unusedSimpArgs false
open Go.RowKit
set_option maxHeartbeats 1000000
set_option maxRecDepth 100000

abbrev opV (o : OpD) : Value := .agg #[.string (ba o.name), .int .i64 o.src, .int .i64 o.dst]
/-- three cells are an operation -/
def Cells3 (w : World) (b p : Nat) (o : OpD) : Prop :=
  w.cell? ⟨b, p, none⟩ = some (.string (ba o.name)) ∧ w.cell? ⟨b, p + 1, none⟩ = some (.int .i64 o.src) ∧ w.cell? ⟨b, p + 2, none⟩ = some (.int .i64 o.dst)
/-- a slice that reads as operations, below a block -/
def OpsAt (w : World) (B : Nat) (A : Option Addr) (os : List OpD) : Prop :=
  0 < os.length → ∃ b off, A = some ⟨b, off, none⟩ ∧ b < B ∧ ∀ i (h : i < os.length), Cells3 w b (off + i * 3) os[i]
theorem OpsAt.keep {w w' : World} {B : Nat} {A : Option Addr} {os : List OpD} (h : OpsAt w B A os) (hk : ∀ p : Addr, p.block < B → w'.cell? p = w.cell? p) : OpsAt w' B A os := fun h0 => by
  obtain ⟨b, off, e, hb, hc⟩ := h h0
  refine ⟨b, off, e, hb, fun i hi => ?_⟩
  have := hc i hi
  unfold Cells3 at this ⊢
  simp only [hk ⟨b, _, none⟩ hb]
  exact this
theorem OpsAt.more {w : World} {B B' : Nat} {A : Option Addr} {os : List OpD} (h : OpsAt w B A os) (hB : B ≤ B') : OpsAt w B' A os := fun h0 => by
  obtain ⟨b, off, e, hb, hc⟩ := h h0
  exact ⟨b, off, e, by omega, hc⟩
theorem OpsAt.below {w w' : World} {A : Option Addr} {os : List OpD} (h : OpsAt w w.heap.size A os) (hb : Below w.heap.size w w') : OpsAt w' w'.heap.size A os :=
  (h.keep fun _ hp => hb.cell hp).more hb.size
theorem OpsAt.at_ {w : World} {b off : Nat} {os : List OpD} {c : Nat} (hc : ∀ i (h : i < os.length), Cells3 w b (off + i * 3) os[i]) {w' : World} {B : Nat} (hB : Below B w w') (hb : b < B) (i : Nat) (h : i < os.length) (hcc : c = c) : Cells3 w' b (off + i * 3) os[i] := by
  have := hc i h
  unfold Cells3 at this ⊢
  simp only [hB.cell (p := ⟨b, _, none⟩) hb]
  exact this

theorem opBad_any (o : OpD) (hok : o.name.length ≤ maxLen) (w : World) (hg : G w) :
    Calls Tryd.prog 61 #[opV o] w fun e w' => e = .returned (.bool (opBad o)) ∧ Below w.heap.size w w' := by
  have hs : (ba o.name).size ≤ maxLen := by rw [ba_size]; exact hok
  have hb1 : Below w.heap.size w (w.alloc (.cells #[.string (ba o.name), .int .i64 o.src, .int .i64 o.dst] 36)) := (Below.refl _ _).alloc (Nat.le_refl _) _
  have B1 := Blk.new w 36 #[.string (ba o.name), .int .i64 o.src, .int .i64 o.dst]
  have hg1 := hg.below hb1
  cases hn : nameMay o.name
  all_goals have HN := Lib.hid hn
  all_goals clear hn
  · have HF := Lib.hid (show opBad o = true by unfold opBad; rw [HN.out]; rfl)
    go_enter Tryd.func61, Tryd.ntmps61
    go_wp2_with (go_at_call 62; refine (nameMay_any _ hs _ hg1).mono ?_; rintro e w3 ⟨rfl, hb3⟩; rw [tl_ba, HN.out])
    go_ret
    exact ⟨ret_bool HF.out.symm, hb1.trans (hb3.mono (by simp))⟩
  · cases h1 : baseB o.src
    all_goals cases h2 : baseB o.dst
    all_goals have H1 := Lib.hid h1
    all_goals have H2 := Lib.hid h2
    all_goals clear h1 h2
    all_goals
      have HF := Lib.hid (show opBad o = (!baseB o.src || !baseB o.dst) by unfold opBad; rw [HN.out]; rfl)
      rw [H1.out, H2.out] at HF
      go_enter Tryd.func61, Tryd.ntmps61
      go_wp2_with (first
        | (go_at_call 62; refine (nameMay_any _ hs _ hg1).mono ?_; rintro e w3 ⟨rfl, hb3⟩; rw [tl_ba, HN.out]
           obtain ⟨c0, c1, c2, hf⟩ := (B1.below hb3 B1.lt).c3)
        | (go_at_call 63; refine (base_any _ _).mono ?_; rintro e w4 ⟨rfl, hw4⟩; obtain rfl := hw4; first | rw [H1.out] | rw [H2.out]))
      go_ret
      exact ⟨ret_bool HF.out.symm, hb1.trans (hb3.mono (by simp))⟩
end Go.Proofs.YtiflfnnnbgmomaaDoor
