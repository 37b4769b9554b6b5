/- The walk of resolver.node: nodes of kind 10. -/
import Derived.Test.YtiflfnnnbgmomaaDoorScopeG
import Derived.Deep.RegionWith
namespace Go.Proofs.YtiflfnnnbgmomaaDoor
open Go.RowKit
set_option maxHeartbeats 2000000
set_option maxRecDepth 100000

theorem node_k10 (os : List OpD) (A : Option Addr) (c rb nb cn : Nat) (hol : os.length ≤ maxLen) (hrn : nb < rb) (f : Nat) (ih : NodeLaw os A c rb nb cn f) (ns : List Nd) (a : Nat) (env : List Bs) (E : Option Addr) (ce : Nat) (w : World)
    (hF : Fits ns (f + 1) a) (hnl : ns.length ≤ 1000000) (hel : env.length + 2 * (f + 1) ≤ 1000000) (hR : Blk w rb 54 #[.slice A os.length c, .slice (some ⟨nb, 0, none⟩) ns.length cn]) (hN : NRow w nb ns) (hO : OpsAt w nb A os)
    (hE : StrsAt w w.heap.size E env) (hEn : ∀ p, E = some p → p.block ≠ nb) (x : Nd) (hxx : ns.getD a default = x) (hkind : x.kind = 10) :
    Calls Tryd.prog 27 #[.pointer (some ⟨rb, 0, none⟩), .int .i64 a, .slice E env.length ce] w (NodePost os (f + 1) nb ns a env w) := by
  unfold NodeLaw at ih
  obtain ⟨ha0, ha1, hkids⟩ := hF
  rw [Int.toNat_natCast] at hkids
  have ha : a < ns.length := by omega
  have hx : ns[a] = x := by rw [← hxx, List.getD_eq_getElem?_getD, List.getElem?_eq_getElem ha]; rfl
  have hgd := hxx
  clear hxx
  have hsucc := resB_succ os f ns (a : Int) env
  rw [Int.toNat_natCast, hgd] at hsucc
  rw [hgd] at hkids
  have HS := Lib.hid hsucc
  have HK := Lib.hid hkids
  have HX := Lib.hid hx
  have hcell := fun r u (h : (ndCells x)[r]? = some u) => hN.cell a ha r u (by rw [hx]; exact h)
  have c0 : w.cell? ⟨nb, a * 10, none⟩ = some (.int .i64 x.kind) := hcell 0 _ rfl
  have c1 : w.cell? ⟨nb, a * 10 + 1, none⟩ = some (.int .i64 x.a) := hcell 1 _ rfl
  have c2 : w.cell? ⟨nb, a * 10 + 2, none⟩ = some (.int .i64 x.b) := hcell 2 _ rfl
  have c3 : w.cell? ⟨nb, a * 10 + 3, none⟩ = some (.int .i64 x.c) := hcell 3 _ rfl
  have c4 : w.cell? ⟨nb, a * 10 + 4, none⟩ = some (.int .i64 x.num) := hcell 4 _ rfl
  have c5 : w.cell? ⟨nb, a * 10 + 5, none⟩ = some (.string (ba x.name)) := hcell 5 _ rfl
  have c6 : w.cell? ⟨nb, a * 10 + 6, none⟩ = some (.string (ba x.x)) := hcell 6 _ rfl
  have c7 : w.cell? ⟨nb, a * 10 + 7, none⟩ = some (.string (ba x.y)) := hcell 7 _ rfl
  have c8 : w.cell? ⟨nb, a * 10 + 8, none⟩ = some (.string (ba x.z)) := hcell 8 _ rfl
  have c9 : w.cell? ⟨nb, a * 10 + 9, none⟩ = some (.int .i64 x.pos) := hcell 9 _ rfl
  have hfz := hN.frozen
  obtain ⟨r0, r1, _⟩ := hR.c2
  have hlt := hR.lt
  have hltn := hN.lt
  clear hsucc hkids hgd hx hcell
  have hne : w.heap.size ≠ nb := by omega
  have hne2 : nb ≠ w.heap.size := by omega
  obtain ⟨W1, hW1⟩ : ∃ W1, W1 = (((((w.setCell ⟨nb, a * 10 + 5, none⟩ (.string { data := #[] })).setCell ⟨nb, a * 10 + 6, none⟩ (.string { data := #[] })).setCell ⟨nb, a * 10 + 7, none⟩ (.string { data := #[] })).setCell ⟨nb, a * 10 + 8, none⟩ (.string { data := #[] })).alloc (.cells #[.int .i64 x.kind, .int .i64 x.a, .int .i64 x.b, .int .i64 x.c, .int .i64 x.num, .string (ba x.name), .string (ba x.x), .string (ba x.y), .string (ba x.z), .int .i64 x.pos] 24)) := ⟨_, rfl⟩
  have M1 : Mid w nb x (ns.set a x.bald) W1 := by rw [hW1]; exact mid_start hN ha HX.out
  have hE1 : StrsAt W1 W1.heap.size E env := StrsAt.own hE M1.own hEn
  have HRR : ∀ W, w.grownBy W (some nb) → Blk W rb 54 #[.slice A os.length c, .slice (some ⟨nb, 0, none⟩) ns.length cn] := fun W h => hR.grown h (by simp; omega)
  have HON : ∀ W, w.grownBy W (some nb) → OpsAt W nb A os := fun W h => hO.keep fun p hp => grown_cell h (by omega) (by simp; omega)
  have HOO : ∀ W, w.grownBy W (some nb) → OpsAt W W.heap.size A os := fun W h => (hO.keep fun p hp => grown_cell h (by omega) (by simp; omega)).more (Nat.le_trans (Nat.le_of_lt hltn) h.size)
  have HEE : ∀ W, w.grownBy W (some nb) → StrsAt W W.heap.size E env := fun W h => StrsAt.own hE h hEn
  have HM1 := Lib.hid M1
  have HE1 := Lib.hid hE1
  have IH := Lib.hid ih
  have HSZ : w.heap.size ≤ W1.heap.size := M1.own.size
  clear hN hE1 M1 hR hO hE ih HSZ
  have IX : ∀ (W : World) (A : Option Addr) (c : Nat), StrsAt W W.heap.size A env.reverse → Calls Tryd.prog 47 #[.slice A env.length c, .string (ba x.name)] W fun e w' => e = .returned (.int .i64 (idxS env.reverse x.name)) ∧ w' = W := fun W A c h => by
    have := index_strs A c env.reverse x.name (by rw [List.length_reverse]; omega) W h
    rwa [List.length_reverse] at this
  have HFIN : ∀ num, SameKids ns (ns.set a { x.bald with num := num }) := fun num => by
    refine SameKids.set ns a _ ?_
    rw [List.getD_eq_getElem?_getD, List.getElem?_eq_getElem ha, HX.out]; rfl
  obtain ⟨num, hnum⟩ : ∃ num, idxO os x.name = num := ⟨_, rfl⟩
  have k0 : (x.kind == 0) = false := by rw [hkind]; rfl
  have k9 : (x.kind == 9) = false := by rw [hkind]; rfl
  have k10 : (x.kind == 10) = true := by rw [hkind]; rfl
  obtain ⟨ns1, hns1⟩ : ∃ ns1, ns.set a { x.bald with num := num } = ns1 := ⟨_, rfl⟩
  have hr : resB os (f + 1) ns (a : Int) env = resRest os f env x num ns1 := by
    rw [HS.out, show resNum os env x = num by unfold resNum; rw [if_neg (by omega), if_pos (by omega), hnum], hns1]
  have HNM : ∀ W, Mid w nb x (ns.set a x.bald) W → Mid w nb x ns1 (W.setCell ⟨nb, a * 10 + 4, none⟩ (.int .i64 num)) := fun W h => hns1 ▸ h.num ha hne num
  have HSM := HFIN num
  rw [hns1] at HSM
  have HSM := Lib.hid HSM
  have HNUM := Lib.hid hnum
  have HR0 := Lib.hid (HRR W1 HM1.out.own).c2.1
  have HRL := Lib.hid (HRR W1 HM1.out.own).lt
  have HO1 := Lib.hid (HOO W1 HM1.out.own)
  by_cases hneg : num < 0
  · have HT := Lib.hid (show resB os (f + 1) ns (a : Int) env = (ns1, some (x.pos, 602)) by rw [hr, resRest, if_neg (by omega), if_pos ⟨by omega, hneg⟩])
    clear hkind hr hnum hns1
    subst hW1
    go_enter Tryd.func27, Tryd.ntmps27
    go_wp2_with (first
      | (go_at_call 48; refine (op_any rb A c os x.name hol _ HR0.out HRL.out HO1.out).mono ?_; rw [HNUM.out]; rintro e w5 ⟨rfl, hb5⟩
         have M4 := HM1.out.below hb5
         obtain ⟨d0, d1, d2, d3, d4, d5, d6, d7, d8, d9, _⟩ := nd10 M4.cpy
         have hz := M4.row.frozen
         have hz4 := M4.row.cell a (by simpa using ha) 4 _ rfl
         clear hb5))
    go_ret
    have M6 := HNM _ M4
    exact ⟨.iface 91 (.pointer (some ⟨w5.heap.size, 0, none⟩)), rfl, err_new HT.out M6 (by simp), row_new HT.out M6, only_alloc M6.own _⟩
  · have HT := Lib.hid (show resB os (f + 1) ns (a : Int) env = resKids (resB os f) x env 0 (x.kids.drop 0) ns1 by rw [hr, resRest, if_neg (by omega), if_neg (fun h => hneg h.2)]; rfl)
    clear hkind hr hnum hns1
    subst hW1
    go_enter Tryd.func27, Tryd.ntmps27
    go_wp2_with (first
      | (go_at_call 48; refine (op_any rb A c os x.name hol _ HR0.out HRL.out HO1.out).mono ?_; rw [HNUM.out]; rintro e w5 ⟨rfl, hb5⟩
         have M4 := HM1.out.below hb5
         obtain ⟨d0, d1, d2, d3, d4, d5, d6, d7, d8, d9, _⟩ := nd10 M4.cpy
         have hz := M4.row.frozen
         have hz4 := M4.row.cell a (by simpa using ha) 4 _ rfl
         clear hb5))
    have M6 := HNM _ M4
    have HM6 := Lib.hid M6
    refine (kids_row x.kind _ _ (nd10 M6.cpy).1).mono ?_
    rintro e w7 ⟨A7, rfl, hrow7, hb7⟩
    have M7 := M6.below hb7
    have hrow8 : RowAt w7 (w.heap.size + 1) 104 A7 w.heap.size (kidOffs x.kind) := RowAt.le hrow7 M6.cpy.lt
    clear M4 M6 hb7 hrow7
    have HM7 := Lib.hid M7
    have HR7 := Lib.hid hrow8
    have HL := Lib.hid (kidOffs_len x)
    clear M7 hrow8
    go_wp2_with fail
    go_loopw [10, 11, 12, 87] (fun _ _ _ i wr => ∃ (k : Nat) (ns2 : List Nd), k ≤ (kidOffs x.kind).length ∧ i = .int .i64 k ∧ SameKids ns ns2 ∧ resB os (f + 1) ns a env = resKids (resB os f) x env k (x.kids.drop k) ns2 ∧ Mid w nb x ns2 wr ∧ RowAt wr (w.heap.size + 1) 104 A7 w.heap.size (kidOffs x.kind)) (fun _ _ _ i _ => (kidOffs x.kind).length - (intOf i).toNat)
    case atStart => exact ⟨0, ns1, Nat.zero_le _, rfl, HSM.out, HT.out, HM7.out, HR7.out⟩
    case round =>
      obtain ⟨k, ns2, hk, rfl, hsm, hr, hM, hrow⟩ := hrel
      have HR := Lib.hid hr
      have HM := Lib.hid hM
      have HSM2 := Lib.hid hsm
      clear hr hM hsm
      by_cases hlt : k < (kidOffs x.kind).length
      · have hlk : k < x.kids.length := by rw [← HL.out]; exact hlt
        obtain ⟨g, rfl, hg, hG⟩ := hrow (Nat.lt_of_le_of_lt (Nat.zero_le _) hlt)
        have p1 := (hG.cell k).trans (ptrs_at _ _ k hlt)
        have p2 := (HM.out.cpy.cell _).trans (kid_at0 x k hlt hlk)
        obtain ⟨o, ho⟩ : ∃ o, (kidOffs x.kind)[k] = o := ⟨_, rfl⟩
        rw [ho] at p1 p2
        have HFK := HSM2.out.fits f _ (HK.out x.kids[k] (List.getElem_mem hlk))
        have hdr := List.drop_eq_getElem_cons hlk
        obtain ⟨kv, hkv⟩ : ∃ kv, x.kids[k] = kv := ⟨_, rfl⟩
        rw [hkv] at p2 HFK hdr
        obtain ⟨m, rfl⟩ : ∃ m : Nat, kv = (m : Int) := ⟨kv.toNat, by cases f with | zero => exact HFK.elim | succ f => have := HFK.1; omega⟩
        have HFM := Lib.hid HFK
        have HDR := Lib.hid hdr
        have hk2 : k ≤ 2 := by have := kidOffs_le x.kind; omega
        have HGG := Lib.hid hG
        have htb : w.heap.size < wr.heap.size := HM.out.cpy.lt
        clear ho hkv HFK hdr hG hrow hlk
        go_wp2_with fail
        obtain ⟨env2, henv⟩ : ∃ l, env ++ boundB x k = l := ⟨_, rfl⟩
        obtain ⟨⟨ns3, o3⟩, hres⟩ : ∃ r, resB os f ns2 m env2 = r := ⟨_, rfl⟩
        have hsm3 := resB_same os f ns2 m env2
        rw [hres] at hsm3
        have HSM3 := Lib.hid (HSM2.out.trans hsm3)
        have HRES := Lib.hid hres
        have HLB := Lib.hid (show env.length + (boundB x k).length ≤ 1000000 by have := boundB_len x k; omega)
        have HLB2 := Lib.hid (show env2.length + 2 * f ≤ 1000000 by have := boundB_len x k; rw [← henv, List.length_append]; omega)
        have HENV := Lib.hid henv
        clear hres hsm3 henv
        cases o3 with
        | none =>
          have HF := Lib.hid (show resB os (f + 1) ns a env = resKids (resB os f) x env (k + 1) (x.kids.drop (k + 1)) ns3 by
            rw [HR.out, HDR.out, resKids, HENV.out, HRES.out])
          go_region_with (first
            | (go_at_call 51; refine (bound_any x k hk2 w.heap.size wr.drew HM.out.drew.cpy).mono ?_; rintro e w5 ⟨A5, cap5, rfl, hS5, hb5⟩
               have M5 := HM.out.drew.below hb5
               have q5 := (hb5.cell (p := ⟨w.heap.size, o, none⟩) htb).trans p2
               have htb5 : w.heap.size < w5.heap.size := M5.cpy.lt
               have C5 := concat_any E A5 ce cap5 env (boundB x k) w5.heap.size 2 (w5.alloc (.cells #[.slice E env.length ce, .slice A5 (boundB x k).length cap5] 45)) HLB.out (Blk.new w5 _ _) ((HEE w5 M5.own).below ((Below.refl _ _).alloc (Nat.le_refl _) _)) (hS5.below ((Below.refl _ _).alloc (Nat.le_refl _) _))
               rw [HENV.out] at C5)
            | (go_at_call 50; refine C5.mono ?_; rintro e w6 ⟨A6, cap6, rfl, hS6, hA6, hb6⟩
               have M6 := M5.below (after_alloc hb6)
               have q6 := ((after_alloc hb6).cell (p := ⟨w.heap.size, o, none⟩) htb5).trans q5
               have htb6 : w.heap.size < w6.heap.size := M6.cpy.lt
               have N6 := IH.out ns2 m env2 A6 cap6 w6 HFM.out (by rw [HSM2.out.1]; exact hnl) HLB2.out (by rw [HSM2.out.1]; exact HRR w6 M6.own) M6.row (HON w6 M6.own) hS6 (fun p hp => ne_of_alloc (hA6 p hp) M5.row.lt))
            | (go_at_call 27; refine N6.mono ?_; rintro e w8 ⟨v8, rfl, he8, hrow8, hg8⟩
               rw [HRES.out] at he8 hrow8
               obtain rfl := he8))
          all_goals
            go_wp2_with fail
            go_roundw
            case rel => exact ⟨k + 1, ns3, by omega, by go_num, HSM3.out, HF.out, M6.called hrow8 hg8 hne, fun _ => ⟨g, rfl, hg, ((HGG.out.drew.below hb5 HGG.out.lt).below (after_alloc hb6) (HGG.out.drew.below hb5 HGG.out.lt).lt).grown hg8 (by simp; omega)⟩⟩
            case measure => simp [intOf]; omega
        | some e3 =>
          obtain ⟨ep, en⟩ := e3
          have HF := Lib.hid (show resB os (f + 1) ns a env = (ns3, some (ep, en)) by
            rw [HR.out, HDR.out, resKids, HENV.out, HRES.out])
          go_region_with (first
            | (go_at_call 51; refine (bound_any x k hk2 w.heap.size wr.drew HM.out.drew.cpy).mono ?_; rintro e w5 ⟨A5, cap5, rfl, hS5, hb5⟩
               have M5 := HM.out.drew.below hb5
               have q5 := (hb5.cell (p := ⟨w.heap.size, o, none⟩) htb).trans p2
               have htb5 : w.heap.size < w5.heap.size := M5.cpy.lt
               have C5 := concat_any E A5 ce cap5 env (boundB x k) w5.heap.size 2 (w5.alloc (.cells #[.slice E env.length ce, .slice A5 (boundB x k).length cap5] 45)) HLB.out (Blk.new w5 _ _) ((HEE w5 M5.own).below ((Below.refl _ _).alloc (Nat.le_refl _) _)) (hS5.below ((Below.refl _ _).alloc (Nat.le_refl _) _))
               rw [HENV.out] at C5)
            | (go_at_call 50; refine C5.mono ?_; rintro e w6 ⟨A6, cap6, rfl, hS6, hA6, hb6⟩
               have M6 := M5.below (after_alloc hb6)
               have q6 := ((after_alloc hb6).cell (p := ⟨w.heap.size, o, none⟩) htb5).trans q5
               have htb6 : w.heap.size < w6.heap.size := M6.cpy.lt
               have N6 := IH.out ns2 m env2 A6 cap6 w6 HFM.out (by rw [HSM2.out.1]; exact hnl) HLB2.out (by rw [HSM2.out.1]; exact HRR w6 M6.own) M6.row (HON w6 M6.own) hS6 (fun p hp => ne_of_alloc (hA6 p hp) M5.row.lt))
            | (go_at_call 27; refine N6.mono ?_; rintro e w8 ⟨v8, rfl, he8, hrow8, hg8⟩
               rw [HRES.out] at he8 hrow8
               obtain ⟨g8, rfl, hg8a, hB8⟩ := he8))
          all_goals
            go_wp2_with fail
            go_ret
            exact ⟨_, rfl, by rw [HF.out]; exact ⟨g8, rfl, hg8a, hB8⟩, by rw [HF.out]; exact hrow8, (M6.called hrow8 hg8 hne).own⟩
      · have HF := Lib.hid (show resB os (f + 1) ns a env = (ns2, none) by
          rw [HR.out, List.drop_of_length_le (by rw [← HL.out]; omega)]; rfl)
        go_wp2_with fail
        go_ret
        exact ⟨.nilIface, rfl, by rw [HF.out]; rfl, by rw [HF.out]; exact HM.out.row, HM.out.own⟩
end Go.Proofs.YtiflfnnnbgmomaaDoor
