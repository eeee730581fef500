/- What the claim leans on: LvG. -/
import Derived.Test.YtppefchjoodgnaaGreatPL32
import Derived.Test.YtppefchjoodgnaaGreatPL31
import Derived.Deep.LoopGhost
import Derived.Deep.CutBlock
import Derived.BigRegion
import Derived.Test.YtppefchjoodgnaaGreatPL36
namespace Go.Proofs.YtppefchjoodgnaaGreat
open Go.RowKit
set_option linter.unusedVariables false
set_option linter.unusedSimpArgs false
def OwnN (xs : List Nat) (w : World) (e : Ending) (w' : World) : Prop := ∃ v, e = .returned v ∧ Own w' w.heap.size 51 1 encN v xs ∧ Ext w w'
theorem liveB_lt {L : List Ins} {i x : Nat} (h : (liveB L)[i]? = some x) : x < 65536 := by
 unfold liveB at h
 split at h
 ·obtain ⟨k, _, rfl⟩ := List.mem_map.1 (List.mem_of_getElem? h)
  exact bitsOf_lt _
 ·simp at h
theorem liveA_length {L : List Ins} (hp : progS L = true) : (liveA L).length = L.length := by unfold liveA; rw [hp]; simp
theorem liveB_length {L : List Ins} (hp : progS L = true) : (liveB L).length = L.length := by unfold liveB; rw [hp]; simp
end Go.Proofs.YtppefchjoodgnaaGreat
namespace Go.Proofs.YtppefchjoodgnaaGreat
open Go.RowKit
set_option linter.unusedVariables false
set_option linter.unusedSimpArgs false
set_option maxRecDepth 20000 in
theorem l_Ahead (v : Value) (L : List Ins) (w : World) (h : Rd w 5 Ins.enc v L) (hl : L.length ≤ 1000000) (hok : InsOk L) : Calls Tryz.prog 13 #[v] w (OwnN (liveA L) w) := by
 have HD := η h
 have HOK := η hok
 have HL := η hl
 clear h hok hl
 go_enter Tryz.func13, Tryz.ntmps13
 go_wp2_with fail
 refine (l_both _ L _ HD.out HL.out HOK.out).mono ?_
 rintro e w5 ⟨va, vb, rfl, hA, hB, hE⟩
 have H := η (And.intro hA hE)
 clear hA hB hE
 go_wp2_with fail
 go_returns
 exact ⟨_, rfl, H.out.1, H.out.2⟩
set_option maxRecDepth 20000 in
theorem l_Behind (v : Value) (L : List Ins) (w : World) (h : Rd w 5 Ins.enc v L) (hl : L.length ≤ 1000000) (hok : InsOk L) : Calls Tryz.prog 18 #[v] w (OwnN (liveB L) w) := by
 have HD := η h
 have HOK := η hok
 have HL := η hl
 clear h hok hl
 go_enter Tryz.func18, Tryz.ntmps18
 go_wp2_with fail
 refine (l_both _ L _ HD.out HL.out HOK.out).mono ?_
 rintro e w5 ⟨va, vb, rfl, hA, hB, hE⟩
 have H := η (And.intro hB hE)
 clear hA hB hE
 go_wp2_with fail
 go_returns
 exact ⟨_, rfl, H.out.1, H.out.2⟩
noncomputable def idleK (L : List Ins) (k : Nat) : Bool := match L[k]? with
 | some x => ((whatZ x).kind != 11) && ((wrN L k != 0) && (wrN L k &&& (liveB L).getD k 0 == 0))
 | none => false
noncomputable def idleL (L : List Ins) : List Bool := (List.range (liveB L).length).map (idleK L)
theorem and_u16 {a b : Nat} (ha : a < 65536) (hb : b < 65536) : bits .and .u16 (a : Int) (b : Int) = ((a &&& b : Nat) : Int) := by
 have := u16_and (a : Int) (b : Int) (by omega) (by omega) (by omega) (by omega)
 simpa using this
theorem liveB_in {L : List Ins} {k : Nat} (h : k < (liveB L).length) : k < L.length := by
 unfold liveB at h
 split at h
 ·simpa using h
 ·simp at h
theorem idle_at {L : List Ins} {k : Nat} {x : Ins} {b : Nat} (hx : L[k]? = some x) (hb : (liveB L)[k]? = some b) : idleK L k = (((whatZ x).kind != 11) && ((wrN L k != 0) && (wrN L k &&& b == 0))) := by
 unfold idleK
 rw [hx]
 simp only [List.getD_eq_getElem?_getD, hb, Option.getD_some]
theorem nat_beq (a : Nat) : ((a : Int) == 0) = (a == 0) := by
 cases a with
 | zero => rfl
 | succ a => rfl
theorem nat_bne (a : Nat) : ((a : Int) != 0) = (a != 0) := by
 unfold bne; rw [nat_beq]
set_option maxRecDepth 20000 in
set_option maxHeartbeats 2000000 in
theorem l_Idle (v : Value) (L : List Ins) (w : World) (h : Rd w 5 Ins.enc v L) (hl : L.length ≤ 1000000) (hok : InsOk L) : Calls Tryz.prog 16 #[v] w (OwnB (idleL L) w) := by
 obtain ⟨pa, n, pc, rfl, hpn, hPN⟩ := h.val
 have hk2 : n ≤ 1000000 := by rw [hPN.out]; exact hl
 have HD := η h
 have HOK := η hok
 have HL := η hl
 have HN := η hPN.out
 clear h hok hl
 go_enter Tryz.func16, Tryz.ntmps16
 go_wp2_with fail
 refine (l_both _ L _ HD.out HL.out HOK.out).mono ?_
 rintro e w5 ⟨va, vb, rfl, hA, hB, hE⟩
 obtain ⟨xa, xn, xc, hxv, hxn, hXN⟩ := (hB.rd enc_nat).val
 subst hxv
 have hxl : xn ≤ n := by
  rw [hXN.out, HN.out]
  rcases Nat.lt_or_ge L.length (liveB L).length with h1 | h1
  ·have := liveB_in h1; omega
  ·exact h1
 have HO := η hB
 have HE := η hE
 have hmk := run_make_bool xn (by omega)
 clear hA hB hE
 go_upto_region 2 with fail
 go_cut [5] from 15 to 18 (fun v5 wx => ∃ g, v5 = .slice (some ⟨g, 0, none⟩) xn xn ∧ Hid (Own wx w5.heap.size 4 1 encBo v5 (List.replicate xn false) ∧ Ext w5 wx))
 case first =>
  go_wp2_with fail
  go_meet
  exact ⟨_, rfl, η ⟨own_made_bool _ _ (by omega) _ (Nat.le_refl _), by (repeat (first|exact xE0 _|assumption|refine xE1 ?_ _|refine xE2 ?_|refine xE3 ?_ _|refine xE4 ?_ (by assumption)))⟩⟩
 case rest =>
  obtain ⟨g, rfl, HI⟩ := hcut
  have HO5 := η HI.out.1
  have HX5 := η HI.out.2
  clear HI hmk
  go_wp2_with fail
  go_loopw [20] (fun q wr => ∃ k : Nat, k ≤ xn ∧ q = .int .i64 k ∧ Hid (∃ M, Own wr w5.heap.size 4 1 encBo (.slice (some ⟨g, 0, none⟩) xn xn) M ∧ Ext w5 wr ∧ M.length = xn ∧ ∀ i, i < k → M[i]? = some (idleK L i))) (fun q _ => xn - (intOf q).toNat)
  case atStart => exact ⟨0, Nat.zero_le _, rfl, η ⟨_, HO5.out, HX5.out, by simp, fun i hi => absurd hi (Nat.not_lt_zero _)⟩⟩
  case round =>
   obtain ⟨k, hk, rfl, HI⟩ := hrel
   obtain ⟨M, hO, hX, hl, hM⟩ := HI.out
   have HO1 := η hO
   have HX1 := η hX
   have HM1 := η hM
   have HL1 := η hl
   clear hO hX hM hl HI
   by_cases hlt : (k : Int) < xn
   ·obtain ⟨x, hx⟩ := at_of_lt (xs := L) (k := k) (by have := HN.out; omega)
    obtain ⟨b, hb⟩ := at_of_lt (xs := liveB L) (k := k) (by have := hXN.out; omega)
    obtain ⟨m0, hm0⟩ := at_of_lt (xs := M) (k := k) (by have := HL1.out; omega)
    have HX := η hx
    have HBk := η hb
    have HM0 := η hm0
    obtain ⟨y, hy⟩ : ∃ y, (whatS x).getD Wh.zero = y := ⟨_, rfl⟩
    have HID : Hid (idleK L k = ((y.kind != 11) && ((wrN L k != 0) && (wrN L k &&& b == 0)))) := η (by rw [idle_at hx hb]; unfold whatZ; rw [hy])
    have HY := η hy
    obtain ⟨kd, op, wd, rg, sg, sz⟩ := y
    have ix := fun W => HD.out.run_at (P := Tryz.prog) el_ins.under el_ins.size .i64 (k : Int) (by omega) (by omega) W
    simp only [Int.toNat_natCast] at ix
    obtain ⟨c0, c1, c2, c3, c4⟩ := ins_cells (HD.out.ext (HE.out.trans' HX1.out)) HX.out
    clear hx hb hm0 hy
    go_wp2_with fail
    refine (p_What x _ (HOK.out.at HX.out)).mono ?_
    unfold WhatA
    rw [HY.out]
    rintro e w7 ⟨rfl, hE7⟩
    have HX7 := η (HX1.out.trans' hE7)
    have HO7 := η (HO1.out.ext hE7)
    clear hE7 c0 c1 c2 c3 c4
    go_upto_region 7 with fail
    have HB7 := η (obj_top w7 (whObj ⟨kd, op, wd, rg, sg, sz⟩) rfl)
    have HO8 := η (HO7.out.alloc (whObj ⟨kd, op, wd, rg, sg, sz⟩))
    have HX8 := η (HX7.out.alloc' (whObj ⟨kd, op, wd, rg, sg, sz⟩))
    obtain ⟨W, hW⟩ : ∃ W, atS writesS L k = W := ⟨_, rfl⟩
    have hW2 : W < 65536 := by rw [← hW]; exact wrN_lt HOK.out k
    have hb2 : b < 65536 := liveB_lt HBk.out
    have hID : idleK L k = ((kd != 11) && ((W != 0) && (W &&& b == 0))) := by rw [HID.out]; unfold wrN; rw [hW]
    have HID2 := η hID
    go_wp2_with fail
    refine (l_Writes _ L k _ (HD.out.ext (HE.out.trans' HX8.out)) HL.out HOK.out).mono ?_
    rw [hW]
    rintro e w9 ⟨rfl, hE9⟩
    have HX9 := η (HX8.out.trans' hE9)
    have HO9 := η (HO8.out.ext hE9)
    have q0 := cO (i := 0) (hE9.obj HB7.out)
    simp only [gA, gB, gC] at q0
    have hlt7 := heap_lt (hE9.obj HB7.out)
    generalize w7.heap.size = q at q0 hlt7 ⊢
    have ixB := fun W => (HO.out.rd enc_nat).run_at (P := Tryz.prog) el_u16.under el_u16.size .i64 (k : Int) (by omega) (by omega) W
    have cB := ((HO.out.ext HX9.out).rd enc_nat).cell HBk.out (j := 0) rfl
    have ixO := fun W => (HO9.out.rd enc_bool).run_at (P := Tryz.prog) el_bool.under el_bool.size .i64 (k : Int) (by omega) (by omega) W
    simp only [Nat.mul_one, Nat.add_zero, Int.toNat_natCast] at ixB cB ixO
    obtain ⟨e1, e2, e3, e4, e5⟩ := Own.at (f := fun x : Bool => Value.bool x) HO9.out HM0.out
    have HO10 := η e5
    have hand : bits .and .u16 (W : Int) (b : Int) = ((W &&& b : Nat) : Int) := and_u16 hW2 hb2
    have HN1 := η (nat_bne W)
    have hz : ((((W &&& b : Nat) : Int)) == 0) = (W &&& b == 0) := nat_beq _
    have HMS : Hid (∀ i, i < k + 1 → (M.set k (idleK L k))[i]? = some (idleK L i)) := η (fun i hi => by
     by_cases e : i = k
     ·subst e; rw [List.getElem?_set_self (by have := HL1.out; omega)]
     ·rw [List.getElem?_set_ne (Ne.symm e)]; exact HM1.out i (by omega))
    clear hID hW hE9 HM1 HM0 HBk HB7 HX8 HO8 HX7 HO7 e5 e3
    by_cases d0 : kd = 11
    ·subst d0
     have hr : idleK L k = false := by rw [HID2.out]; rfl
     rw [hr] at HMS
     clear hr
     go_wp2_with fail
     go_roundw
     case rel => exact ⟨k + 1, by omega, by go_num, η ⟨_, (HO10.out _).1, (HO10.out _).2 _ _ HX9.out (Nat.le_refl _), by simpa using HL1.out, HMS.out⟩⟩
     case measure => simp [intOf]; omega
    ·have d1 : (kd != 11) = true := by simpa using d0
     by_cases d2 : W = 0
     ·subst d2
      have hr : idleK L k = false := by rw [HID2.out]; simp
      rw [hr] at HMS
      clear hr
      have d3 : (((0 : Nat) : Int) != 0) = false := rfl
      go_wp2_with fail
      go_roundw
      case rel => exact ⟨k + 1, by omega, by go_num, η ⟨_, (HO10.out _).1, (HO10.out _).2 _ _ HX9.out (Nat.le_refl _), by simpa using HL1.out, HMS.out⟩⟩
      case measure => simp [intOf]; omega
     ·have d3 : ((W : Int) != 0) = true := by rw [HN1.out]; simpa using d2
      have hr : idleK L k = (W &&& b == 0) := by
       have : (W != 0) = true := by simpa using d2
       rw [HID2.out, d1, this]; simp
      rw [hr] at HMS
      clear hr
      generalize (W &&& b == 0) = z at HMS hz
      go_wp2_with fail
      go_roundw
      case rel => exact ⟨k + 1, by omega, by go_num, η ⟨_, (HO10.out _).1, (HO10.out _).2 _ _ HX9.out (Nat.le_refl _), by simpa using HL1.out, HMS.out⟩⟩
      case measure => simp [intOf]; omega
   ·have HEQ : Hid (M = idleL L) := η (by
     unfold idleL
     apply List.ext_getElem?
     intro i
     by_cases hi : i < xn
     ·rw [HM1.out i (by omega)]
      simp only [List.getElem?_map, List.getElem?_range (by have := hXN.out; omega : i < (liveB L).length), Option.map_some]
     ·rw [List.getElem?_eq_none (by have := HL1.out; omega), List.getElem?_eq_none (by simp; have := hXN.out; omega)])
    go_wp2_with fail
    go_returns
    exact ⟨_, rfl, by rw [← HEQ.out]; exact HO1.out.mono HE.out.size, HE.out.trans' HX1.out⟩
end Go.Proofs.YtppefchjoodgnaaGreat
namespace Go.Proofs.YtppefchjoodgnaaGreat
open Go.RowKit
set_option linter.unusedVariables false
set_option linter.unusedSimpArgs false
set_option maxHeartbeats 1000000 in
theorem p_sets (v1 v2 : Value) (xs ys : List Nat) (w : World) (h1 : Rd w 1 encN v1 xs) (h2 : Rd w 1 encN v2 ys) : Calls Tryz.prog 32 #[v1, v2] w fun e w' => e = .returned (.bool (decide (xs = ys))) ∧ Ext w w' := by
 obtain ⟨a1, n1, c1, rfl, hn1, hN1⟩ := h1.val
 obtain ⟨a2, n2, c2, rfl, hn2, hN2⟩ := h2.val
 have H1 := η h1
 have H2 := η h2
 obtain ⟨R, hR⟩ : ∃ R, decide (xs = ys) = R := ⟨_, rfl⟩
 rw [hR]
 have HR := η hR
 clear h1 h2 hR
 go_enter Tryz.func32, Tryz.ntmps32
 by_cases hl : (n1 : Int) = n2
 ·have hb : ((n1 : Int) != n2) = false := by simpa using hl
  have hl' : n1 = n2 := by omega
  subst hl'
  go_wp2_with fail
  go_loopw [13] (fun q wr => ∃ k : Nat, k ≤ n1 ∧ q = .int .i64 k ∧ Hid (Ext w wr ∧ ∀ i, i < k → xs[i]? = ys[i]?)) (fun q _ => n1 - (intOf q).toNat)
  case atStart => exact ⟨0, Nat.zero_le _, rfl, η ⟨Ext.rfl' _, fun i hi => absurd hi (Nat.not_lt_zero _)⟩⟩
  case round =>
   obtain ⟨k, hk, rfl, HI⟩ := hrel
   by_cases hlt : (k : Int) < n1
   ·obtain ⟨x, hx⟩ := at_of_lt (xs := xs) (k := k) (by have := hN1.out; omega)
    obtain ⟨y, hy⟩ := at_of_lt (xs := ys) (k := k) (by have := hN2.out; omega)
    have ix := fun W => H1.out.run_at (P := Tryz.prog) el_u16.under el_u16.size .i64 (k : Int) (by omega) (by omega) W
    have iy := fun W => H2.out.run_at (P := Tryz.prog) el_u16.under el_u16.size .i64 (k : Int) (by omega) (by omega) W
    have cx := (H1.out.ext HI.out.1).cell hx (j := 0) rfl
    have cy := (H2.out.ext HI.out.1).cell hy (j := 0) rfl
    simp only [Nat.mul_one, Nat.add_zero, Int.toNat_natCast] at ix iy cx cy
    have HX := η hx
    have HY := η hy
    clear hx hy
    by_cases hxy : x = y
    ·have HXY := η hxy
     have hb2 : ((x : Int) != (y : Int)) = false := by rw [hxy]; simp
     clear hxy
     skip
     all_goals
      go_wp2_with fail
      go_quiet (fail)
      go_wp2_with fail
      go_roundw
      case rel => exact ⟨k + 1, by omega, by go_num, η ⟨by have := HI.out.1; (repeat (first|exact xE0 _|assumption|refine xE1 ?_ _|refine xE2 ?_|refine xE3 ?_ _|refine xE4 ?_ (by assumption))), all_succ HI.out.2 (by first | rw [HX.out, HY.out, HXY.out] | rw [HX.out, HY.out])⟩⟩
      case measure => simp [intOf]; omega
    ·have HXY := η hxy
     have hb2 : ((x : Int) != (y : Int)) = true := by
      have : ((x : Int) == (y : Int)) = false := by simp; omega
      simp [bne, this]
     clear hxy
     have hr : R = false := by
      rw [← HR.out, decide_eq_false_iff_not]
      rintro rfl
      rw [HX.out] at HY
      exact HXY.out (Option.some.inj HY.out)
     have HRF := η hr
     clear hr
     skip
     all_goals
      go_wp2_with fail
      go_quiet (fail)
      go_wp2_with fail
      go_returns
      exact ⟨by rw [HRF.out]; rfl, by have := HI.out.1; (repeat (first|exact xE0 _|assumption|refine xE1 ?_ _|refine xE2 ?_|refine xE3 ?_ _|refine xE4 ?_ (by assumption)))⟩
   ·have hr : R = true := by
     rw [← HR.out, decide_eq_true_iff]
     exact eq_of_at (by have := hN1.out; have := hN2.out; omega) (fun i hi => HI.out.2 i (by have := hN1.out; omega))
    have HRF := η hr
    clear hr
    go_wp2_with fail
    go_returns
    exact ⟨by rw [HRF.out]; rfl, HI.out.1⟩
 ·have hb : ((n1 : Int) != n2) = true := by simpa using hl
  have hr : R = false := by
   rw [← HR.out, decide_eq_false_iff_not]
   rintro rfl
   have := hN1.out
   have := hN2.out
   omega
  have HRF := η hr
  clear hr
  go_wp2_with fail
  go_returns
  exact ⟨by rw [HRF.out]; rfl, by (repeat (first|exact xE0 _|assumption|refine xE1 ?_ _|refine xE2 ?_|refine xE3 ?_ _|refine xE4 ?_ (by assumption)))⟩
set_option maxHeartbeats 1000000 in
theorem l_few (v : Value) (L : List Ins) (w : World) (h : Rd w 5 Ins.enc v L) : Calls Tryz.prog 11 #[v] w fun e w' => ∃ v', e = .returned v' ∧ Rd w' 5 Ins.enc v' (L.take 150) ∧ Ext w w' := by
 obtain ⟨a, n, c, rfl, hn, hN⟩ := h.val
 have HD := η h
 clear h
 go_enter Tryz.func11, Tryz.ntmps11
 have h1 : (n : Int) ≤ 150 ∨ (150 : Int) < n := by omega
 rcases h1 with h1 | h1
 ·have c1 := fun W => HD.out.run_cut_h (P := Tryz.prog) el_ins.under el_ins.size .i64 (n : Int) (by omega) (by omega) W
  have E := η (take_cutI HD.out n (Nat.le_refl _) (by omega))
  have hm : min (n : Int) 150 = n := by omega
  simp only [Int.toNat_natCast] at c1
  go_wp2_with fail
  go_returns
  exact ⟨_, rfl, E.out, by (repeat (first|exact xE0 _|assumption|refine xE1 ?_ _|refine xE2 ?_|refine xE3 ?_ _|refine xE4 ?_ (by assumption)))⟩
 ·have c1 := fun W => HD.out.run_cut_h (P := Tryz.prog) el_ins.under el_ins.size .i64 150 (by omega) (by omega) W
  have E := η (take_cutI HD.out 150 (by omega) (by omega))
  have hm : min (n : Int) 150 = 150 := by omega
  go_wp2_with fail
  go_returns
  exact ⟨_, rfl, E.out, by (repeat (first|exact xE0 _|assumption|refine xE1 ?_ _|refine xE2 ?_|refine xE3 ?_ _|refine xE4 ?_ (by assumption)))⟩
def L1 : List Ins := [⟨183, 0, 0, 0, 1⟩, ⟨183, 0, 0, 0, 2⟩, ⟨149, 0, 0, 0, 0⟩]
theorem l1_prog : progS L1 = true := by decide +kernel
theorem l1_ok : InsOk L1 := by
 intro x hx
 simp only [L1, List.mem_cons, List.not_mem_nil, or_false] at hx
 rcases hx with rfl | rfl | rfl <;> exact ⟨by decide, by decide, by decide, by decide, by decide⟩
theorem l1_out (k : Nat) : beginsS L1 ((k + 3 : Nat) : Int) = false := begins_out (by simp [L1])
theorem l1_rd (k : Nat) : rdN L1 k = if k = 2 then 1 else 0 := by
 rcases k with _ | _ | _ | k
 ·decide +kernel
 ·decide +kernel
 ·decide +kernel
 ·rw [rdN_not (l1_out k), if_neg (by omega)]
theorem l1_wr (k : Nat) (h : k < 3) : wrN L1 k = if k = 2 then 0 else 1 := by
 rcases k with _ | _ | _ | k
 ·decide +kernel
 ·decide +kernel
 ·decide +kernel
 ·omega
theorem l1_ah (k : Nat) : ahN L1 k = if k = 0 then [1] else if k = 1 then [2] else [] := by
 have key : ∀ k, k < 3 → ahN L1 k = aheadAt L1 k := fun k hk => by
  unfold ahN
  have : beginsS L1 k = true := by
   rcases k with _ | _ | _ | k
   ·decide +kernel
   ·decide +kernel
   ·decide +kernel
   ·omega
  exact aheadV_at this
 rcases k with _ | _ | _ | k
 ·rw [key 0 (by decide)]
  show aheadL L1 _ 0 = _
  rw [ahead_two]; decide +kernel
 ·rw [key 1 (by decide)]
  show aheadL L1 _ 1 = _
  rw [ahead_two]; decide +kernel
 ·rw [key 2 (by decide)]
  show aheadL L1 _ 2 = _
  rw [ahead_two]; decide +kernel
 ·rw [ahN_not (l1_out k), if_neg (by omega), if_neg (by omega)]
theorem one_bit {r : Nat} (h : (1 : Nat).testBit r = true) : r = 0 := by
 have := Nat.testBit_two_pow (n := 0) (m := r)
 simp at this
 rw [show (1 : Nat) = 2 ^ 0 from rfl, Nat.testBit_two_pow] at h
 simp at h
 omega
theorem l1_need {r i : Nat} : Need (rdN L1) (wrN L1) (ahN L1) r i ↔ i = 2 ∧ r = 0 := by
 constructor
 ·intro h
  refine h (fun i => i = 2 ∧ r = 0) (fun i hi => ?_) (fun i t hw ht hs => ?_)
  ·rw [l1_rd] at hi
   split at hi
   ·rename_i e; exact ⟨e, one_bit hi⟩
   ·simp at hi
  ·obtain ⟨rfl, rfl⟩ := hs
   rw [l1_ah] at ht
   split at ht
   ·simp at ht
   ·split at ht
    ·rename_i e
     subst e
     rw [l1_wr 1 (by decide)] at hw
     simp at hw
    ·simp at ht
 ·rintro ⟨rfl, rfl⟩
  exact .read (by rw [l1_rd]; rfl)
theorem l1_needB {r i : Nat} : NeedB (rdN L1) (wrN L1) (ahN L1) r i ↔ i = 1 ∧ r = 0 := by
 constructor
 ·rintro ⟨t, ht, hn⟩
  obtain ⟨rfl, rfl⟩ := l1_need.1 hn
  rw [l1_ah] at ht
  split at ht
  ·simp at ht
  ·split at ht
   ·exact ⟨by assumption, rfl⟩
   ·simp at ht
 ·rintro ⟨rfl, rfl⟩
  exact ⟨2, by rw [l1_ah]; simp, l1_need.2 ⟨rfl, rfl⟩⟩
theorem zero_bits {p : Nat → Prop} (h : ∀ r, ¬ p r) : bitsOf p = 0 := (eq_bitsOf (by decide) (fun r _ => by simp [h r])).symm
theorem one_bits {p : Nat → Prop} (h : ∀ r, p r ↔ r = 0) : bitsOf p = 1 := (eq_bitsOf (by decide) (fun r _ => by
 rw [h]
 constructor
 ·exact one_bit
 ·rintro rfl; rfl)).symm
theorem l1_liveA : liveA L1 = [0, 0, 1] := by
 unfold liveA
 rw [l1_prog]
 show [bitsOf _, bitsOf _, bitsOf _] = _
 have a0 : bitsOf (fun r => Need (rdN L1) (wrN L1) (ahN L1) r 0) = 0 := zero_bits (fun r h => by have := (l1_need (i := 0)).1 h; omega)
 have a1 : bitsOf (fun r => Need (rdN L1) (wrN L1) (ahN L1) r 1) = 0 := zero_bits (fun r h => by have := (l1_need (i := 1)).1 h; omega)
 have a2 : bitsOf (fun r => Need (rdN L1) (wrN L1) (ahN L1) r 2) = 1 := one_bits (fun r => by rw [l1_need]; simp)
 rw [a0, a1, a2]
theorem l1_liveB : liveB L1 = [0, 1, 0] := by
 unfold liveB
 rw [l1_prog]
 show [bitsOf _, bitsOf _, bitsOf _] = _
 have a0 : bitsOf (fun r => NeedB (rdN L1) (wrN L1) (ahN L1) r 0) = 0 := zero_bits (fun r h => by have := (l1_needB (i := 0)).1 h; omega)
 have a1 : bitsOf (fun r => NeedB (rdN L1) (wrN L1) (ahN L1) r 1) = 1 := one_bits (fun r => by rw [l1_needB]; simp)
 have a2 : bitsOf (fun r => NeedB (rdN L1) (wrN L1) (ahN L1) r 2) = 0 := zero_bits (fun r h => by have := (l1_needB (i := 2)).1 h; omega)
 rw [a0, a1, a2]
theorem l1_idle : idleL L1 = [true, false, false] := by
 unfold idleL
 rw [l1_liveB]
 show [idleK L1 0, idleK L1 1, idleK L1 2] = _
 rw [idle_at (x := ⟨183, 0, 0, 0, 1⟩) (b := 0) rfl (by rw [l1_liveB]; rfl), idle_at (x := ⟨183, 0, 0, 0, 2⟩) (b := 1) rfl (by rw [l1_liveB]; rfl), idle_at (x := ⟨149, 0, 0, 0, 0⟩) (b := 0) rfl (by rw [l1_liveB]; rfl),
  l1_wr 0 (by decide), l1_wr 1 (by decide), l1_wr 2 (by decide)]
 decide +kernel
theorem rd_nats (w : World) (xs : List Nat) (b n : Nat) (hb : b = w.heap.size) (hn : n = xs.length) (hl : xs.length ≤ 1000) : Rd (w.alloc (.cells (xs.flatMap encN).toArray 51)) 1 encN (.slice (some ⟨b, 0, none⟩) n n) xs :=
 (Own.lit enc_nat (base := 0) (w := w) xs hb hn (Nat.zero_le _) (by simp [maxLen]; omega)).rd enc_nat
set_option maxRecDepth 20000 in
set_option maxHeartbeats 2000000 in
theorem l_shown (w : World) : Calls Tryz.prog 10 #[] w fun e w' => e = .returned (.bool true) ∧ Ext w w' := by
 go_enter Tryz.func10, Tryz.ntmps10
 go_upto_region 1 with fail
 go_cut [1] (fun v1 wx => Hid (Rd wx 5 Ins.enc v1 L1 ∧ Ext w wx))
 case first =>
  go_wp2_with fail
  go_meet
  exact η ⟨(Own.lit enc_ins (base := 0) (w := w) L1 rfl rfl (Nat.zero_le _) (by simp [maxLen, L1])).rd enc_ins, by (repeat (first|exact xE0 _|assumption|refine xE1 ?_ _|refine xE2 ?_|refine xE3 ?_ _|refine xE4 ?_ (by assumption)))⟩
 case rest =>
  have hl : L1.length ≤ 1000000 := by decide
  have HL := η hl
  have HOK := η l1_ok
  obtain ⟨a, n, c, hv, hn, hN⟩ := hcut.out.1.val
  subst hv
  have HD := η hcut.out.1
  have HE := η hcut.out.2
  clear hcut hl
  go_wp2_with fail
  refine (l_Idle _ L1 _ HD.out HL.out HOK.out).mono ?_
  rw [l1_idle]
  rintro e w1 ⟨v1, rfl, hO1, hE1⟩
  have HR1 := η (hO1.rd enc_bool)
  have HE1 := η hE1
  obtain ⟨ia, m, ic, hv, hm, hM⟩ := (hO1.rd enc_bool).val
  subst hv
  obtain rfl : m = 3 := hM.out
  have i0 := fun W => HR1.out.run_at (P := Tryz.prog) el_bool.under el_bool.size .i64 0 (by omega) (by omega) W
  have i1 := fun W => HR1.out.run_at (P := Tryz.prog) el_bool.under el_bool.size .i64 1 (by omega) (by omega) W
  have i2 := fun W => HR1.out.run_at (P := Tryz.prog) el_bool.under el_bool.size .i64 2 (by omega) (by omega) W
  have c0 := HR1.out.cell (i := 0) rfl (j := 0) rfl
  have c1 := HR1.out.cell (i := 1) rfl (j := 0) rfl
  have c2 := HR1.out.cell (i := 2) rfl (j := 0) rfl
  simp only [show Int.toNat 0 = 0 from rfl, show Int.toNat 1 = 1 from rfl, show Int.toNat 2 = 2 from rfl, Nat.mul_one, Nat.add_zero] at i0 i1 i2 c0 c1 c2
  clear hO1 hE1
  go_wp2_with fail
  refine (l_Ahead _ L1 _ (HD.out.ext HE1.out) HL.out HOK.out).mono ?_
  rw [l1_liveA]
  rintro e w2 ⟨v2, rfl, hO2, hE2⟩
  have HR2 := η (hO2.rd enc_nat)
  have HE2 := η (HE1.out.trans' hE2)
  clear hO2 hE2
  go_wp2_with fail
  refine (p_sets v2 _ [0, 0, 1] [0, 0, 1] _ (HR2.out.ext (by (repeat (first|exact xE0 _|assumption|refine xE1 ?_ _|refine xE2 ?_|refine xE3 ?_ _|refine xE4 ?_ (by assumption))))) (rd_nats w2 [0, 0, 1] _ _ rfl rfl (by decide))).mono ?_
  rw [show decide (([0, 0, 1] : List Nat) = [0, 0, 1]) = true by decide]
  rintro e w3 ⟨rfl, hE3⟩
  have HE3 := η (Ext.trans' (HE2.out.alloc' _) hE3)
  clear hE3
  go_wp2_with fail
  go_returns
  exact ⟨rfl, HE.out.trans' HE3.out⟩
end Go.Proofs.YtppefchjoodgnaaGreat
