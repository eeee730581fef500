/- machine: Step at 'Mov r0, 7' and at Exit. -/
import Derived.Test.YtlpeljpjgmapgaaGreatMaC
import Derived.Test.YtlpeljpjgmapgaaGreatCoI
namespace Go.Proofs.YtlpeljpjgmapgaaGreat
open Go.RowKit
set_option linter.unusedVariables false
set_option linter.unusedSimpArgs false

theorem what7 : whatS x7 = some w7 := by rfl
theorem whatE : whatS xE = some wE := by rfl
theorem ok7 : x7.Ok := ⟨by decide, by decide, by decide, by decide, by decide⟩
theorem okE : xE.Ok := ⟨by decide, by decide, by decide, by decide, by decide⟩
theorem p_what7 (w : World) : Calls Tryz.prog 32 #[x7.agg] w fun e w' => e = .returned (.tuple #[w7.agg, .bool true]) ∧ Ext w w' := by
  have := p_What x7 w ok7
  unfold WhatA at this
  rw [what7] at this
  exact this
theorem p_whatE (w : World) : Calls Tryz.prog 32 #[xE.agg] w fun e w' => e = .returned (.tuple #[wE.agg, .bool true]) ∧ Ext w w' := by
  have := p_What xE w okE
  unfold WhatA at this
  rw [whatE] at this
  exact this
section
variable {ca : Option Addr} {cn cc : Nat} {mem tab : Value} {r0 : Int} {s0 : Bool} {n1 : Int} {s1 : Bool} {n10 : Int} {s10 : Bool} {steps : Int}
set_option maxRecDepth 20000 in
set_option maxHeartbeats 4000000 in
theorem step7 (B : Nat) (L : List Ins) (k : Nat) (w : World) (h : w.heap[B]? = some (maObj (.slice ca cn cc) mem tab 0 false n1 s1 n10 s10 k false 0 steps)) (hc : Rd w 5 Ins.enc (.slice ca cn cc) L) (hcB : ∀ W, Keep [B] w W → Rd W 5 Ins.enc (.slice ca cn cc) L) (hx : L[k]? = some x7) (hl : L.length ≤ 1000000) (hst : 0 ≤ steps ∧ steps ≤ 1000000) :
    Calls Tryz.prog 15 #[.pointer (some ⟨B, 0, none⟩)] w fun e w' => e = .returned (.int .i64 0) ∧ w'.heap[B]? = some (maObj (.slice ca cn cc) mem tab 7 true n1 s1 n10 s10 (k + 1 : Nat) false 0 (steps + 1)) ∧ Keep [B] w w' := by
  have HD := Lib.hid (fun W (hW : W.heap[B]? = some (maObj (.slice ca cn cc) mem tab 0 false n1 s1 n10 s10 k false 0 steps)) => does7 B W hW)
  have HWH := Lib.hid (fun W => p_what7 W)
  have HX := Lib.hid hx
  have HL := Lib.hid hl
  have HCB := Lib.hid hcB
  have HM := Lib.hid h
  have hk : k < cn := by rw [hc.num]; exact (List.getElem?_eq_some_iff.1 hx).1
  have hk2 : cn ≤ 1000000 := by rw [hc.num]; exact hl
  have ix := fun W => hc.run_at (P := Tryz.prog) el_ins.under el_ins.size .i64 (k : Int) (by omega) (by omega) W
  simp only [Int.toNat_natCast] at ix
  obtain ⟨c0, c1, c2, c3, c4⟩ := ins_cells hc hx
  have m0 := cell_obj (i := 0) h
  have m27 := cell_obj (i := 27) h
  have m28 := cell_obj (i := 28) h
  simp only [List.getElem?_toArray, List.getElem?_cons_zero, List.getElem?_cons_succ] at m0 m27 m28
  have mo0 := fun o => cell_obj (i := 0) (obj_old o h)
  have mo27 := fun o => cell_obj (i := 27) (obj_old o h)
  have co := fun o => ins_cells (hc.ext (Ext.alloc' (Ext.rfl' w) o)) hx
  have d0 := fun o => (co o).1
  have d1 := fun o => (co o).2.1
  have d2 := fun o => (co o).2.2.1
  have d3 := fun o => (co o).2.2.2.1
  have d4 := fun o => (co o).2.2.2.2
  simp only [List.getElem?_toArray, List.getElem?_cons_zero, List.getElem?_cons_succ] at mo0 mo27
  simp only [x7, w7] at HD HWH c0 c1 c2 c3 c4 d0 d1 d2 d3 d4
  clear h hc hcB hx hl co
  go_enter Tryz.func15, Tryz.ntmps15
  go_upto_region 5 with fail
  go_cut [3] from 16 to 26 (fun v3 wx => ∃ q : Nat, v3 = .pointer (some ⟨q, 0, none⟩) ∧ q < wx.heap.size ∧ Hid (wx.heap[q]? = some (insObj ⟨183, 0, 0, 0, 7⟩) ∧ Ext w wx))
  case first =>
    go_region
    all_goals
      go_wp2_with fail
      go_meet
      refine ⟨_, rfl, by simp, Lib.hid ⟨?_, by (repeat (first | exact Ext.rfl' _ | assumption | refine Ext.drewN' ?_ _ | refine Ext.drew' ?_ | refine Ext.alloc' ?_ _ | refine Ext.trans' ?_ (by assumption)))⟩⟩
      (repeat (first | (refine obj_top _ _ ?_; simp; done) | refine obj_old _ ?_))
  case rest =>
    obtain ⟨q, rfl, hq, HI⟩ := hcut
    have HX5 := Lib.hid HI.out.1
    have HE5 := Lib.hid HI.out.2
    have HM5 := Lib.hid (HI.out.2.obj HM.out)
    clear HI ix c0 c1 c2 c3 c4 m0 m27 m28 mo0 mo27 d0 d1 d2 d3 d4
    have x0 := cell_obj (i := 0) HX5.out
    have x1 := cell_obj (i := 1) HX5.out
    have x2 := cell_obj (i := 2) HX5.out
    have x3 := cell_obj (i := 3) HX5.out
    have x4 := cell_obj (i := 4) HX5.out
    simp only [List.getElem?_toArray, List.getElem?_cons_zero, List.getElem?_cons_succ] at x0 x1 x2 x3 x4
    go_wp2_with fail
    refine (HWH.out _).mono ?_
    rintro e w6 ⟨rfl, hE6⟩
    have HX6 := Lib.hid (hE6.obj HX5.out)
    have HM6 := Lib.hid (hE6.obj HM5.out)
    have HE6 := Lib.hid (HE5.out.trans' hE6)
    clear hE6 x0 x1 x2 x3 x4 HX5 HM5 HE5
    go_upto_region 7 with fail
    have HY7 := Lib.hid (obj_top w6 (whObj ⟨1, 176, true, false, false, 0⟩) rfl)
    have HX7 := Lib.hid (obj_old (whObj ⟨1, 176, true, false, false, 0⟩) HX6.out)
    have HM7 := Lib.hid (obj_old (whObj ⟨1, 176, true, false, false, 0⟩) HM6.out)
    have HE7 := Lib.hid (HE6.out.alloc' (whObj ⟨1, 176, true, false, false, 0⟩))
    clear HX6 HM6 HE6
    simp only [whObj] at HY7 HX7 HM7 HE7
    generalize hF : w6.alloc (.cells #[.int .u8 1, .int .u8 176, .bool true, .bool false, .bool false, .int .i64 0] 90) = wa at HY7 HX7 HM7 HE7 ⊢
    generalize w6.heap.size = p at HY7 ⊢
    clear hF
    have x0 := cell_obj (i := 0) HX7.out
    have x1 := cell_obj (i := 1) HX7.out
    have x2 := cell_obj (i := 2) HX7.out
    have x3 := cell_obj (i := 3) HX7.out
    have x4 := cell_obj (i := 4) HX7.out
    have y0 := cell_obj (i := 0) HY7.out
    have y1 := cell_obj (i := 1) HY7.out
    have y2 := cell_obj (i := 2) HY7.out
    have y3 := cell_obj (i := 3) HY7.out
    have y4 := cell_obj (i := 4) HY7.out
    have y5 := cell_obj (i := 5) HY7.out
    simp only [List.getElem?_toArray, List.getElem?_cons_zero, List.getElem?_cons_succ] at x0 x1 x2 x3 x4 y0 y1 y2 y3 y4 y5
    go_wp2_with fail
    refine (HD.out _ HM7.out).mono ?_
    rintro e w8 ⟨rfl, h8, hk8⟩
    have HM8 := Lib.hid h8
    have HK8 := Lib.hid ((Keep.of_ext HE7.out).trans hk8)
    clear h8 hk8 x0 x1 x2 x3 x4 y0 y1 y2 y3 y4 y5 HX7 HY7 HM7 HE7 HD HWH
    have m30 := cell_obj (i := 30) HM8.out
    have m28 := cell_obj (i := 28) HM8.out
    have mf := fun i => frozen_obj (i := i) HM8.out
    simp only [List.getElem?_toArray, List.getElem?_cons_zero, List.getElem?_cons_succ] at m30 m28
    have hlB := heap_lt HM8.out
    have hS : (w8.setCell ⟨B, 30, none⟩ (.int .i64 (steps + 1))).heap[B]? = some (maObj (.slice ca cn cc) mem tab 7 true n1 s1 n10 s10 k false 0 (steps + 1)) := by simpa using heap_setCell_same _ B 30 _ _ (.int .i64 (steps + 1)) HM8.out
    have HS := Lib.hid hS
    have HKS := Lib.hid (HK8.out.setCell (a := ⟨B, 30, none⟩) (by simp) (.int .i64 (steps + 1)))
    clear hS
    go_upto_region 13 with fail
    generalize hF : w8.setCell ⟨B, 30, none⟩ (.int .i64 (steps + 1)) = w9 at HS HKS ⊢
    clear hF m30 m28 mf hlB HM8 HK8
    have m28 := cell_obj (i := 28) HS.out
    have m27 := cell_obj (i := 27) HS.out
    have m0 := cell_obj (i := 0) HS.out
    have mf := fun i => frozen_obj (i := i) HS.out
    simp only [List.getElem?_toArray, List.getElem?_cons_zero, List.getElem?_cons_succ] at m28 m27 m0
    have hlB := heap_lt HS.out
    go_upto_region 12 with fail
    go_region_law ((go_simp; go_at_call 35; refine (p_Next _ L k x7 _ (HCB.out _ HKS.out.drew) HL.out HX.out).mono ?_; rintro e w10 ⟨rfl, hE10⟩; have o10 := Lib.hid (hE10.obj HS.out); have n27 := cell_obj (i := 27) o10.out; have nf := fun i => frozen_obj (i := i) o10.out; simp only [List.getElem?_toArray, List.getElem?_cons_zero, List.getElem?_cons_succ] at n27; have hl10 := heap_lt o10.out; have HK10 := Lib.hid (HKS.out.drew.trans (Keep.of_ext hE10)); clear hE10))
    all_goals
      have hfin : (w10.setCell ⟨B, 27, none⟩ (.int .i64 ((nextI x7 k : Nat) : Int))).heap[B]? = some (maObj (.slice ca cn cc) mem tab 7 true n1 s1 n10 s10 (k + 1 : Nat) false 0 (steps + 1)) := by
        rw [show nextI x7 k = k + 1 from rfl]
        simpa using heap_setCell_same _ B 27 _ _ (.int .i64 ((k + 1 : Nat) : Int)) o10.out
      have HFIN := Lib.hid hfin
      have HKF := Lib.hid (HK10.out.setCell (a := ⟨B, 27, none⟩) (by simp) (.int .i64 ((nextI x7 k : Nat) : Int)))
      clear hfin n27 nf
      go_wp2_with fail
      go_returns
      exact ⟨rfl, HFIN.out, HKF.out⟩
set_option maxRecDepth 20000 in
set_option maxHeartbeats 4000000 in
theorem stepE (B : Nat) (L : List Ins) (k : Nat) (w : World) (h : w.heap[B]? = some (maObj (.slice ca cn cc) mem tab r0 true n1 s1 n10 s10 k false 0 steps)) (hc : Rd w 5 Ins.enc (.slice ca cn cc) L) (hcB : ∀ W, Keep [B] w W → Rd W 5 Ins.enc (.slice ca cn cc) L) (hx : L[k]? = some xE) (hl : L.length ≤ 1000000) (hst : 0 ≤ steps ∧ steps ≤ 1000000) :
    Calls Tryz.prog 15 #[.pointer (some ⟨B, 0, none⟩)] w fun e w' => e = .returned (.int .i64 0) ∧ w'.heap[B]? = some (maObj (.slice ca cn cc) mem tab r0 true n1 s1 n10 s10 k true 0 (steps + 1)) ∧ Keep [B] w w' := by
  have HD := Lib.hid (fun W (hW : W.heap[B]? = some (maObj (.slice ca cn cc) mem tab r0 true n1 s1 n10 s10 k false 0 steps)) => doesE B W hW)
  have HWH := Lib.hid (fun W => p_whatE W)
  have HX := Lib.hid hx
  have HL := Lib.hid hl
  have HCB := Lib.hid hcB
  have HM := Lib.hid h
  have hk : k < cn := by rw [hc.num]; exact (List.getElem?_eq_some_iff.1 hx).1
  have hk2 : cn ≤ 1000000 := by rw [hc.num]; exact hl
  have ix := fun W => hc.run_at (P := Tryz.prog) el_ins.under el_ins.size .i64 (k : Int) (by omega) (by omega) W
  simp only [Int.toNat_natCast] at ix
  obtain ⟨c0, c1, c2, c3, c4⟩ := ins_cells hc hx
  have m0 := cell_obj (i := 0) h
  have m27 := cell_obj (i := 27) h
  have m28 := cell_obj (i := 28) h
  simp only [List.getElem?_toArray, List.getElem?_cons_zero, List.getElem?_cons_succ] at m0 m27 m28
  have mo0 := fun o => cell_obj (i := 0) (obj_old o h)
  have mo27 := fun o => cell_obj (i := 27) (obj_old o h)
  have co := fun o => ins_cells (hc.ext (Ext.alloc' (Ext.rfl' w) o)) hx
  have d0 := fun o => (co o).1
  have d1 := fun o => (co o).2.1
  have d2 := fun o => (co o).2.2.1
  have d3 := fun o => (co o).2.2.2.1
  have d4 := fun o => (co o).2.2.2.2
  simp only [List.getElem?_toArray, List.getElem?_cons_zero, List.getElem?_cons_succ] at mo0 mo27
  simp only [xE, wE] at HD HWH c0 c1 c2 c3 c4 d0 d1 d2 d3 d4
  clear h hc hcB hx hl co
  go_enter Tryz.func15, Tryz.ntmps15
  go_upto_region 5 with fail
  go_cut [3] from 16 to 26 (fun v3 wx => ∃ q : Nat, v3 = .pointer (some ⟨q, 0, none⟩) ∧ q < wx.heap.size ∧ Hid (wx.heap[q]? = some (insObj ⟨149, 0, 0, 0, 0⟩) ∧ Ext w wx))
  case first =>
    go_region
    all_goals
      go_wp2_with fail
      go_meet
      refine ⟨_, rfl, by simp, Lib.hid ⟨?_, by (repeat (first | exact Ext.rfl' _ | assumption | refine Ext.drewN' ?_ _ | refine Ext.drew' ?_ | refine Ext.alloc' ?_ _ | refine Ext.trans' ?_ (by assumption)))⟩⟩
      (repeat (first | (refine obj_top _ _ ?_; simp; done) | refine obj_old _ ?_))
  case rest =>
    obtain ⟨q, rfl, hq, HI⟩ := hcut
    have HX5 := Lib.hid HI.out.1
    have HE5 := Lib.hid HI.out.2
    have HM5 := Lib.hid (HI.out.2.obj HM.out)
    clear HI ix c0 c1 c2 c3 c4 m0 m27 m28 mo0 mo27 d0 d1 d2 d3 d4
    have x0 := cell_obj (i := 0) HX5.out
    have x1 := cell_obj (i := 1) HX5.out
    have x2 := cell_obj (i := 2) HX5.out
    have x3 := cell_obj (i := 3) HX5.out
    have x4 := cell_obj (i := 4) HX5.out
    simp only [List.getElem?_toArray, List.getElem?_cons_zero, List.getElem?_cons_succ] at x0 x1 x2 x3 x4
    go_wp2_with fail
    refine (HWH.out _).mono ?_
    rintro e w6 ⟨rfl, hE6⟩
    have HX6 := Lib.hid (hE6.obj HX5.out)
    have HM6 := Lib.hid (hE6.obj HM5.out)
    have HE6 := Lib.hid (HE5.out.trans' hE6)
    clear hE6 x0 x1 x2 x3 x4 HX5 HM5 HE5
    go_upto_region 7 with fail
    have HY7 := Lib.hid (obj_top w6 (whObj ⟨12, 0, false, false, false, 0⟩) rfl)
    have HX7 := Lib.hid (obj_old (whObj ⟨12, 0, false, false, false, 0⟩) HX6.out)
    have HM7 := Lib.hid (obj_old (whObj ⟨12, 0, false, false, false, 0⟩) HM6.out)
    have HE7 := Lib.hid (HE6.out.alloc' (whObj ⟨12, 0, false, false, false, 0⟩))
    clear HX6 HM6 HE6
    simp only [whObj] at HY7 HX7 HM7 HE7
    generalize hF : w6.alloc (.cells #[.int .u8 12, .int .u8 0, .bool false, .bool false, .bool false, .int .i64 0] 90) = wa at HY7 HX7 HM7 HE7 ⊢
    generalize w6.heap.size = p at HY7 ⊢
    clear hF
    have x0 := cell_obj (i := 0) HX7.out
    have x1 := cell_obj (i := 1) HX7.out
    have x2 := cell_obj (i := 2) HX7.out
    have x3 := cell_obj (i := 3) HX7.out
    have x4 := cell_obj (i := 4) HX7.out
    have y0 := cell_obj (i := 0) HY7.out
    have y1 := cell_obj (i := 1) HY7.out
    have y2 := cell_obj (i := 2) HY7.out
    have y3 := cell_obj (i := 3) HY7.out
    have y4 := cell_obj (i := 4) HY7.out
    have y5 := cell_obj (i := 5) HY7.out
    simp only [List.getElem?_toArray, List.getElem?_cons_zero, List.getElem?_cons_succ] at x0 x1 x2 x3 x4 y0 y1 y2 y3 y4 y5
    go_wp2_with fail
    refine (HD.out _ HM7.out).mono ?_
    rintro e w8 ⟨rfl, h8, hk8⟩
    have HM8 := Lib.hid h8
    have HK8 := Lib.hid ((Keep.of_ext HE7.out).trans hk8)
    clear h8 hk8 x0 x1 x2 x3 x4 y0 y1 y2 y3 y4 y5 HX7 HY7 HM7 HE7 HD HWH
    have m30 := cell_obj (i := 30) HM8.out
    have m28 := cell_obj (i := 28) HM8.out
    have mf := fun i => frozen_obj (i := i) HM8.out
    simp only [List.getElem?_toArray, List.getElem?_cons_zero, List.getElem?_cons_succ] at m30 m28
    have hlB := heap_lt HM8.out
    have hS : (w8.setCell ⟨B, 30, none⟩ (.int .i64 (steps + 1))).heap[B]? = some (maObj (.slice ca cn cc) mem tab r0 true n1 s1 n10 s10 k true 0 (steps + 1)) := by simpa using heap_setCell_same _ B 30 _ _ (.int .i64 (steps + 1)) HM8.out
    have HS := Lib.hid hS
    have HKS := Lib.hid (HK8.out.setCell (a := ⟨B, 30, none⟩) (by simp) (.int .i64 (steps + 1)))
    clear hS
    go_upto_region 13 with fail
    generalize hF : w8.setCell ⟨B, 30, none⟩ (.int .i64 (steps + 1)) = w9 at HS HKS ⊢
    clear hF m30 m28 mf hlB HM8 HK8
    have m28 := cell_obj (i := 28) HS.out
    have m27 := cell_obj (i := 27) HS.out
    have m0 := cell_obj (i := 0) HS.out
    have mf := fun i => frozen_obj (i := i) HS.out
    simp only [List.getElem?_toArray, List.getElem?_cons_zero, List.getElem?_cons_succ] at m28 m27 m0
    have hlB := heap_lt HS.out
    go_wp2_with fail
    go_returns
    exact ⟨rfl, HS.out, HKS.out⟩
set_option maxRecDepth 20000 in
set_option maxHeartbeats 4000000 in
theorem stepU (B : Nat) (L : List Ins) (k : Nat) (w : World) (h : w.heap[B]? = some (maObj (.slice ca cn cc) mem tab r0 false n1 s1 n10 s10 k false 0 steps)) (hc : Rd w 5 Ins.enc (.slice ca cn cc) L) (hcB : ∀ W, Keep [B] w W → Rd W 5 Ins.enc (.slice ca cn cc) L) (hx : L[k]? = some xE) (hl : L.length ≤ 1000000) (hst : 0 ≤ steps ∧ steps ≤ 1000000) :
    Calls Tryz.prog 15 #[.pointer (some ⟨B, 0, none⟩)] w fun e w' => e = .returned (.int .i64 110) ∧ w'.heap[B]? = some (maObj (.slice ca cn cc) mem tab r0 false n1 s1 n10 s10 k true 110 steps) ∧ Keep [B] w w' := by
  have HD := Lib.hid (fun W (hW : W.heap[B]? = some (maObj (.slice ca cn cc) mem tab r0 false n1 s1 n10 s10 k false 0 steps)) => doesU B W hW)
  have HWH := Lib.hid (fun W => p_whatE W)
  have HX := Lib.hid hx
  have HL := Lib.hid hl
  have HCB := Lib.hid hcB
  have HM := Lib.hid h
  have hk : k < cn := by rw [hc.num]; exact (List.getElem?_eq_some_iff.1 hx).1
  have hk2 : cn ≤ 1000000 := by rw [hc.num]; exact hl
  have ix := fun W => hc.run_at (P := Tryz.prog) el_ins.under el_ins.size .i64 (k : Int) (by omega) (by omega) W
  simp only [Int.toNat_natCast] at ix
  obtain ⟨c0, c1, c2, c3, c4⟩ := ins_cells hc hx
  have m0 := cell_obj (i := 0) h
  have m27 := cell_obj (i := 27) h
  have m28 := cell_obj (i := 28) h
  simp only [List.getElem?_toArray, List.getElem?_cons_zero, List.getElem?_cons_succ] at m0 m27 m28
  have mo0 := fun o => cell_obj (i := 0) (obj_old o h)
  have mo27 := fun o => cell_obj (i := 27) (obj_old o h)
  have co := fun o => ins_cells (hc.ext (Ext.alloc' (Ext.rfl' w) o)) hx
  have d0 := fun o => (co o).1
  have d1 := fun o => (co o).2.1
  have d2 := fun o => (co o).2.2.1
  have d3 := fun o => (co o).2.2.2.1
  have d4 := fun o => (co o).2.2.2.2
  simp only [List.getElem?_toArray, List.getElem?_cons_zero, List.getElem?_cons_succ] at mo0 mo27
  simp only [xE, wE] at HD HWH c0 c1 c2 c3 c4 d0 d1 d2 d3 d4
  clear h hc hcB hx hl co
  go_enter Tryz.func15, Tryz.ntmps15
  go_upto_region 5 with fail
  go_cut [3] from 16 to 26 (fun v3 wx => ∃ q : Nat, v3 = .pointer (some ⟨q, 0, none⟩) ∧ q < wx.heap.size ∧ Hid (wx.heap[q]? = some (insObj ⟨149, 0, 0, 0, 0⟩) ∧ Ext w wx))
  case first =>
    go_region
    all_goals
      go_wp2_with fail
      go_meet
      refine ⟨_, rfl, by simp, Lib.hid ⟨?_, by (repeat (first | exact Ext.rfl' _ | assumption | refine Ext.drewN' ?_ _ | refine Ext.drew' ?_ | refine Ext.alloc' ?_ _ | refine Ext.trans' ?_ (by assumption)))⟩⟩
      (repeat (first | (refine obj_top _ _ ?_; simp; done) | refine obj_old _ ?_))
  case rest =>
    obtain ⟨q, rfl, hq, HI⟩ := hcut
    have HX5 := Lib.hid HI.out.1
    have HE5 := Lib.hid HI.out.2
    have HM5 := Lib.hid (HI.out.2.obj HM.out)
    clear HI ix c0 c1 c2 c3 c4 m0 m27 m28 mo0 mo27 d0 d1 d2 d3 d4
    have x0 := cell_obj (i := 0) HX5.out
    have x1 := cell_obj (i := 1) HX5.out
    have x2 := cell_obj (i := 2) HX5.out
    have x3 := cell_obj (i := 3) HX5.out
    have x4 := cell_obj (i := 4) HX5.out
    simp only [List.getElem?_toArray, List.getElem?_cons_zero, List.getElem?_cons_succ] at x0 x1 x2 x3 x4
    go_wp2_with fail
    refine (HWH.out _).mono ?_
    rintro e w6 ⟨rfl, hE6⟩
    have HX6 := Lib.hid (hE6.obj HX5.out)
    have HM6 := Lib.hid (hE6.obj HM5.out)
    have HE6 := Lib.hid (HE5.out.trans' hE6)
    clear hE6 x0 x1 x2 x3 x4 HX5 HM5 HE5
    go_upto_region 7 with fail
    have HY7 := Lib.hid (obj_top w6 (whObj ⟨12, 0, false, false, false, 0⟩) rfl)
    have HX7 := Lib.hid (obj_old (whObj ⟨12, 0, false, false, false, 0⟩) HX6.out)
    have HM7 := Lib.hid (obj_old (whObj ⟨12, 0, false, false, false, 0⟩) HM6.out)
    have HE7 := Lib.hid (HE6.out.alloc' (whObj ⟨12, 0, false, false, false, 0⟩))
    clear HX6 HM6 HE6
    simp only [whObj] at HY7 HX7 HM7 HE7
    generalize hF : w6.alloc (.cells #[.int .u8 12, .int .u8 0, .bool false, .bool false, .bool false, .int .i64 0] 90) = wa at HY7 HX7 HM7 HE7 ⊢
    generalize w6.heap.size = p at HY7 ⊢
    clear hF
    have x0 := cell_obj (i := 0) HX7.out
    have x1 := cell_obj (i := 1) HX7.out
    have x2 := cell_obj (i := 2) HX7.out
    have x3 := cell_obj (i := 3) HX7.out
    have x4 := cell_obj (i := 4) HX7.out
    have y0 := cell_obj (i := 0) HY7.out
    have y1 := cell_obj (i := 1) HY7.out
    have y2 := cell_obj (i := 2) HY7.out
    have y3 := cell_obj (i := 3) HY7.out
    have y4 := cell_obj (i := 4) HY7.out
    have y5 := cell_obj (i := 5) HY7.out
    simp only [List.getElem?_toArray, List.getElem?_cons_zero, List.getElem?_cons_succ] at x0 x1 x2 x3 x4 y0 y1 y2 y3 y4 y5
    go_wp2_with fail
    refine (HD.out _ HM7.out).mono ?_
    rintro e w8 ⟨rfl, hE8⟩
    have HM8 := Lib.hid (hE8.obj HM7.out)
    have HK8 : Hid (Keep [B] w w8) := Lib.hid (Keep.of_ext (HE7.out.trans' hE8))
    clear hE8 x0 x1 x2 x3 x4 y0 y1 y2 y3 y4 y5 HX7 HY7 HM7 HE7 HD HWH
    have m29 := cell_obj (i := 29) HM8.out
    have m28 := cell_obj (i := 28) HM8.out
    have mf := fun i => frozen_obj (i := i) HM8.out
    simp only [List.getElem?_toArray, List.getElem?_cons_zero, List.getElem?_cons_succ] at m29 m28
    have hlB := heap_lt HM8.out
    have hS1 := heap_setCell_same _ B 28 _ _ (.bool true) HM8.out
    have hS2 := heap_setCell_same _ B 29 _ _ (.int .i64 110) hS1
    have hS : ((w8.setCell ⟨B, 28, none⟩ (.bool true)).setCell ⟨B, 29, none⟩ (.int .i64 110)).heap[B]? = some (maObj (.slice ca cn cc) mem tab r0 false n1 s1 n10 s10 k true 110 steps) := by simpa using hS2
    have HS := Lib.hid hS
    have HKS := Lib.hid ((HK8.out.setCell (a := ⟨B, 28, none⟩) (by simp) (.bool true)).setCell (a := ⟨B, 29, none⟩) (by simp) (.int .i64 110))
    clear hS hS1 hS2
    go_wp2_with fail
    go_returns
    exact ⟨rfl, HS.out, HKS.out⟩
end
end Go.Proofs.YtlpeljpjgmapgaaGreat
