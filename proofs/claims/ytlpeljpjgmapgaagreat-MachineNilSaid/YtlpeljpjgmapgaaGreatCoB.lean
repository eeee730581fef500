/- code.wide, code.swaps. -/
import Derived.Test.YtlpeljpjgmapgaaGreatIns
import Derived.Deep.RegionHeld3
namespace Go.Proofs.YtlpeljpjgmapgaaGreat
open Go.RowKit
set_option linter.unusedVariables false
set_option linter.unusedSimpArgs false

def wideS (x : Ins) : Option Wh :=
  if x.dst = 10 ∨ x.off ≠ 0 then none else
  if x.src = 0 then some ⟨3, 0, true, false, false, 0⟩ else
  if x.src = 1 ∧ 0 ≤ x.imm then some ⟨4, 0, true, false, false, 0⟩ else none
def swapsS (x : Ins) : Option Wh :=
  if x.dst ≠ 10 ∧ zerosS x true true false = true ∧ (x.imm = 16 ∨ x.imm = 32 ∨ x.imm = 64) then some ⟨2, 0, x.op != 212, false, false, x.imm / 8⟩ else none
theorem wide_ok (x : Ins) (zd zo z0 z1 zi : Bool) (hd : (x.dst != 10) = zd) (ho : (x.off == 0) = zo) (h0 : (x.src == 0) = z0) (h1 : (x.src == 1) = z1) (hi : decide (x.imm ≥ 0) = zi) :
    wideS x = if (zd && zo) = true then (if z0 then some ⟨3, 0, true, false, false, 0⟩ else if z1 && zi then some ⟨4, 0, true, false, false, 0⟩ else none) else none := by
  subst hd ho h0 h1 hi
  unfold wideS
  by_cases h1 : x.dst = 10 <;> by_cases h2 : x.off = 0 <;> by_cases h3 : x.src = 0 <;> by_cases h4 : x.src = 1 <;> by_cases h5 : 0 ≤ x.imm <;> simp [h1, h2, h3, h4, h5]
theorem swaps_ok (x : Ins) (n : Int) (zd zs i1 i3 i6 wd : Bool) (hn : (x.imm = 16 → n = 2) ∧ (x.imm = 32 → n = 4) ∧ (x.imm = 64 → n = 8)) (hd : (x.dst != 10) = zd) (hs : zerosS x true true false = zs) (h1 : (x.imm == 16) = i1) (h3 : (x.imm == 32) = i3) (h6 : (x.imm == 64) = i6) (hw : (x.op != 212) = wd) :
    swapsS x = if (zd && (zs && (i1 || (i3 || i6)))) = true then some ⟨2, 0, wd, false, false, n⟩ else none := by
  subst hd h1 h3 h6 hw
  unfold swapsS
  rw [hs]
  by_cases h1 : x.dst = 10
  · simp [h1]
  · cases zs
    · simp
    · by_cases h2 : x.imm = 16
      · simp [h1, h2, hn.1 h2]
      · by_cases h3 : x.imm = 32
        · simp [h1, h3, hn.2.1 h3]
        · by_cases h4 : x.imm = 64
          · simp [h1, h4, hn.2.2 h4]
          · simp [h2, h3, h4]
set_option maxRecDepth 20000 in
set_option maxHeartbeats 4000000 in
theorem p_wide (x : Ins) (w : World) : Calls Tryz.prog 94 #[x.agg] w (WhA (wideS x) w) := by
  obtain ⟨zd, hd⟩ : ∃ z, (x.dst != 10) = z := ⟨_, rfl⟩
  obtain ⟨zo, ho⟩ : ∃ z, (x.off == 0) = z := ⟨_, rfl⟩
  obtain ⟨z0, h0⟩ : ∃ z, (x.src == 0) = z := ⟨_, rfl⟩
  obtain ⟨z1, h1⟩ : ∃ z, (x.src == 1) = z := ⟨_, rfl⟩
  obtain ⟨zi, hi⟩ : ∃ z, decide (x.imm ≥ 0) = z := ⟨_, rfl⟩
  have HAR := Lib.hid (wide_ok x zd zo z0 z1 zi hd ho h0 h1 hi)
  go_enter Tryz.func94, Tryz.ntmps94
  go_upto_region 1 with fail
  go_cut [4] (fun v wx => v = .bool (zd && zo) ∧ Hid (Ext w wx ∧ wx.heap[w.heap.size]? = some (insObj x) ∧ wx.heap[w.heap.size + 1]? = some (whObj Wh.zero)))
  case first =>
    cases zd
    all_goals
      go_wp2_with fail
      go_meet
      refine ⟨by simp, Lib.hid ⟨by (repeat (first | exact Ext.rfl' _ | assumption | refine Ext.drewN' ?_ _ | refine Ext.drew' ?_ | refine Ext.alloc' ?_ _ | refine Ext.trans' ?_ (by assumption))), ?_, ?_⟩⟩
      · (repeat (first | (refine obj_top _ _ ?_; simp; done) | refine obj_old _ ?_))
      · (repeat (first | (refine obj_top _ _ ?_; simp; done) | refine obj_old _ ?_))
  case rest =>
    obtain ⟨rfl, HW⟩ := hcut
    generalize (zd && zo) = ok at *
    have HO1 := Lib.hid HW.out.2.1
    have HO2 := Lib.hid HW.out.2.2
    have HO3 := HO2
    have HE := Lib.hid HW.out.1
    (have o1 := HO1.out; have o2 := HO2.out; have o3 := HO3.out; have a0 := cell_obj (i := 0) o1; have a1 := cell_obj (i := 1) o1; have a2 := cell_obj (i := 2) o1; have a3 := cell_obj (i := 3) o1; have a4 := cell_obj (i := 4) o1; have b0 := cell_obj (i := 0) o2; have b1 := cell_obj (i := 1) o2; have b2 := cell_obj (i := 2) o2; have b3 := cell_obj (i := 3) o2; have b4 := cell_obj (i := 4) o2; have b5 := cell_obj (i := 5) o2; have bf := fun i => frozen_obj (i := i) o2; have q0 := cell_obj (i := 0) o3; have q1 := cell_obj (i := 1) o3; have q2 := cell_obj (i := 2) o3; have q3 := cell_obj (i := 3) o3; have q4 := cell_obj (i := 4) o3; have q5 := cell_obj (i := 5) o3; simp only [List.getElem?_toArray, List.getElem?_cons_zero, List.getElem?_cons_succ] at a0 a1 a2 a3 a4 b0 b1 b2 b3 b4 b5 q0 q1 q2 q3 q4 q5; clear o1 o2 o3)
    cases z0 with
    | true =>
      have HSF := Lib.hid (set6 HO2.out HE.out (Nat.le_succ _) 3 0 true false false 0)
      go_wp2_with fail
      (repeat (first | go_values | go_skip | go_step))
      all_goals
        (have hsf := HSF.out; generalize hF : (World.setCell (World.setCell (World.setCell (World.setCell (World.setCell (World.setCell wc ⟨w.heap.size + 1, 0, none⟩ (.int .u8 3)) ⟨w.heap.size + 1, 1, none⟩ (.int .u8 0)) ⟨w.heap.size + 1, 2, none⟩ (.bool true)) ⟨w.heap.size + 1, 3, none⟩ (.bool false)) ⟨w.heap.size + 1, 4, none⟩ (.bool false)) ⟨w.heap.size + 1, 5, none⟩ (.int .i64 0)) = wF at hsf ⊢; obtain ⟨hs, he⟩ := hsf; clear hF; (try simp only [Exit.then]); (repeat (first | go_skip | go_step)); have r0 := cell_obj (i := 0) hs; have r1 := cell_obj (i := 1) hs; have r2 := cell_obj (i := 2) hs; have r3 := cell_obj (i := 3) hs; have r4 := cell_obj (i := 4) hs; have r5 := cell_obj (i := 5) hs; simp only [List.getElem?_toArray, List.getElem?_cons_zero, List.getElem?_cons_succ] at r0 r1 r2 r3 r4 r5; refine bodyPost_ret (by simp [results, Tryz.results94, go_sem, r0, r1, r2, r3, r4, r5]; try rfl) rfl ?_)
        exact ⟨⟨3, 0, true, false, false, 0⟩, _, rfl, HAR.out, by (repeat (first | exact Ext.rfl' _ | assumption | refine Ext.drewN' ?_ _ | refine Ext.drew' ?_ | refine Ext.alloc' ?_ _ | refine Ext.trans' ?_ (by assumption)))⟩
    | false =>
      cases z1 with
      | true =>
        have HSF := Lib.hid (set6 HO2.out HE.out (Nat.le_succ _) 4 0 true false false 0)
        cases ok with
        | true =>
          go_wp2_with fail
          go_region
          all_goals
            (have hsf := HSF.out; generalize hF : (World.setCell (World.setCell (World.setCell (World.setCell (World.setCell (World.setCell wc ⟨w.heap.size + 1, 0, none⟩ (.int .u8 4)) ⟨w.heap.size + 1, 1, none⟩ (.int .u8 0)) ⟨w.heap.size + 1, 2, none⟩ (.bool true)) ⟨w.heap.size + 1, 3, none⟩ (.bool false)) ⟨w.heap.size + 1, 4, none⟩ (.bool false)) ⟨w.heap.size + 1, 5, none⟩ (.int .i64 0)) = wF at hsf ⊢; obtain ⟨hs, he⟩ := hsf; clear hF; (try simp only [Exit.then]); (repeat (first | go_skip | go_step)); have r0 := cell_obj (i := 0) hs; have r1 := cell_obj (i := 1) hs; have r2 := cell_obj (i := 2) hs; have r3 := cell_obj (i := 3) hs; have r4 := cell_obj (i := 4) hs; have r5 := cell_obj (i := 5) hs; simp only [List.getElem?_toArray, List.getElem?_cons_zero, List.getElem?_cons_succ] at r0 r1 r2 r3 r4 r5; refine bodyPost_ret (by simp [results, Tryz.results94, go_sem, r0, r1, r2, r3, r4, r5]; try rfl) rfl ?_)
            exact ⟨⟨4, 0, true, false, false, 0⟩, zi, rfl, HAR.out, by (repeat (first | exact Ext.rfl' _ | assumption | refine Ext.drewN' ?_ _ | refine Ext.drew' ?_ | refine Ext.alloc' ?_ _ | refine Ext.trans' ?_ (by assumption)))⟩
        | false =>
          go_wp2_with fail
          go_region
          all_goals
            (have hsf := HSF.out; generalize hF : (World.setCell (World.setCell (World.setCell (World.setCell (World.setCell (World.setCell wc ⟨w.heap.size + 1, 0, none⟩ (.int .u8 4)) ⟨w.heap.size + 1, 1, none⟩ (.int .u8 0)) ⟨w.heap.size + 1, 2, none⟩ (.bool true)) ⟨w.heap.size + 1, 3, none⟩ (.bool false)) ⟨w.heap.size + 1, 4, none⟩ (.bool false)) ⟨w.heap.size + 1, 5, none⟩ (.int .i64 0)) = wF at hsf ⊢; obtain ⟨hs, he⟩ := hsf; clear hF; (try simp only [Exit.then]); (repeat (first | go_skip | go_step)); have r0 := cell_obj (i := 0) hs; have r1 := cell_obj (i := 1) hs; have r2 := cell_obj (i := 2) hs; have r3 := cell_obj (i := 3) hs; have r4 := cell_obj (i := 4) hs; have r5 := cell_obj (i := 5) hs; simp only [List.getElem?_toArray, List.getElem?_cons_zero, List.getElem?_cons_succ] at r0 r1 r2 r3 r4 r5; refine bodyPost_ret (by simp [results, Tryz.results94, go_sem, r0, r1, r2, r3, r4, r5]; try rfl) rfl ?_)
            exact ⟨⟨4, 0, true, false, false, 0⟩, false, rfl, HAR.out, by (repeat (first | exact Ext.rfl' _ | assumption | refine Ext.drewN' ?_ _ | refine Ext.drew' ?_ | refine Ext.alloc' ?_ _ | refine Ext.trans' ?_ (by assumption)))⟩
      | false =>
        have HSF := Lib.hid (set6 HO2.out HE.out (Nat.le_succ _) 0 0 false false false 0)
        go_wp2_with fail
        (repeat (first | go_values | go_skip | go_step))
        all_goals
          (have hsf := HSF.out; generalize hF : (World.setCell (World.setCell (World.setCell (World.setCell (World.setCell (World.setCell wc ⟨w.heap.size + 1, 0, none⟩ (.int .u8 0)) ⟨w.heap.size + 1, 1, none⟩ (.int .u8 0)) ⟨w.heap.size + 1, 2, none⟩ (.bool false)) ⟨w.heap.size + 1, 3, none⟩ (.bool false)) ⟨w.heap.size + 1, 4, none⟩ (.bool false)) ⟨w.heap.size + 1, 5, none⟩ (.int .i64 0)) = wF at hsf ⊢; obtain ⟨hs, he⟩ := hsf; clear hF; (try simp only [Exit.then]); (repeat (first | go_skip | go_step)); have r0 := cell_obj (i := 0) hs; have r1 := cell_obj (i := 1) hs; have r2 := cell_obj (i := 2) hs; have r3 := cell_obj (i := 3) hs; have r4 := cell_obj (i := 4) hs; have r5 := cell_obj (i := 5) hs; simp only [List.getElem?_toArray, List.getElem?_cons_zero, List.getElem?_cons_succ] at r0 r1 r2 r3 r4 r5; refine bodyPost_ret (by simp [results, Tryz.results94, go_sem, r0, r1, r2, r3, r4, r5]; try rfl) rfl ?_)
          exact ⟨Wh.zero, false, rfl, by rw [HAR.out]; cases ok <;> rfl, by (repeat (first | exact Ext.rfl' _ | assumption | refine Ext.drewN' ?_ _ | refine Ext.drew' ?_ | refine Ext.alloc' ?_ _ | refine Ext.trans' ?_ (by assumption)))⟩
end Go.Proofs.YtlpeljpjgmapgaaGreat
