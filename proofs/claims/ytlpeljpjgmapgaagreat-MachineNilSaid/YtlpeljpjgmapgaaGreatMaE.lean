/- machine: Run on two small programs; hacklelaw11: shown; a nil machine. -/
import Derived.Test.YtlpeljpjgmapgaaGreatMaB
import Derived.Test.YtlpeljpjgmapgaaGreatMaD
namespace Go.Proofs.YtlpeljpjgmapgaaGreat
open Go.RowKit
set_option linter.unusedVariables false
set_option linter.unusedSimpArgs false

abbrev endObj (code at_ r0 steps : Int) : Obj := .cells #[.int .i64 code, .int .i64 at_, .int .u64 r0, .int .i64 steps, .slice none 0 0, .slice none 0 0] 40 (0, 0)
abbrev endV (code at_ r0 steps : Int) : Value := .agg #[.int .i64 code, .int .i64 at_, .int .u64 r0, .int .i64 steps, .slice none 0 0, .slice none 0 0]
theorem set6E {F : List Nat} {w0 w : World} {B : Nat} {c0 a0 r0 s0 : Int} (h : w.heap[B]? = some (endObj c0 a0 r0 s0)) (he : Keep F w0 w) (hb : w0.heap.size ≤ B) (c a r s : Int) :
    ((((((w.setCell ⟨B, 0, none⟩ (.int .i64 c)).setCell ⟨B, 1, none⟩ (.int .i64 a)).setCell ⟨B, 2, none⟩ (.int .u64 r)).setCell ⟨B, 3, none⟩ (.int .i64 s)).setCell ⟨B, 4, none⟩ (.slice none 0 0)).setCell ⟨B, 5, none⟩ (.slice none 0 0)).heap[B]? = some (endObj c a r s) ∧
    Keep F w0 ((((((w.setCell ⟨B, 0, none⟩ (.int .i64 c)).setCell ⟨B, 1, none⟩ (.int .i64 a)).setCell ⟨B, 2, none⟩ (.int .u64 r)).setCell ⟨B, 3, none⟩ (.int .i64 s)).setCell ⟨B, 4, none⟩ (.slice none 0 0)).setCell ⟨B, 5, none⟩ (.slice none 0 0)) := by
  have h1 := heap_setCell_same w B 0 _ _ (.int .i64 c) h
  have h2 := heap_setCell_same _ B 1 _ _ (.int .i64 a) h1
  have h3 := heap_setCell_same _ B 2 _ _ (.int .u64 r) h2
  have h4 := heap_setCell_same _ B 3 _ _ (.int .i64 s) h3
  have h5 := heap_setCell_same _ B 4 _ _ (.slice none 0 0) h4
  have h6 := heap_setCell_same _ B 5 _ _ (.slice none 0 0) h5
  refine ⟨by simpa using h6, ?_⟩
  have k : Keep (B :: F) w0 w := he.mono (fun k hk => .inl (List.mem_cons_of_mem _ hk))
  have k2 := (((((k.setCell (a := ⟨B, 0, none⟩) (by simp) (.int .i64 c)).setCell (a := ⟨B, 1, none⟩) (by simp) (.int .i64 a)).setCell (a := ⟨B, 2, none⟩) (by simp) (.int .u64 r)).setCell (a := ⟨B, 3, none⟩) (by simp) (.int .i64 s)).setCell (a := ⟨B, 4, none⟩) (by simp) (.slice none 0 0)).setCell (a := ⟨B, 5, none⟩) (by simp) (.slice none 0 0)
  exact k2.mono (fun j hj => by
    rcases List.mem_cons.1 hj with rfl | hj
    · exact .inr hb
    · exact .inl hj)
section
variable {ca : Option Addr} {cn cc : Nat} {mem tab : Value} {n1 : Int} {s1 : Bool} {n10 : Int} {s10 : Bool}
set_option maxRecDepth 20000 in
set_option maxHeartbeats 4000000 in
theorem run7 (B : Nat) (w : World) (h : w.heap[B]? = some (maObj (.slice ca cn cc) mem tab 0 false n1 s1 n10 s10 0 false 0 0)) (hcB : ∀ W, Keep [B] w W → Rd W 5 Ins.enc (.slice ca cn cc) [x7, xE]) :
    Calls Tryz.prog 12 #[.pointer (some ⟨B, 0, none⟩), .int .i64 10] w fun e w' => e = .returned (endV 0 1 7 2) ∧ Keep [B] w w' := by
  have HM := Lib.hid h
  have HCB := Lib.hid hcB
  clear h hcB
  have hBw := heap_lt HM.out
  go_enter Tryz.func12, Tryz.ntmps12
  go_upto_region 1 with fail
  have HO := Lib.hid (obj_top w (endObj 0 0 0 0) rfl)
  have HM1 := Lib.hid (obj_old (endObj 0 0 0 0) HM.out)
  have HK1 : Hid (Keep [B] w (w.alloc (endObj 0 0 0 0))) := Lib.hid (Keep.of_ext (by (repeat (first | exact Ext.rfl' _ | assumption | refine Ext.drewN' ?_ _ | refine Ext.drew' ?_ | refine Ext.alloc' ?_ _ | refine Ext.trans' ?_ (by assumption)))))
  simp only [endObj] at HO HM1 HK1
  generalize hF : w.alloc (.cells #[.int .i64 0, .int .i64 0, .int .u64 0, .int .i64 0, .slice none 0 0, .slice none 0 0] 40) = wa at HO HM1 HK1 ⊢
  clear hF
  have m28 := cell_obj (i := 28) HM1.out
  have m30 := cell_obj (i := 30) HM1.out
  simp only [List.getElem?_toArray, List.getElem?_cons_zero, List.getElem?_cons_succ] at m28 m30
  go_wp2_with fail
  refine wp_loop_rounds 3 ?_
  rw [rounds_succ]
  go_wp2_with fail
  refine (step7 (ca := ca) (cn := cn) (cc := cc) (mem := mem) (tab := tab) (n1 := n1) (s1 := s1) (n10 := n10) (s10 := s10) (steps := 0) B [x7, xE] 0 wa HM1.out (HCB.out _ HK1.out) (fun W hW => HCB.out _ (HK1.out.trans hW)) rfl (by decide) (by decide)).mono ?_
  rintro e w5 ⟨rfl, h5, hk5⟩
  have HM5 := Lib.hid h5
  have HO5 := Lib.hid (hk5.obj HO.out (by simp; omega))
  have HK5 := Lib.hid (HK1.out.trans hk5)
  clear h5 hk5 HO HM1 HK1 m28 m30
  have m28 := cell_obj (i := 28) HM5.out
  have m30 := cell_obj (i := 30) HM5.out
  simp only [List.getElem?_toArray, List.getElem?_cons_zero, List.getElem?_cons_succ] at m28 m30
  go_wp2_with fail
  rw [rounds_succ]
  go_wp2_with fail
  refine (stepE (ca := ca) (cn := cn) (cc := cc) (mem := mem) (tab := tab) (n1 := n1) (s1 := s1) (n10 := n10) (s10 := s10) (r0 := 7) (steps := 1) B [x7, xE] 1 w5 HM5.out (HCB.out _ HK5.out) (fun W hW => HCB.out _ (HK5.out.trans hW)) rfl (by decide) (by decide)).mono ?_
  rintro e w6 ⟨rfl, h6, hk6⟩
  have HM6 := Lib.hid h6
  have HO6 := Lib.hid (hk6.obj HO5.out (by simp; omega))
  have HK6 := Lib.hid (HK5.out.trans hk6)
  clear h6 hk6 HO5 HM5 HK5 m28 m30
  have m28 := cell_obj (i := 28) HM6.out
  simp only [List.getElem?_toArray, List.getElem?_cons_zero, List.getElem?_cons_succ] at m28
  go_wp2_with fail
  rw [rounds_succ]
  go_upto_region 5 with fail
  have mo29 := fun o => cell_obj (i := 29) (obj_old o HM6.out)
  have mo27 := fun o => cell_obj (i := 27) (obj_old o HM6.out)
  have mo30 := fun o => cell_obj (i := 30) (obj_old o HM6.out)
  have m29 := cell_obj (i := 29) HM6.out
  have m27 := cell_obj (i := 27) HM6.out
  have m30 := cell_obj (i := 30) HM6.out
  simp only [List.getElem?_toArray, List.getElem?_cons_zero, List.getElem?_cons_succ] at mo29 mo27 mo30 m29 m27 m30
  have hlB := heap_lt HM6.out
  obtain ⟨Z, hZ⟩ : ∃ Z, Z = w.heap.size := ⟨_, rfl⟩
  rw [← hZ] at HO6 ⊢
  have HZ := Lib.hid hZ
  clear hZ
  go_cut [5] from 27 to 40 (fun v5 wx => ∃ q : Nat, v5 = .pointer (some ⟨q, 0, none⟩) ∧ q < wx.heap.size ∧ Hid (wx.heap[q]? = some (endObj 0 1 0 2) ∧ w6.heap.size ≤ q ∧ Ext w6 wx))
  case first =>
    go_region
    all_goals
      go_wp2_with fail
      go_meet
      refine ⟨_, rfl, by simp, Lib.hid ⟨?_, by simp, by (repeat (first | exact Ext.rfl' _ | assumption | refine Ext.drewN' ?_ _ | refine Ext.drew' ?_ | refine Ext.alloc' ?_ _ | refine Ext.trans' ?_ (by assumption)))⟩⟩
      (repeat (first | (refine obj_top _ _ ?_; simp; done) | refine obj_old _ ?_))
  case rest =>
    obtain ⟨q, rfl, hq, HI⟩ := hcut
    have HQ := Lib.hid HI.out.1
    have hq6 := HI.out.2.1
    have HM7 := Lib.hid (HI.out.2.2.obj HM6.out)
    have HO7 := Lib.hid (HI.out.2.2.obj HO6.out)
    have HK7 := Lib.hid (HK6.out.trans (Keep.of_ext HI.out.2.2))
    have hz6 := HK6.out.size
    have hOZ := heap_lt HO6.out
    clear HI HM6 HO6 HK6 mo29 mo27 mo30 m29 m27 m30 hlB m28
    have m28 := cell_obj (i := 28) HM7.out
    have m29 := cell_obj (i := 29) HM7.out
    have m1 := cell_obj (i := 1) HM7.out
    have q2 := cell_obj (i := 2) HQ.out
    have qf := fun i => frozen_obj (i := i) HQ.out
    simp only [List.getElem?_toArray, List.getElem?_cons_zero, List.getElem?_cons_succ] at m28 m29 m1 q2
    have hQ2 := heap_setCell_same _ q 2 _ _ (.int .u64 7) HQ.out
    simp at hQ2
    have HQ2 := Lib.hid hQ2
    have HM8 := Lib.hid (show (wc.setCell ⟨q, 2, none⟩ (.int .u64 7)).heap[B]? = _ from (heap_setCell_other _ _ _ _ (by simp; omega)).trans HM7.out)
    have HO8 := Lib.hid (show (wc.setCell ⟨q, 2, none⟩ (.int .u64 7)).heap[Z]? = _ from (heap_setCell_other _ _ _ _ (by simp; omega)).trans HO7.out)
    have HK8 : Hid (Keep [B] w (wc.setCell ⟨q, 2, none⟩ (.int .u64 7))) := Lib.hid (HK7.out.through ((Keep.rfl' [q] _).setCell (by simp) _) (fun j hj => .inr (by simp at hj; omega)))
    clear hQ2
    go_upto_region 10 with fail
    generalize hF : World.setCell wc ⟨q, 2, none⟩ (.int .u64 7) = wd at HQ2 HM8 HO8 HK8 ⊢
    clear hF m28 m29 m1 q2 qf
    have m25 := cell_obj (i := 25) HM8.out
    have m31 := cell_obj (i := 31) HM8.out
    have q0 := cell_obj (i := 0) HQ2.out
    have q1 := cell_obj (i := 1) HQ2.out
    have q2 := cell_obj (i := 2) HQ2.out
    have q3 := cell_obj (i := 3) HQ2.out
    have q4 := cell_obj (i := 4) HQ2.out
    have q5 := cell_obj (i := 5) HQ2.out
    have z0 := cell_obj (i := 0) HO8.out
    have z1 := cell_obj (i := 1) HO8.out
    have z2 := cell_obj (i := 2) HO8.out
    have z3 := cell_obj (i := 3) HO8.out
    have z4 := cell_obj (i := 4) HO8.out
    have z5 := cell_obj (i := 5) HO8.out
    have zf := fun i => frozen_obj (i := i) HO8.out
    simp only [List.getElem?_toArray, List.getElem?_cons_zero, List.getElem?_cons_succ] at m25 m31 q0 q1 q2 q3 q4 q5 z0 z1 z2 z3 z4 z5
    have hlz := heap_lt HO8.out
    have HSF := Lib.hid (set6E HO8.out HK8.out (by rw [HZ.out]; exact Nat.le_refl _) 0 1 7 2)
    go_wp2_with fail
    refine wp_loop_rounds 1 ?_
    rw [rounds_succ]
    go_wp2_with fail
    refine wp_loop_rounds 1 ?_
    rw [rounds_succ]
    go_wp2_with fail
    have hsf := HSF.out
    generalize hF : World.setCell _ _ (Value.slice none 0 0) = wF at hsf ⊢
    obtain ⟨hs, he⟩ := hsf
    clear hF
    (try simp only [Exit.then])
    (repeat (first | go_skip | go_step))
    have r0 := cell_obj (i := 0) hs
    have r1 := cell_obj (i := 1) hs
    have r2 := cell_obj (i := 2) hs
    have r3 := cell_obj (i := 3) hs
    have r4 := cell_obj (i := 4) hs
    have r5 := cell_obj (i := 5) hs
    simp only [List.getElem?_toArray, List.getElem?_cons_zero, List.getElem?_cons_succ] at r0 r1 r2 r3 r4 r5
    refine bodyPost_ret (by simp [results, Tryz.results12, go_sem, r0, r1, r2, r3, r4, r5]; try rfl) rfl ?_
    exact ⟨rfl, he⟩
set_option maxRecDepth 20000 in
set_option maxHeartbeats 4000000 in
theorem runU (B : Nat) (w : World) (h : w.heap[B]? = some (maObj (.slice ca cn cc) mem tab 0 false n1 s1 n10 s10 0 false 0 0)) (hcB : ∀ W, Keep [B] w W → Rd W 5 Ins.enc (.slice ca cn cc) [xE]) :
    Calls Tryz.prog 12 #[.pointer (some ⟨B, 0, none⟩), .int .i64 10] w fun e w' => e = .returned (endV 110 0 0 0) ∧ Keep [B] w w' := by
  have HM := Lib.hid h
  have HCB := Lib.hid hcB
  clear h hcB
  have hBw := heap_lt HM.out
  go_enter Tryz.func12, Tryz.ntmps12
  go_upto_region 1 with fail
  have HO := Lib.hid (obj_top w (endObj 0 0 0 0) rfl)
  have HM1 := Lib.hid (obj_old (endObj 0 0 0 0) HM.out)
  have HK1 : Hid (Keep [B] w (w.alloc (endObj 0 0 0 0))) := Lib.hid (Keep.of_ext (by (repeat (first | exact Ext.rfl' _ | assumption | refine Ext.drewN' ?_ _ | refine Ext.drew' ?_ | refine Ext.alloc' ?_ _ | refine Ext.trans' ?_ (by assumption)))))
  simp only [endObj] at HO HM1 HK1
  generalize hF : w.alloc (.cells #[.int .i64 0, .int .i64 0, .int .u64 0, .int .i64 0, .slice none 0 0, .slice none 0 0] 40) = wa at HO HM1 HK1 ⊢
  clear hF
  have m28 := cell_obj (i := 28) HM1.out
  have m30 := cell_obj (i := 30) HM1.out
  simp only [List.getElem?_toArray, List.getElem?_cons_zero, List.getElem?_cons_succ] at m28 m30
  go_wp2_with fail
  refine wp_loop_rounds 2 ?_
  rw [rounds_succ]
  go_wp2_with fail
  refine (stepU (ca := ca) (cn := cn) (cc := cc) (mem := mem) (tab := tab) (n1 := n1) (s1 := s1) (n10 := n10) (s10 := s10) (r0 := 0) (steps := 0) B [xE] 0 wa HM1.out (HCB.out _ HK1.out) (fun W hW => HCB.out _ (HK1.out.trans hW)) rfl (by decide) (by decide)).mono ?_
  rintro e w6 ⟨rfl, h6, hk6⟩
  have HM6 := Lib.hid h6
  have HO6 := Lib.hid (hk6.obj HO.out (by simp; omega))
  have HK6 := Lib.hid (HK1.out.trans hk6)
  clear h6 hk6 HO HM1 HK1 m28 m30
  have m28 := cell_obj (i := 28) HM6.out
  simp only [List.getElem?_toArray, List.getElem?_cons_zero, List.getElem?_cons_succ] at m28
  go_wp2_with fail
  rw [rounds_succ]
  go_upto_region 5 with fail
  have mo29 := fun o => cell_obj (i := 29) (obj_old o HM6.out)
  have mo27 := fun o => cell_obj (i := 27) (obj_old o HM6.out)
  have mo30 := fun o => cell_obj (i := 30) (obj_old o HM6.out)
  have m29 := cell_obj (i := 29) HM6.out
  have m27 := cell_obj (i := 27) HM6.out
  have m30 := cell_obj (i := 30) HM6.out
  simp only [List.getElem?_toArray, List.getElem?_cons_zero, List.getElem?_cons_succ] at mo29 mo27 mo30 m29 m27 m30
  have hlB := heap_lt HM6.out
  obtain ⟨Z, hZ⟩ : ∃ Z, Z = w.heap.size := ⟨_, rfl⟩
  rw [← hZ] at HO6 ⊢
  have HZ := Lib.hid hZ
  clear hZ
  go_cut [5] from 27 to 40 (fun v5 wx => ∃ q : Nat, v5 = .pointer (some ⟨q, 0, none⟩) ∧ q < wx.heap.size ∧ Hid (wx.heap[q]? = some (endObj 110 0 0 0) ∧ w6.heap.size ≤ q ∧ Ext w6 wx))
  case first =>
    go_region
    all_goals
      go_wp2_with fail
      go_meet
      refine ⟨_, rfl, by simp, Lib.hid ⟨?_, by simp, by (repeat (first | exact Ext.rfl' _ | assumption | refine Ext.drewN' ?_ _ | refine Ext.drew' ?_ | refine Ext.alloc' ?_ _ | refine Ext.trans' ?_ (by assumption)))⟩⟩
      (repeat (first | (refine obj_top _ _ ?_; simp; done) | refine obj_old _ ?_))
  case rest =>
    obtain ⟨q, rfl, hq, HI⟩ := hcut
    have HQ := Lib.hid HI.out.1
    have hq6 := HI.out.2.1
    have HM7 := Lib.hid (HI.out.2.2.obj HM6.out)
    have HO7 := Lib.hid (HI.out.2.2.obj HO6.out)
    have HK7 := Lib.hid (HK6.out.trans (Keep.of_ext HI.out.2.2))
    have hz6 := HK6.out.size
    have hOZ := heap_lt HO6.out
    clear HI HM6 HO6 HK6 mo29 mo27 mo30 m29 m27 m30 hlB m28
    have m28 := cell_obj (i := 28) HM7.out
    have m29 := cell_obj (i := 29) HM7.out
    have m1 := cell_obj (i := 1) HM7.out
    have q2 := cell_obj (i := 2) HQ.out
    have qf := fun i => frozen_obj (i := i) HQ.out
    simp only [List.getElem?_toArray, List.getElem?_cons_zero, List.getElem?_cons_succ] at m28 m29 m1 q2
    have HQ2 := Lib.hid HQ.out
    have HM8 := Lib.hid HM7.out
    have HO8 := Lib.hid HO7.out
    have HK8 := Lib.hid HK7.out
    go_upto_region 10 with fail
    clear m28 m29 m1 q2 qf
    have m25 := cell_obj (i := 25) HM8.out
    have m31 := cell_obj (i := 31) HM8.out
    have q0 := cell_obj (i := 0) HQ2.out
    have q1 := cell_obj (i := 1) HQ2.out
    have q2 := cell_obj (i := 2) HQ2.out
    have q3 := cell_obj (i := 3) HQ2.out
    have q4 := cell_obj (i := 4) HQ2.out
    have q5 := cell_obj (i := 5) HQ2.out
    have z0 := cell_obj (i := 0) HO8.out
    have z1 := cell_obj (i := 1) HO8.out
    have z2 := cell_obj (i := 2) HO8.out
    have z3 := cell_obj (i := 3) HO8.out
    have z4 := cell_obj (i := 4) HO8.out
    have z5 := cell_obj (i := 5) HO8.out
    have zf := fun i => frozen_obj (i := i) HO8.out
    simp only [List.getElem?_toArray, List.getElem?_cons_zero, List.getElem?_cons_succ] at m25 m31 q0 q1 q2 q3 q4 q5 z0 z1 z2 z3 z4 z5
    have hlz := heap_lt HO8.out
    have HSF := Lib.hid (set6E HO8.out HK8.out (by rw [HZ.out]; exact Nat.le_refl _) 110 0 0 0)
    go_wp2_with fail
    refine wp_loop_rounds 1 ?_
    rw [rounds_succ]
    go_wp2_with fail
    refine wp_loop_rounds 1 ?_
    rw [rounds_succ]
    go_wp2_with fail
    have hsf := HSF.out
    generalize hF : World.setCell _ _ (Value.slice none 0 0) = wF at hsf ⊢
    obtain ⟨hs, he⟩ := hsf
    clear hF
    (try simp only [Exit.then])
    (repeat (first | go_skip | go_step))
    have r0 := cell_obj (i := 0) hs
    have r1 := cell_obj (i := 1) hs
    have r2 := cell_obj (i := 2) hs
    have r3 := cell_obj (i := 3) hs
    have r4 := cell_obj (i := 4) hs
    have r5 := cell_obj (i := 5) hs
    simp only [List.getElem?_toArray, List.getElem?_cons_zero, List.getElem?_cons_succ] at r0 r1 r2 r3 r4 r5
    refine bodyPost_ret (by simp [results, Tryz.results12, go_sem, r0, r1, r2, r3, r4, r5]; try rfl) rfl ?_
    exact ⟨rfl, he⟩
end
set_option maxHeartbeats 1000000 in
theorem nil_Reg (i : Int) (w : World) : Calls Tryz.prog 16 #[.pointer none, .int .i64 i] w fun e w' => e = .returned (.tuple #[.int .u64 0, .bool false]) ∧ w' = w := by
  go_enter Tryz.func16, Tryz.ntmps16
  go_wp2_with fail
  go_returns
  exact ⟨rfl, rfl⟩
set_option maxHeartbeats 1000000 in
theorem nil_Step (w : World) : Calls Tryz.prog 15 #[.pointer none] w fun e w' => e = .returned (.int .i64 2) ∧ w' = w := by
  go_enter Tryz.func15, Tryz.ntmps15
  go_wp2_with fail
  go_returns
  exact ⟨rfl, rfl⟩
set_option maxHeartbeats 1000000 in
theorem nil_At (w : World) : Calls Tryz.prog 20 #[.pointer none] w fun e w' => e = .returned (.int .i64 0) ∧ w' = w := by
  go_enter Tryz.func20, Tryz.ntmps20
  go_wp2_with fail
  go_returns
  exact ⟨rfl, rfl⟩
set_option maxHeartbeats 1000000 in
theorem nil_Over (w : World) : Calls Tryz.prog 14 #[.pointer none] w fun e w' => e = .returned (.bool false) ∧ w' = w := by
  go_enter Tryz.func14, Tryz.ntmps14
  go_wp2_with fail
  go_returns
  exact ⟨rfl, rfl⟩
set_option maxHeartbeats 1000000 in
theorem nil_Run (n : Int) (w : World) : Calls Tryz.prog 12 #[.pointer none, .int .i64 n] w fun e w' => e = .returned (endV 2 0 0 0) ∧ Ext w w' := by
  go_enter Tryz.func12, Tryz.ntmps12
  go_wp2_with fail
  refine (bodyPost_ret (by simp [results, Tryz.results12, go_sem]; try rfl) rfl ?_)
  exact ⟨rfl, by (repeat (first | exact Ext.rfl' _ | assumption | refine Ext.drewN' ?_ _ | refine Ext.drew' ?_ | refine Ext.alloc' ?_ _ | refine Ext.trans' ?_ (by assumption)))⟩
theorem field_end (k a b c d e : Value) (W : World) : (Instr.field 40 (.agg #[k, a, b, c, d, e]) 0).run Tryz.prog W = .ok k W := by kernel_rfl
theorem progA : progS [x7, xE] = true := by decide +kernel
theorem progB : progS [xE] = true := by decide +kernel
theorem okA : InsOk [x7, xE] := by
  intro x hx
  simp only [List.mem_cons, List.not_mem_nil, or_false] at hx
  rcases hx with rfl | rfl
  · exact ok7
  · exact okE
theorem okB : InsOk [xE] := by
  intro x hx
  simp only [List.mem_cons, List.not_mem_nil, or_false] at hx
  rcases hx with rfl
  exact okE
set_option maxRecDepth 20000 in
set_option maxHeartbeats 4000000 in
theorem ma_shown (w : World) : Calls Tryz.prog 8 #[] w fun e w' => e = .returned (.bool true) ∧ Ext w w' := by
  go_enter Tryz.func8, Tryz.ntmps8
  go_wp2_with fail
  refine (ma_new0 _ [x7, xE] _ ((Own.lit enc_ins (base := 0) (w := w) [x7, xE] rfl rfl (Nat.zero_le _) (by simp [maxLen])).rd enc_ins) (by decide) okA progA).mono ?_
  rintro e w1 ⟨B1, b1, t1, ca1, cn1, cc1, rfl, hO1, hC1, hK1, hB1, hE1⟩
  have HO1 := Lib.hid hO1
  have HC1 := Lib.hid hC1
  have HE1 : Hid (Ext w w1) := Lib.hid (by (repeat (first | exact Ext.rfl' _ | assumption | refine Ext.drewN' ?_ _ | refine Ext.drew' ?_ | refine Ext.alloc' ?_ _ | refine Ext.trans' ?_ (by assumption))))
  have hlt1 := heap_lt hO1
  have hge1 : w.heap.size ≤ B1 := by simp at hB1; omega
  have HKK1 := Lib.hid hK1
  clear hO1 hC1 hE1 hB1 hK1
  go_wp2_with fail
  refine (ma_new0 _ [xE] _ ((Own.lit enc_ins (base := 0) (w := w1) [xE] rfl rfl (Nat.zero_le _) (by simp [maxLen])).rd enc_ins) (by decide) okB progB).mono ?_
  rintro e w2 ⟨B2, b2, t2, ca2, cn2, cc2, rfl, hO2, hC2, hK2, hB2, hE2⟩
  have hE12 : Ext w1 w2 := by (repeat (first | exact Ext.rfl' _ | assumption | refine Ext.drewN' ?_ _ | refine Ext.drew' ?_ | refine Ext.alloc' ?_ _ | refine Ext.trans' ?_ (by assumption)))
  have HO2 := Lib.hid hO2
  have HC2 := Lib.hid hC2
  have HO12 := Lib.hid (hE12.obj HO1.out)
  have HE12 := Lib.hid hE12
  have HE2 := Lib.hid (HE1.out.trans' hE12)
  have hne : w1.heap.size ≤ B2 := by simp at hB2; omega
  have HKK2 := Lib.hid (fun j hj => (hK2 j hj))
  clear hO2 hC2 hE2 hB2 hE12 HE1 hK2
  go_wp2_with fail
  refine (run7 B1 _ HO12.out (fun W hW => HC1.out [B1] W (fun j hj hb => by have := HKK1.out j hb; simp at hj; omega) ((Keep.of_ext HE12.out).trans hW))).mono ?_
  rintro e w3 ⟨rfl, hk3⟩
  have HO3 := Lib.hid (hk3.obj HO2.out (by simp; omega))
  have HK3 := Lib.hid hk3
  have HE3 := Lib.hid (hk3.below HE2.out HE2.out.size (by simpa using hge1))
  clear hk3
  go_wp2_with fail
  refine (runU B2 _ HO3.out (fun W hW => HC2.out [B1, B2] W (fun j hj hb => by have := HKK2.out j hb; simp at hj this; omega) ((HK3.out.mono (fun k hk => .inl (by simp at hk ⊢; exact .inl hk))).trans (hW.mono (fun k hk => .inl (by simp at hk ⊢; exact .inr hk)))))).mono ?_
  rintro e w4 ⟨rfl, hk4⟩
  have HE4 := Lib.hid (hk4.below HE3.out HE3.out.size (by have := HE2.out.size; have := HE12.out.size; simp; omega))
  clear hk4
  go_wp2_with fail
  go_returns
  exact ⟨rfl, by have := HE4.out; (repeat (first | exact Ext.rfl' _ | assumption | refine Ext.drewN' ?_ _ | refine Ext.drew' ?_ | refine Ext.alloc' ?_ _ | refine Ext.trans' ?_ (by assumption)))⟩
set_option maxRecDepth 20000 in
set_option maxHeartbeats 4000000 in
theorem ma_nil (i n : Int) (w : World) : Calls Tryz.prog 6 #[.int .i64 i, .int .i64 n] w fun e w' => e = .returned (.bool true) ∧ Ext w w' := by
  have hf := field_end
  go_enter Tryz.func6, Tryz.ntmps6
  go_wp2_with fail
  refine (ma_shown _).mono ?_
  rintro e w1 ⟨rfl, hE⟩
  have HE1 := Lib.hid hE
  clear hE
  go_wp2_with fail
  refine (nil_Reg i _).mono ?_
  rintro e w2 ⟨rfl, rfl⟩
  go_wp2_with fail
  refine (nil_Step _).mono ?_
  rintro e w3 ⟨rfl, rfl⟩
  go_wp2_with fail
  refine (nil_Run n _).mono ?_
  rintro e w4 ⟨rfl, hE⟩
  have HE4 := Lib.hid (HE1.out.trans' hE)
  clear hE
  go_wp2_with fail
  refine (nil_At _).mono ?_
  rintro e w5 ⟨rfl, rfl⟩
  go_wp2_with fail
  refine (nil_Over _).mono ?_
  rintro e w6 ⟨rfl, rfl⟩
  go_wp2_with fail
  go_returns
  exact ⟨rfl, HE4.out⟩
end Go.Proofs.YtlpeljpjgmapgaaGreat
