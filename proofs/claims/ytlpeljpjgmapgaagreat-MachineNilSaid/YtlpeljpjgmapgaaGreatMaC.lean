/- machine: what it does at 'Mov r0, 7' and at Exit. -/
import Derived.Test.YtlpeljpjgmapgaaGreatMaA
namespace Go.Proofs.YtlpeljpjgmapgaaGreat
open Go.RowKit
set_option linter.unusedVariables false
set_option linter.unusedSimpArgs false

abbrev maObj (code mem tab : Value) (r0 : Int) (s0 : Bool) (n1 : Int) (s1 : Bool) (n10 : Int) (s10 : Bool) (at_ : Int) (over : Bool) (why steps : Int) : Obj :=
  .cells #[code, .int .u64 r0, .bool s0, .int .u64 n1, .bool s1, .int .u64 0, .bool false, .int .u64 0, .bool false, .int .u64 0, .bool false, .int .u64 0, .bool false, .int .u64 0, .bool false, .int .u64 0, .bool false, .int .u64 0, .bool false, .int .u64 0, .bool false, .int .u64 n10, .bool s10,
    mem, tab, .slice none 0 0, .slice none 0 0, .int .i64 at_, .bool over, .int .i64 why, .int .i64 steps, .slice none 0 0] 78 (0, 0)
/-- Mov r0, 7. -/
def x7 : Ins := ⟨183, 0, 0, 0, 7⟩
/-- What it does. -/
def w7 : Wh := ⟨1, 176, true, false, false, 0⟩
set_option maxHeartbeats 1000000 in
theorem imm7 (w : World) : Calls Tryz.prog 149 #[x7.agg] w fun e w' => e = .returned (.int .u64 7) ∧ w' = w.alloc (insObj x7) := by
  go_enter Tryz.func149, Tryz.ntmps149
  simp only [x7]
  go_wp2_with fail
  go_returns
  exact ⟨rfl, rfl⟩
set_option maxHeartbeats 2000000 in
theorem simple7 (w : World) : Calls Tryz.prog 150 #[.int .u8 176, .int .u64 0, .int .u64 7] w fun e w' => e = .returned (.tuple #[.int .u64 7, .bool true]) ∧ w' = w := by
  go_enter Tryz.func150, Tryz.ntmps150
  go_wp2_with fail
  go_returns
  exact ⟨rfl, rfl⟩
set_option maxHeartbeats 2000000 in
theorem do7 (w : World) : Calls Tryz.prog 107 #[.int .u8 176, .bool true, .int .i16 0, .int .u64 0, .int .u64 7] w fun e w' => e = .returned (.tuple #[.int .u64 7, .int .i64 0]) ∧ w' = w := by
  go_enter Tryz.func107, Tryz.ntmps107
  go_wp2_with fail
  refine (simple7 _).mono ?_
  rintro e w5 ⟨rfl, rfl⟩
  go_wp2_with fail
  go_returns
  exact ⟨rfl, rfl⟩
section
variable {code mem tab : Value} {r0 : Int} {s0 : Bool} {n1 : Int} {s1 : Bool} {n10 : Int} {s10 : Bool} {at_ : Int} {over : Bool} {why steps : Int}
set_option maxHeartbeats 2000000 in
theorem becomes7 (B : Nat) (w : World) (h : w.heap[B]? = some (maObj code mem tab r0 s0 n1 s1 n10 s10 at_ over why steps)) :
    Calls Tryz.prog 59 #[.pointer (some ⟨B, 0, none⟩), x7.agg, .int .u64 7, .int .i64 0] w fun e w' => e = .returned (.int .i64 0) ∧ w'.heap[B]? = some (maObj code mem tab 7 true n1 s1 n10 s10 at_ over why steps) ∧ Keep [B] w w' := by
  have HM := Lib.hid h
  clear h
  simp only [x7]
  go_enter Tryz.func59, Tryz.ntmps59
  go_upto_region 2 with fail
  have HX := Lib.hid (obj_top w (insObj ⟨183, 0, 0, 0, 7⟩) rfl)
  have HM1 := Lib.hid (obj_old (insObj ⟨183, 0, 0, 0, 7⟩) HM.out)
  have HK1 : Hid (Keep [B] w (w.alloc (insObj ⟨183, 0, 0, 0, 7⟩))) := Lib.hid (Keep.of_ext (by (repeat (first | exact Ext.rfl' _ | assumption | refine Ext.drewN' ?_ _ | refine Ext.drew' ?_ | refine Ext.alloc' ?_ _ | refine Ext.trans' ?_ (by assumption)))))
  have hBw : B < w.heap.size := heap_lt HM.out
  simp only [insObj] at HX HM1 HK1
  generalize hF : w.alloc (.cells #[.int .u8 183, .int .u8 0, .int .u8 0, .int .i16 0, .int .i32 7] 64) = wa at HX HM1 HK1 ⊢
  generalize w.heap.size = q at HX hBw ⊢
  clear hF
  have x1 := cell_obj (i := 1) HX.out
  have m1 := cell_obj (i := 1) HM1.out
  have m2 := cell_obj (i := 2) HM1.out
  simp only [List.getElem?_toArray, List.getElem?_cons_zero, List.getElem?_cons_succ] at x1 m1 m2
  have mf := fun i => frozen_obj (i := i) HM1.out
  have hlB := heap_lt HM1.out
  have hS1 := heap_setCell_same _ B 1 _ _ (.int .u64 7) HM1.out
  have hS2 := heap_setCell_same _ B 2 _ _ (.bool true) hS1
  have hS3 : ((wa.setCell ⟨B, 1, none⟩ (.int .u64 7)).setCell ⟨B, 2, none⟩ (.bool true)).heap[B]? = some (maObj code mem tab 7 true n1 s1 n10 s10 at_ over why steps) := by simpa using hS2
  have HS2 := Lib.hid hS3
  have HK2 := Lib.hid ((HK1.out.setCell (a := ⟨B, 1, none⟩) (by simp) (.int .u64 7)).setCell (a := ⟨B, 2, none⟩) (by simp) (.bool true))
  clear hS1 hS2 hS3
  go_region
  all_goals
    go_wp2_with fail
    go_returns
    exact ⟨rfl, HS2.out, HK2.out.drew⟩
set_option maxHeartbeats 2000000 in
theorem both7 (B : Nat) (w : World) (h : w.heap[B]? = some (maObj code mem tab 0 false n1 s1 n10 s10 at_ over why steps)) :
    Calls Tryz.prog 106 #[.pointer (some ⟨B, 0, none⟩), x7.agg, w7.agg] w fun e w' => e = .returned (.tuple #[.int .u64 0, .int .u64 7, .bool true]) ∧ Ext w w' := by
  have HM := Lib.hid h
  have HI := Lib.hid (fun W => imm7 W)
  clear h
  simp only [x7, w7, insObj] at HI ⊢
  go_enter Tryz.func106, Tryz.ntmps106
  go_upto_region 1 with fail
  have HX := Lib.hid (obj_old (whObj ⟨1, 176, true, false, false, 0⟩) (obj_top w (insObj ⟨183, 0, 0, 0, 7⟩) rfl))
  have HW := Lib.hid (obj_top (w.alloc (insObj ⟨183, 0, 0, 0, 7⟩)) (whObj ⟨1, 176, true, false, false, 0⟩) (k := w.heap.size + 1) (by simp))
  have HM1 := Lib.hid (obj_old (whObj ⟨1, 176, true, false, false, 0⟩) (obj_old (insObj ⟨183, 0, 0, 0, 7⟩) HM.out))
  have HE1 : Hid (Ext w ((w.alloc (insObj ⟨183, 0, 0, 0, 7⟩)).alloc (whObj ⟨1, 176, true, false, false, 0⟩))) := Lib.hid (by (repeat (first | exact Ext.rfl' _ | assumption | refine Ext.drewN' ?_ _ | refine Ext.drew' ?_ | refine Ext.alloc' ?_ _ | refine Ext.trans' ?_ (by assumption))))
  have hBw : B < w.heap.size := heap_lt HM.out
  simp only [insObj, whObj] at HX HW HM1 HE1
  generalize hF : (w.alloc (.cells #[.int .u8 183, .int .u8 0, .int .u8 0, .int .i16 0, .int .i32 7] 64)).alloc (.cells #[.int .u8 1, .int .u8 176, .bool true, .bool false, .bool false, .int .i64 0] 90) = wa at HX HW HM1 HE1 ⊢
  generalize w.heap.size = q at HX HW hBw ⊢
  clear hF
  have hlq : q + 1 < wa.heap.size := heap_lt HW.out
  have x0 := cell_obj (i := 0) HX.out
  have x1 := cell_obj (i := 1) HX.out
  have x2 := cell_obj (i := 2) HX.out
  have x3 := cell_obj (i := 3) HX.out
  have x4 := cell_obj (i := 4) HX.out
  have m1 := cell_obj (i := 1) HM1.out
  have m2 := cell_obj (i := 2) HM1.out
  simp only [List.getElem?_toArray, List.getElem?_cons_zero, List.getElem?_cons_succ] at x0 x1 x2 x3 x4 m1 m2
  have hS : ∀ W, Ext wa W → (W.cell? ⟨q, 0, none⟩ = some (.int .u8 183) ∧ W.cell? ⟨q, 1, none⟩ = some (.int .u8 0) ∧ W.cell? ⟨q, 2, none⟩ = some (.int .u8 0) ∧ W.cell? ⟨q, 3, none⟩ = some (.int .i16 0) ∧ W.cell? ⟨q, 4, none⟩ = some (.int .i32 7) ∧ W.cell? ⟨B, 1, none⟩ = some (.int .u64 0) ∧ W.cell? ⟨B, 2, none⟩ = some (.bool false)) := fun W h =>
    ⟨h.cellOf x0, h.cellOf x1, h.cellOf x2, h.cellOf x3, h.cellOf x4, h.cellOf m1, h.cellOf m2⟩
  have HS := Lib.hid hS
  clear hS
  go_cut [9, 10] from 11 to 21 (fun v9 v10 wx => ∃ p r : Nat, v9 = .pointer (some ⟨p, 0, none⟩) ∧ v10 = .pointer (some ⟨r, 0, none⟩) ∧ Hid (wx.heap[p]? = some (.cells #[.int .u64 0, .bool false] 74 (0, 0)) ∧ wx.heap[r]? = some (.cells #[.int .u64 7, .bool true] 74 (0, 0)) ∧ Ext wa wx))
  case first =>
    go_region_held3 (fun w' => w'.cell? ⟨q, 0, none⟩ = some (.int .u8 183) ∧ w'.cell? ⟨q, 1, none⟩ = some (.int .u8 0) ∧ w'.cell? ⟨q, 2, none⟩ = some (.int .u8 0) ∧ w'.cell? ⟨q, 3, none⟩ = some (.int .i16 0) ∧ w'.cell? ⟨q, 4, none⟩ = some (.int .i32 7) ∧ w'.cell? ⟨B, 1, none⟩ = some (.int .u64 0) ∧ w'.cell? ⟨B, 2, none⟩ = some (.bool false))
      (exact HS.out _ (by (repeat (first | exact Ext.rfl' _ | assumption | refine Ext.drewN' ?_ _ | refine Ext.drew' ?_ | refine Ext.alloc' ?_ _ | refine Below.setCell ?_ (by first | (simp; done) | (simp; omega) | omega) _ | refine Ext.trans' ?_ (by assumption)))))
      ((go_at_call 149; refine (HI.out _).mono ?_; rintro e w5 ⟨rfl, rfl⟩))
    all_goals
      go_wp2_with fail
      go_meet
      refine ⟨_, _, rfl, rfl, Lib.hid ⟨?_, ?_, by (repeat (first | exact Ext.rfl' _ | assumption | refine Ext.drewN' ?_ _ | refine Ext.drew' ?_ | refine Ext.alloc' ?_ _ | refine Ext.trans' ?_ (by assumption)))⟩⟩
      · (repeat (first | (refine obj_top _ _ ?_; simp; done) | refine obj_old _ ?_))
      · (repeat (first | (refine obj_top _ _ ?_; simp; done) | refine obj_old _ ?_))
  case rest =>
    obtain ⟨p, r, rfl, rfl, HI2⟩ := hcut
    have p0 := cell_obj (i := 0) HI2.out.1
    have p1 := cell_obj (i := 1) HI2.out.1
    have r0 := cell_obj (i := 0) HI2.out.2.1
    have r1 := cell_obj (i := 1) HI2.out.2.1
    have y0 := cell_obj (i := 0) (HI2.out.2.2.obj HW.out)
    have y1 := cell_obj (i := 1) (HI2.out.2.2.obj HW.out)
    have y3 := cell_obj (i := 3) (HI2.out.2.2.obj HW.out)
    simp only [List.getElem?_toArray, List.getElem?_cons_zero, List.getElem?_cons_succ] at p0 p1 r0 r1 y0 y1 y3
    have HE2 := Lib.hid (HE1.out.trans' HI2.out.2.2)
    clear x0 x1 x2 x3 x4 m1 m2 HS HI
    go_wp2_with fail
    go_quiet (fail)
    go_wp2_with fail
    go_returns
    exact ⟨rfl, by have := HE2.out; (repeat (first | exact Ext.rfl' _ | assumption | refine Ext.drewN' ?_ _ | refine Ext.drew' ?_ | refine Ext.alloc' ?_ _ | refine Ext.trans' ?_ (by assumption)))⟩
def DoesA (B : Nat) (o : Obj) (w : World) (e : Ending) (w' : World) : Prop := e = .returned (.tuple #[.bool false, .int .i64 0]) ∧ w'.heap[B]? = some o ∧ Keep [B] w w'
set_option maxHeartbeats 4000000 in
theorem plain7 (B : Nat) (w : World) (h : w.heap[B]? = some (maObj code mem tab 0 false n1 s1 n10 s10 at_ over why steps)) :
    Calls Tryz.prog 63 #[.pointer (some ⟨B, 0, none⟩), x7.agg, w7.agg] w (DoesA B (maObj code mem tab 7 true n1 s1 n10 s10 at_ over why steps) w) := by
  have HB := Lib.hid (fun W (hW : W.heap[B]? = some (maObj code mem tab 0 false n1 s1 n10 s10 at_ over why steps)) => both7 B W hW)
  have HC := Lib.hid (fun W (hW : W.heap[B]? = some (maObj code mem tab 0 false n1 s1 n10 s10 at_ over why steps)) => becomes7 B W hW)
  have HM := Lib.hid h
  clear h
  simp only [x7, w7] at HB HC ⊢
  go_enter Tryz.func63, Tryz.ntmps63
  go_upto_region 1 with fail
  have HX := Lib.hid (obj_old (whObj ⟨1, 176, true, false, false, 0⟩) (obj_top w (insObj ⟨183, 0, 0, 0, 7⟩) rfl))
  have HW := Lib.hid (obj_top (w.alloc (insObj ⟨183, 0, 0, 0, 7⟩)) (whObj ⟨1, 176, true, false, false, 0⟩) (k := w.heap.size + 1) (by simp))
  have HM1 := Lib.hid (obj_old (whObj ⟨1, 176, true, false, false, 0⟩) (obj_old (insObj ⟨183, 0, 0, 0, 7⟩) HM.out))
  have HE1 : Hid (Ext w ((w.alloc (insObj ⟨183, 0, 0, 0, 7⟩)).alloc (whObj ⟨1, 176, true, false, false, 0⟩))) := Lib.hid (by (repeat (first | exact Ext.rfl' _ | assumption | refine Ext.drewN' ?_ _ | refine Ext.drew' ?_ | refine Ext.alloc' ?_ _ | refine Ext.trans' ?_ (by assumption))))
  simp only [insObj, whObj] at HX HW HM1 HE1
  generalize hF : (w.alloc (.cells #[.int .u8 183, .int .u8 0, .int .u8 0, .int .i16 0, .int .i32 7] 64)).alloc (.cells #[.int .u8 1, .int .u8 176, .bool true, .bool false, .bool false, .int .i64 0] 90) = wa at HX HW HM1 HE1 ⊢
  generalize w.heap.size = q at HX HW ⊢
  clear hF
  have x0 := cell_obj (i := 0) HX.out
  have x1 := cell_obj (i := 1) HX.out
  have x2 := cell_obj (i := 2) HX.out
  have x3 := cell_obj (i := 3) HX.out
  have x4 := cell_obj (i := 4) HX.out
  have y0 := cell_obj (i := 0) HW.out
  have y1 := cell_obj (i := 1) HW.out
  have y2 := cell_obj (i := 2) HW.out
  have y3 := cell_obj (i := 3) HW.out
  have y4 := cell_obj (i := 4) HW.out
  have y5 := cell_obj (i := 5) HW.out
  simp only [List.getElem?_toArray, List.getElem?_cons_zero, List.getElem?_cons_succ] at x0 x1 x2 x3 x4 y0 y1 y2 y3 y4 y5
  go_wp2_with fail
  refine (HB.out _ HM1.out).mono ?_
  rintro e w5 ⟨rfl, hE5⟩
  have HX5 := Lib.hid (hE5.obj HX.out)
  have HW5 := Lib.hid (hE5.obj HW.out)
  have HM5 := Lib.hid (hE5.obj HM1.out)
  have HE5 := Lib.hid (HE1.out.trans' hE5)
  clear hE5 x0 x1 x2 x3 x4 y0 y1 y2 y3 y4 y5 HX HW HM1 HE1
  have x0 := cell_obj (i := 0) HX5.out
  have x1 := cell_obj (i := 1) HX5.out
  have x2 := cell_obj (i := 2) HX5.out
  have x3 := cell_obj (i := 3) HX5.out
  have x4 := cell_obj (i := 4) HX5.out
  have y0 := cell_obj (i := 0) HW5.out
  have y1 := cell_obj (i := 1) HW5.out
  have y2 := cell_obj (i := 2) HW5.out
  simp only [List.getElem?_toArray, List.getElem?_cons_zero, List.getElem?_cons_succ] at x0 x1 x2 x3 x4 y0 y1 y2
  go_wp2_with fail
  refine (do7 _).mono ?_
  rintro e w6 ⟨rfl, rfl⟩
  go_wp2_with fail
  refine (HC.out _ HM5.out).mono ?_
  rintro e w7 ⟨rfl, h7, hk⟩
  have H7 := Lib.hid (And.intro h7 ((Keep.of_ext HE5.out).trans hk))
  clear h7 hk
  go_wp2_with fail
  go_returns
  exact ⟨rfl, H7.out.1, H7.out.2⟩
set_option maxHeartbeats 4000000 in
theorem does7 (B : Nat) (w : World) (h : w.heap[B]? = some (maObj code mem tab 0 false n1 s1 n10 s10 at_ over why steps)) :
    Calls Tryz.prog 33 #[.pointer (some ⟨B, 0, none⟩), x7.agg, w7.agg] w (DoesA B (maObj code mem tab 7 true n1 s1 n10 s10 at_ over why steps) w) := by
  have HB := Lib.hid (fun W (hW : W.heap[B]? = some (maObj code mem tab 0 false n1 s1 n10 s10 at_ over why steps)) => plain7 B W hW)
  have HM := Lib.hid h
  clear h
  simp only [x7, w7] at HB ⊢
  go_enter Tryz.func33, Tryz.ntmps33
  go_upto_region 1 with fail
  have HX := Lib.hid (obj_old (whObj ⟨1, 176, true, false, false, 0⟩) (obj_top w (insObj ⟨183, 0, 0, 0, 7⟩) rfl))
  have HW := Lib.hid (obj_top (w.alloc (insObj ⟨183, 0, 0, 0, 7⟩)) (whObj ⟨1, 176, true, false, false, 0⟩) (k := w.heap.size + 1) (by simp))
  have HM1 := Lib.hid (obj_old (whObj ⟨1, 176, true, false, false, 0⟩) (obj_old (insObj ⟨183, 0, 0, 0, 7⟩) HM.out))
  have HE1 : Hid (Ext w ((w.alloc (insObj ⟨183, 0, 0, 0, 7⟩)).alloc (whObj ⟨1, 176, true, false, false, 0⟩))) := Lib.hid (by (repeat (first | exact Ext.rfl' _ | assumption | refine Ext.drewN' ?_ _ | refine Ext.drew' ?_ | refine Ext.alloc' ?_ _ | refine Ext.trans' ?_ (by assumption))))
  simp only [insObj, whObj] at HX HW HM1 HE1
  generalize hF : (w.alloc (.cells #[.int .u8 183, .int .u8 0, .int .u8 0, .int .i16 0, .int .i32 7] 64)).alloc (.cells #[.int .u8 1, .int .u8 176, .bool true, .bool false, .bool false, .int .i64 0] 90) = wa at HX HW HM1 HE1 ⊢
  generalize w.heap.size = q at HX HW ⊢
  clear hF
  have x0 := cell_obj (i := 0) HX.out
  have x1 := cell_obj (i := 1) HX.out
  have x2 := cell_obj (i := 2) HX.out
  have x3 := cell_obj (i := 3) HX.out
  have x4 := cell_obj (i := 4) HX.out
  have y0 := cell_obj (i := 0) HW.out
  have y1 := cell_obj (i := 1) HW.out
  have y2 := cell_obj (i := 2) HW.out
  have y3 := cell_obj (i := 3) HW.out
  have y4 := cell_obj (i := 4) HW.out
  have y5 := cell_obj (i := 5) HW.out
  simp only [List.getElem?_toArray, List.getElem?_cons_zero, List.getElem?_cons_succ] at x0 x1 x2 x3 x4 y0 y1 y2 y3 y4 y5
  go_wp2_with fail
  refine (HB.out _ HM1.out).mono ?_
  rintro e w7 ⟨rfl, h7, hk⟩
  have H7 := Lib.hid (And.intro h7 ((Keep.of_ext HE1.out).trans hk))
  clear h7 hk
  go_wp2_with fail
  go_returns
  exact ⟨rfl, H7.out.1, H7.out.2⟩
/-- Exit. -/
def xE : Ins := ⟨149, 0, 0, 0, 0⟩
def wE : Wh := ⟨12, 0, false, false, false, 0⟩
set_option maxHeartbeats 4000000 in
theorem doesE (B : Nat) (w : World) (h : w.heap[B]? = some (maObj code mem tab r0 true n1 s1 n10 s10 at_ over why steps)) :
    Calls Tryz.prog 33 #[.pointer (some ⟨B, 0, none⟩), xE.agg, wE.agg] w (DoesA B (maObj code mem tab r0 true n1 s1 n10 s10 at_ true why steps) w) := by
  have HM := Lib.hid h
  clear h
  simp only [xE, wE]
  go_enter Tryz.func33, Tryz.ntmps33
  go_upto_region 1 with fail
  have HW := Lib.hid (obj_top (w.alloc (insObj ⟨149, 0, 0, 0, 0⟩)) (whObj ⟨12, 0, false, false, false, 0⟩) (k := w.heap.size + 1) (by simp))
  have HM1 := Lib.hid (obj_old (whObj ⟨12, 0, false, false, false, 0⟩) (obj_old (insObj ⟨149, 0, 0, 0, 0⟩) HM.out))
  have HE1 : Hid (Ext w ((w.alloc (insObj ⟨149, 0, 0, 0, 0⟩)).alloc (whObj ⟨12, 0, false, false, false, 0⟩))) := Lib.hid (by (repeat (first | exact Ext.rfl' _ | assumption | refine Ext.drewN' ?_ _ | refine Ext.drew' ?_ | refine Ext.alloc' ?_ _ | refine Ext.trans' ?_ (by assumption))))
  simp only [insObj, whObj] at HW HM1 HE1
  generalize hF : (w.alloc (.cells #[.int .u8 149, .int .u8 0, .int .u8 0, .int .i16 0, .int .i32 0] 64)).alloc (.cells #[.int .u8 12, .int .u8 0, .bool false, .bool false, .bool false, .int .i64 0] 90) = wa at HW HM1 HE1 ⊢
  generalize w.heap.size = q at HW ⊢
  clear hF
  have y0 := cell_obj (i := 0) HW.out
  have m2 := cell_obj (i := 2) HM1.out
  have m28 := cell_obj (i := 28) HM1.out
  have mf := fun i => frozen_obj (i := i) HM1.out
  simp only [List.getElem?_toArray, List.getElem?_cons_zero, List.getElem?_cons_succ] at y0 m2 m28
  have hlB := heap_lt HM1.out
  have hS : (wa.setCell ⟨B, 28, none⟩ (.bool true)).heap[B]? = some (maObj code mem tab r0 true n1 s1 n10 s10 at_ true why steps) := by simpa using heap_setCell_same _ B 28 _ _ (.bool true) HM1.out
  have HS := Lib.hid hS
  have HK := Lib.hid ((Keep.of_ext (F := [B]) HE1.out).setCell (a := ⟨B, 28, none⟩) (by simp) (.bool true))
  clear hS
  go_wp2_with fail
  go_returns
  exact ⟨rfl, HS.out, HK.out⟩
set_option maxHeartbeats 4000000 in
theorem doesU (B : Nat) (w : World) (h : w.heap[B]? = some (maObj code mem tab r0 false n1 s1 n10 s10 at_ over why steps)) :
    Calls Tryz.prog 33 #[.pointer (some ⟨B, 0, none⟩), xE.agg, wE.agg] w fun e w' => e = .returned (.tuple #[.bool false, .int .i64 110]) ∧ Ext w w' := by
  have HM := Lib.hid h
  clear h
  simp only [xE, wE]
  go_enter Tryz.func33, Tryz.ntmps33
  go_upto_region 1 with fail
  have HW := Lib.hid (obj_top (w.alloc (insObj ⟨149, 0, 0, 0, 0⟩)) (whObj ⟨12, 0, false, false, false, 0⟩) (k := w.heap.size + 1) (by simp))
  have HM1 := Lib.hid (obj_old (whObj ⟨12, 0, false, false, false, 0⟩) (obj_old (insObj ⟨149, 0, 0, 0, 0⟩) HM.out))
  have HE1 : Hid (Ext w ((w.alloc (insObj ⟨149, 0, 0, 0, 0⟩)).alloc (whObj ⟨12, 0, false, false, false, 0⟩))) := Lib.hid (by (repeat (first | exact Ext.rfl' _ | assumption | refine Ext.drewN' ?_ _ | refine Ext.drew' ?_ | refine Ext.alloc' ?_ _ | refine Ext.trans' ?_ (by assumption))))
  simp only [insObj, whObj] at HW HM1 HE1
  generalize hF : (w.alloc (.cells #[.int .u8 149, .int .u8 0, .int .u8 0, .int .i16 0, .int .i32 0] 64)).alloc (.cells #[.int .u8 12, .int .u8 0, .bool false, .bool false, .bool false, .int .i64 0] 90) = wa at HW HM1 HE1 ⊢
  generalize w.heap.size = q at HW ⊢
  clear hF
  have y0 := cell_obj (i := 0) HW.out
  have m2 := cell_obj (i := 2) HM1.out
  simp only [List.getElem?_toArray, List.getElem?_cons_zero, List.getElem?_cons_succ] at y0 m2
  have hlB := heap_lt HM1.out
  go_wp2_with fail
  go_returns
  exact ⟨rfl, HE1.out⟩
end
end Go.Proofs.YtlpeljpjgmapgaaGreat
