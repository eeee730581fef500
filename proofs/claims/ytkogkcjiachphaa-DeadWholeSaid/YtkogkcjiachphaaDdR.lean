/- hackleref18: edit, size, Place, right, Rewrite, where instructions stay or go. · hackleref18: Rewrite, where instructions stay or go. · DeadWhole: the walk. -/
import Derived.Test.YtkogkcjiachphaaDdP
namespace Go.Proofs.Ytkogkcjiachphaa
open Go.RowKit
set_option linter.unusedVariables false
set_option linter.unusedSimpArgs false

/-- Each of n instructions stays, or goes. -/
def EdG (E : List Ed) (n : Nat) (G : Nat → Bool) : Prop := E.length = n ∧ ∀ i, i < n → E[i]? = some (edB (G i))
set_option maxRecDepth 20000 in
set_option maxHeartbeats 1000000 in
theorem s_edit (ve : Value) (E : List Ed) (n : Nat) (G : Nat → Bool) (i : Nat) (w : World) (h : Rd w 7 Ed.enc ve E) (hG : EdG E n G) (hi : i < n) (hn : n ≤ 1000000) :
    Calls Try.prog 80 #[ve, .int .i64 i] w fun e w' => e = .returned (edB (G i)).agg ∧ Ext w w' := by
  obtain ⟨ea, en, ec, rfl, hen, hEN⟩ := h.val
  obtain rfl : n = en := by rw [hEN.out, hG.1]
  have HE := Lib.hid h
  have HX := Lib.hid (hG.2 i hi)
  have hd : decide (n ≤ i) = false := by simp; omega
  have ix := fun W => HE.out.run_at (P := Try.prog) el_ed.under el_ed.size .i64 (i : Int) (by omega) (by omega) W
  simp only [Int.toNat_natCast] at ix
  clear h hG
  generalize G i = g at HX ⊢
  obtain ⟨c0, c1, c2, c3, c4, c5, c6⟩ := ed_cells (HE.out.ext (Ext.alloc' (Ext.rfl' w) (edObj (edB false)))) HX.out
  cases g
  all_goals
    simp only [edObj, edB, zIns, if_true, if_false, Bool.false_eq_true] at c0 c1 c2 c3 c4 c5 c6
    go_enter Try.func80, Try.ntmps80
    go_wp2_with fail
    (refine bodyPost_ret (by simp [results, Try.results80, go_sem, *]; try rfl) rfl ?_)
    exact ⟨rfl, by (repeat (first | exact Ext.rfl' _ | assumption | refine Ext.drewN' ?_ _ | refine Ext.drew' ?_ | refine Ext.alloc' ?_ _ | refine Ext.trans' ?_ (by assumption)))⟩
theorem field_kind (k a b c d e f : Value) (W : World) : (Instr.field 80 (.agg #[k, a, b, c, d, e, f]) 0).run Try.prog W = .ok k W := by kernel_rfl
set_option maxRecDepth 20000 in
set_option maxHeartbeats 1000000 in
theorem s_size (v ve : Value) (L : List Ins) (E : List Ed) (G : Nat → Bool) (k : Nat) (x : Ins) (w : World) (h : Rd w 5 Ins.enc v L) (he : Rd w 7 Ed.enc ve E) (hG : EdG E L.length G) (hl : L.length ≤ 1000000) (hx : L[k]? = some x) (hs : (stF false L)[k]? = some true) :
    Calls Try.prog 108 #[v, ve, .int .i64 k] w fun e w' => e = .returned (.int .i64 (szB L G k : Nat)) ∧ Ext w w' := by
  have HD := Lib.hid h
  have HE := Lib.hid he
  have HG := Lib.hid hG
  have HL := Lib.hid hl
  have HX := Lib.hid hx
  have hk := lt_at hx
  have hnx := nextI_le x k
  have hz : G k = false → szB L G k = nextI x k - k := fun hg => by
    rw [sz_kept (kept_iff.2 ⟨hs, hg⟩) hx]
    unfold nextI
    split <;> omega
  have hz1 : G k = true → szB L G k = 0 := fun hg => sz_not (by unfold keptB; rw [hg]; simp)
  have hed := fun W (hW : Ext w W) => s_edit ve E L.length G k W (he.ext hW) hG hk hl
  have HED := Lib.hid hed
  clear h he hG hs hed hx
  obtain ⟨S, hS⟩ : ∃ S, szB L G k = S := ⟨_, rfl⟩
  rw [hS] at hz hz1 ⊢
  generalize G k = g at HED hz hz1
  have hk2 : k ≤ 1000000 := by omega
  clear hS hl hk
  cases g with
  | true =>
    obtain rfl : S = 0 := hz1 rfl
    clear hz hz1
    go_enter Try.func108, Try.ntmps108
    go_wp2_with fail
    refine (HED.out _ (by (repeat (first | exact Ext.rfl' _ | assumption | refine Ext.drewN' ?_ _ | refine Ext.drew' ?_ | refine Ext.alloc' ?_ _ | refine Ext.trans' ?_ (by assumption))))).mono ?_
    rintro e w5 ⟨rfl, hE⟩
    have hf := field_kind
    simp only [edB, Ed.agg, zIns, if_true]
    go_wp2_with fail
    go_returns
    exact ⟨rfl, hE⟩
  | false =>
    obtain rfl : S = nextI x k - k := hz rfl
    have hsub : ((nextI x k : Nat) : Int) - (k : Int) = ((nextI x k - k : Nat) : Int) := by omega
    clear hz hz1
    go_enter Try.func108, Try.ntmps108
    go_wp2_with fail
    refine (HED.out _ (by (repeat (first | exact Ext.rfl' _ | assumption | refine Ext.drewN' ?_ _ | refine Ext.drew' ?_ | refine Ext.alloc' ?_ _ | refine Ext.trans' ?_ (by assumption))))).mono ?_
    rintro e w5 ⟨rfl, hE⟩
    have hf := field_kind
    simp only [edB, Ed.agg, zIns, if_false, Bool.false_eq_true]
    have HE5 := Lib.hid hE
    clear hE
    go_wp2_with fail
    refine (r_Next _ L k x _ (HD.out.ext HE5.out) HL.out HX.out).mono ?_
    rintro e w6 ⟨rfl, hE6⟩
    have HE6 := Lib.hid (HE5.out.trans' hE6)
    clear hE6
    go_wp2_with fail
    go_returns
    exact ⟨rfl, HE6.out⟩
set_option maxRecDepth 20000 in
set_option maxHeartbeats 1000000 in
theorem s_Place (v ve : Value) (L : List Ins) (E : List Ed) (G : Nat → Bool) (t : Nat) (w : World) (h : Rd w 5 Ins.enc v L) (he : Rd w 7 Ed.enc ve E) (hG : EdG E L.length G) (hl : L.length ≤ 1000000) (hok : InsOk L) (hp : progS L = true) (ht : t ≤ L.length) (hpl : plB L G L.length ≤ 1000000) :
    Calls Try.prog 96 #[v, ve, .int .i64 t] w fun e w' => e = .returned (.int .i64 (plB L G t : Nat)) ∧ Ext w w' := by
  obtain ⟨pa, n, pc, rfl, hpn, hPN⟩ := h.val
  have HD := Lib.hid h
  have HE := Lib.hid he
  have HG := Lib.hid hG
  have HL := Lib.hid hl
  have HOK := Lib.hid hok
  have HP := Lib.hid hp
  have HN := Lib.hid hPN.out
  have hk2 : n ≤ 1000000 := by rw [hPN.out]; exact hl
  have ht2 : t ≤ n := by rw [hPN.out]; exact ht
  have HPL : Hid (∀ m, m ≤ t → plB L G m ≤ 1000000) := Lib.hid (fun m hm => Nat.le_trans (pl_mono (by omega)) hpl)
  have g1 : decide ((t : Int) < 0) = false := by simp
  have g2 : decide (n < t) = false := by simp; omega
  clear h he hG hl hok hp ht hpl
  go_enter Try.func96, Try.ntmps96
  go_wp2_with fail
  refine (r_Check _ L _ HD.out HL.out HOK.out).mono ?_
  rintro e w5 ⟨at_, er, rfl, her, hE⟩
  rw [HP.out] at her
  obtain rfl : er = 0 := by simpa using her
  have HE5 := Lib.hid hE
  clear hE her
  go_wp2_with fail
  refine (r_Starts _ L _ (HD.out.ext HE5.out) HL.out).mono ?_
  rintro e w6 ⟨s, rfl, hO, hE6⟩
  obtain ⟨sa, sn, sc, hsv, hsn, hSN⟩ := (hO.rd enc_bool).val
  subst hsv
  obtain rfl : n = sn := by rw [hSN.out, stF_length, HN.out]
  have HS := Lib.hid (hO.rd enc_bool)
  have HE6 := Lib.hid (HE5.out.trans' hE6)
  clear hO hE6 HE5
  go_wp2_with fail
  go_loopw [9, 11] (fun v9 q wr => ∃ k : Nat, k ≤ t ∧ q = .int .i64 k ∧ v9 = .int .i64 (plB L G k : Nat) ∧ Hid (Ext w6 wr)) (fun _ q _ => t - (intOf q).toNat)
  case atStart => exact ⟨0, Nat.zero_le _, rfl, rfl, Lib.hid (Ext.rfl' _)⟩
  case round =>
    obtain ⟨k, hk, rfl, rfl, HX⟩ := hrel
    by_cases hlt : (k : Int) < t
    · obtain ⟨s0, hs0⟩ := at_of_lt (xs := stF false L) (k := k) (by rw [stF_length, ← HN.out]; omega)
      have ixs := fun W => HS.out.run_at (P := Try.prog) el_bool.under el_bool.size .i64 (k : Int) (by omega) (by omega) W
      have cs := (HS.out.ext HX.out).cell hs0 (j := 0) rfl
      simp only [Nat.mul_one, Nat.add_zero, Int.toNat_natCast] at ixs cs
      have hp1 := HPL.out (k + 1) (by omega)
      have HPS : Hid (plB L G (k + 1) = plB L G k + szB L G k) := Lib.hid rfl
      rw [HPS.out] at hp1
      have HS0 := Lib.hid hs0
      clear hs0
      cases s0 with
      | false =>
        have hz : szB L G k = 0 := sz_not (by unfold keptB; rw [HS0.out]; rfl)
        rw [hz] at HPS
        clear hz hp1
        go_wp2_with fail
        go_roundw
        case rel => exact ⟨k + 1, by omega, by go_num, by rw [HPS.out]; rfl, HX⟩
        case measure => simp [intOf]; omega
      | true =>
        obtain ⟨x, hx⟩ := at_of_lt (xs := L) (k := k) (by rw [← HN.out]; omega)
        have HXK := Lib.hid hx
        have hsz := szB L G k
        clear hx hsz
        go_wp2_with fail
        refine (s_size _ ve L E G k x _ (HD.out.ext (HE6.out.trans' HX.out)) (HE.out.ext (HE6.out.trans' HX.out)) HG.out HL.out HXK.out HS0.out).mono ?_
        rintro e w7 ⟨rfl, hE7⟩
        have HX7 := Lib.hid (HX.out.trans' hE7)
        clear hE7 ixs cs
        generalize szB L G k = z at HPS hp1 ⊢
        generalize plB L G k = p at HPS hp1 ⊢
        go_wp2_with fail
        go_roundw
        case rel => exact ⟨k + 1, by omega, by go_num, by rw [HPS.out]; rfl, HX7⟩
        case measure => simp [intOf]; omega
    · obtain rfl : k = t := by omega
      go_wp2_with fail
      go_returns
      exact ⟨rfl, HE6.out.trans' HX.out⟩
theorem set5 {w0 w : World} {B : Nat} {y0 : Ins} (h : w.heap[B]? = some (insObj y0)) (he : Ext w0 w) (hb : w0.heap.size ≤ B) (o d s f i : Int) :
    (((((w.setCell ⟨B, 0, none⟩ (.int .u8 o)).setCell ⟨B, 1, none⟩ (.int .u8 d)).setCell ⟨B, 2, none⟩ (.int .u8 s)).setCell ⟨B, 3, none⟩ (.int .i16 f)).setCell ⟨B, 4, none⟩ (.int .i32 i)).heap[B]? = some (insObj ⟨o, d, s, f, i⟩) ∧
    Ext w0 (((((w.setCell ⟨B, 0, none⟩ (.int .u8 o)).setCell ⟨B, 1, none⟩ (.int .u8 d)).setCell ⟨B, 2, none⟩ (.int .u8 s)).setCell ⟨B, 3, none⟩ (.int .i16 f)).setCell ⟨B, 4, none⟩ (.int .i32 i)) := by
  refine ⟨?_, ((((he.setCell hb _).setCell hb _).setCell hb _).setCell hb _).setCell hb _⟩
  have h1 := heap_setCell_same w B 0 _ _ (.int .u8 o) h
  have h2 := heap_setCell_same _ B 1 _ _ (.int .u8 d) h1
  have h3 := heap_setCell_same _ B 2 _ _ (.int .u8 s) h2
  have h4 := heap_setCell_same _ B 3 _ _ (.int .i16 f) h3
  have h5 := heap_setCell_same _ B 4 _ _ (.int .i32 i) h4
  simpa using h5
set_option maxRecDepth 20000 in
set_option maxHeartbeats 4000000 in
theorem s_rightA (v ve : Value) (L : List Ins) (E : List Ed) (G : Nat → Bool) (x : Ins) (p : Nat) (tg : Int) (w : World) (h : Rd w 5 Ins.enc v L) (he : Rd w 7 Ed.enc ve E) (hG : EdG E L.length G) (hl : L.length ≤ 1000000) (hok : InsOk L) (hp : progS L = true)
    (hx : x.Ok) (hto : ((whatZ x).kind = 9 ∨ (whatZ x).kind = 10) → ∃ t : Nat, tg = t ∧ t ≤ L.length) (hpl : plB L G L.length ≤ 512) (hpp : p ≤ 512) :
    Calls Try.prog 81 #[v, ve, x.agg, .int .i64 p, .int .i64 tg] w fun e w' => e = .returned (.tuple #[(byI x ((plB L G tg.toNat : Int) - p - 1)).agg, .bool true]) ∧ Ext w w' := by
  have HD := Lib.hid h
  have HE := Lib.hid he
  have HG := Lib.hid hG
  have HL := Lib.hid hl
  have HOK := Lib.hid hok
  have HP := Lib.hid hp
  have HXO := Lib.hid hx
  have HPL := Lib.hid hpl
  obtain ⟨y, hy⟩ : ∃ y, (whatS x).getD Wh.zero = y := ⟨_, rfl⟩
  have hz : whatZ x = y := hy
  have HY := Lib.hid hy
  have HZ := Lib.hid hz
  obtain ⟨P, hP0⟩ : ∃ P, plB L G tg.toNat = P := ⟨_, rfl⟩
  rw [hP0]
  have HP0 := Lib.hid hP0
  obtain ⟨kd, op, wd, rg, sg, sz⟩ := y
  rw [hz] at hto
  simp only [] at hto
  clear h he hG hl hok hp hx hpl hy hz hP0
  go_enter Try.func81, Try.ntmps81
  go_upto_region 1 with fail
  have HO1 := Lib.hid (obj_old (insObj zIns) (obj_top w (insObj x) rfl))
  have HO2 := Lib.hid (obj_top (w.alloc (insObj x)) (insObj zIns) (k := w.heap.size + 1) (by simp))
  have HE0 : Hid (Ext w ((w.alloc (insObj x)).alloc (insObj zIns))) := Lib.hid (by (repeat (first | exact Ext.rfl' _ | assumption | refine Ext.drewN' ?_ _ | refine Ext.drew' ?_ | refine Ext.alloc' ?_ _ | refine Ext.trans' ?_ (by assumption))))
  simp only [zIns] at HO1 HO2 HE0
  (have o1 := HO1.out; have a0 := cell_obj (i := 0) o1; have a1 := cell_obj (i := 1) o1; have a2 := cell_obj (i := 2) o1; have a3 := cell_obj (i := 3) o1; have a4 := cell_obj (i := 4) o1; simp only [List.getElem?_toArray, List.getElem?_cons_zero, List.getElem?_cons_succ] at a0 a1 a2 a3 a4; clear o1)
  go_wp2_with fail
  refine (r_What x _ HXO.out).mono ?_
  unfold WhatA
  rw [HY.out]
  rintro e w7 ⟨rfl, hE7⟩
  go_upto_region 2 with fail
  have HQ := Lib.hid (obj_top w7 (whObj ⟨kd, op, wd, rg, sg, sz⟩) rfl)
  replace HO1 := Lib.hid (obj_old (whObj ⟨kd, op, wd, rg, sg, sz⟩) (hE7.obj HO1.out))
  replace HO2 := Lib.hid (obj_old (whObj ⟨kd, op, wd, rg, sg, sz⟩) (hE7.obj HO2.out))
  have HE8 : Hid (Ext w (w7.alloc (whObj ⟨kd, op, wd, rg, sg, sz⟩))) := Lib.hid ((HE0.out.trans' hE7).alloc' _)
  have hq1 : w.heap.size + 1 < w7.heap.size := by have := hE7.size; simp at this; omega
  clear hE7 HE0 a0 a1 a2 a3 a4
  generalize w7.heap.size = q at HQ hq1 ⊢
  simp only [whObj] at HQ HO1 HO2 HE8
  generalize hF : w7.alloc (.cells #[.int .u8 kd, .int .u8 op, .bool wd, .bool rg, .bool sg, .int .i64 sz] 48) = w8 at HQ HO1 HO2 HE8 ⊢
  clear hF
  have q0 := cell_obj (i := 0) HQ.out
  simp only [List.getElem?_toArray, List.getElem?_cons_zero, List.getElem?_cons_succ] at q0
  (have o1 := HO1.out; have a0 := cell_obj (i := 0) o1; have a1 := cell_obj (i := 1) o1; have a2 := cell_obj (i := 2) o1; have a3 := cell_obj (i := 3) o1; have a4 := cell_obj (i := 4) o1; simp only [List.getElem?_toArray, List.getElem?_cons_zero, List.getElem?_cons_succ] at a0 a1 a2 a3 a4; clear o1)
  have o2 := HO2.out
  have bf := fun i => frozen_obj (i := i) o2
  have b0 := cell_obj (i := 0) o2
  have b1 := cell_obj (i := 1) o2
  have b2 := cell_obj (i := 2) o2
  have b3 := cell_obj (i := 3) o2
  have b4 := cell_obj (i := 4) o2
  simp only [List.getElem?_toArray, List.getElem?_cons_zero, List.getElem?_cons_succ] at b0 b1 b2 b3 b4
  clear o2
  by_cases hj : kd = 9 ∨ kd = 10
  · obtain ⟨t, rfl, ht⟩ := hto hj
    have HB : ∀ b, byI x b = if x.op = 6 then { x with imm := b } else { x with off := b } := fun b => by unfold byI; rw [HZ.out, if_pos hj]
    have HB := Lib.hid HB
    have hPe : plB L G t = P := by rw [← HP0.out, Int.toNat_natCast]
    have hP : P ≤ 512 := by rw [← hPe]; exact Nat.le_trans (pl_mono ht) HPL.out
    have HPLC := Lib.hid (fun W (hW : Ext w8 W) => s_Place v ve L E G t W (HD.out.ext (HE8.out.trans' hW)) (HE.out.ext (HE8.out.trans' hW)) HG.out HL.out HOK.out HP.out ht (Nat.le_trans HPL.out (by decide)))
    rw [hPe] at HPLC
    clear hto ht hPe HP0
    have hj2 : ((kd != 9) = false) ∨ ((kd != 9) = true ∧ (kd != 10) = false) := by
      rcases hj with rfl | rfl
      · left; rfl
      · right; exact ⟨rfl, rfl⟩
    clear hj
    have step : True := trivial
    rcases hj2 with d9 | ⟨d9, d10⟩
    all_goals
      go_wp2_with fail
      refine (HPLC.out _ (Ext.rfl' _)).mono ?_
      rintro e w9 ⟨rfl, hE9⟩
      have HP1 := Lib.hid (hE9.obj HO1.out)
      have HP2 := Lib.hid (hE9.obj HO2.out)
      have HE9 := Lib.hid (HE8.out.trans' hE9)
      clear hE9 a0 a1 a2 a3 a4 b0 b1 b2 b3 b4 bf q0 HQ HO1 HO2 HPLC
      have o1 := HP1.out
      have a0 := cell_obj (i := 0) o1
      have a1 := cell_obj (i := 1) o1
      have a2 := cell_obj (i := 2) o1
      have a3 := cell_obj (i := 3) o1
      have a4 := cell_obj (i := 4) o1
      have af := fun i => frozen_obj (i := i) o1
      simp only [List.getElem?_toArray, List.getElem?_cons_zero, List.getElem?_cons_succ] at a0 a1 a2 a3 a4
      clear o1
      have hlt1 := heap_lt HP1.out
      have hlt2 := heap_lt HP2.out
      by_cases h6 : x.op = 6
      · have e6 : (x.op == 6) = true := by simpa using h6
        go_upto_region 10 with fail
        have HS1 : Hid ((w9.setCell ⟨w.heap.size, 4, none⟩ (.int .i32 ((P : Int) - p - 1))).heap[w.heap.size]? = some (insObj ⟨6, x.dst, x.src, x.off, (P : Int) - p - 1⟩)) := Lib.hid (by simpa [h6] using heap_setCell_same w9 w.heap.size 4 _ _ (.int .i32 ((P : Int) - p - 1)) HP1.out)
        have HS2 : Hid ((w9.setCell ⟨w.heap.size, 4, none⟩ (.int .i32 ((P : Int) - p - 1))).heap[w.heap.size + 1]? = some (insObj zIns)) := Lib.hid ((heap_setCell_other _ _ _ _ (by simp)).trans HP2.out)
        have HSE : Hid (Ext w (w9.setCell ⟨w.heap.size, 4, none⟩ (.int .i32 ((P : Int) - p - 1)))) := Lib.hid (HE9.out.setCell (Nat.le_refl _) _)
        generalize hF : w9.setCell ⟨w.heap.size, 4, none⟩ (.int .i32 ((P : Int) - p - 1)) = wS at HS1 HS2 HSE ⊢
        clear hF a0 a1 a2 a3 a4 af HP1 HP2 HE9 hlt1 hlt2
        have o1 := HS1.out
        have a0 := cell_obj (i := 0) o1
        have a1 := cell_obj (i := 1) o1
        have a2 := cell_obj (i := 2) o1
        have a3 := cell_obj (i := 3) o1
        have a4 := cell_obj (i := 4) o1
        have o2 := HS2.out
        have bf := fun i => frozen_obj (i := i) o2
        have b0 := cell_obj (i := 0) o2
        have b1 := cell_obj (i := 1) o2
        have b2 := cell_obj (i := 2) o2
        have b3 := cell_obj (i := 3) o2
        have b4 := cell_obj (i := 4) o2
        simp only [List.getElem?_toArray, List.getElem?_cons_zero, List.getElem?_cons_succ] at a0 a1 a2 a3 a4 b0 b1 b2 b3 b4
        clear o1 o2
        have HSF := Lib.hid (set5 HS2.out HSE.out (Nat.le_succ _) 6 x.dst x.src x.off ((P : Int) - p - 1))
        have HBV : Hid (byI x ((P : Int) - p - 1) = ⟨6, x.dst, x.src, x.off, (P : Int) - p - 1⟩) := Lib.hid (by rw [HB.out, if_pos h6, ← h6])
        go_wp2_with fail
        (have hsf := HSF.out; generalize hF : (World.setCell (World.setCell (World.setCell (World.setCell (World.setCell wS ⟨w.heap.size + 1, 0, none⟩ (.int .u8 6)) ⟨w.heap.size + 1, 1, none⟩ (.int .u8 x.dst)) ⟨w.heap.size + 1, 2, none⟩ (.int .u8 x.src)) ⟨w.heap.size + 1, 3, none⟩ (.int .i16 x.off)) ⟨w.heap.size + 1, 4, none⟩ (.int .i32 ((P : Int) - p - 1))) = wF at hsf ⊢; obtain ⟨hs, he⟩ := hsf; clear hF; (try simp only [Exit.then]); (repeat (first | go_skip | go_step)); have r0 := cell_obj (i := 0) hs; have r1 := cell_obj (i := 1) hs; have r2 := cell_obj (i := 2) hs; have r3 := cell_obj (i := 3) hs; have r4 := cell_obj (i := 4) hs; simp only [List.getElem?_toArray, List.getElem?_cons_zero, List.getElem?_cons_succ] at r0 r1 r2 r3 r4; refine bodyPost_ret (by simp [results, Try.results81, go_sem, r0, r1, r2, r3, r4]; try rfl) rfl ?_)
        exact ⟨by rw [HBV.out], he⟩
      · have e6 : (x.op == 6) = false := by simpa using h6
        have hg1 : decide ((P : Int) - p - 1 ≥ -32768) = true := by simp; omega
        have hg2 : decide ((P : Int) - p - 1 ≤ 32767) = true := by simp; omega
        have hg3 : decide (-32768 ≤ (P : Int) - p - 1) = true := by simp; omega
        go_upto_region 12 with fail
        have HS1 : Hid ((w9.setCell ⟨w.heap.size, 3, none⟩ (.int .i16 ((P : Int) - p - 1))).heap[w.heap.size]? = some (insObj ⟨x.op, x.dst, x.src, (P : Int) - p - 1, x.imm⟩)) := Lib.hid (by simpa using heap_setCell_same w9 w.heap.size 3 _ _ (.int .i16 ((P : Int) - p - 1)) HP1.out)
        have HS2 : Hid ((w9.setCell ⟨w.heap.size, 3, none⟩ (.int .i16 ((P : Int) - p - 1))).heap[w.heap.size + 1]? = some (insObj zIns)) := Lib.hid ((heap_setCell_other _ _ _ _ (by simp)).trans HP2.out)
        have HSE : Hid (Ext w (w9.setCell ⟨w.heap.size, 3, none⟩ (.int .i16 ((P : Int) - p - 1)))) := Lib.hid (HE9.out.setCell (Nat.le_refl _) _)
        generalize hF : w9.setCell ⟨w.heap.size, 3, none⟩ (.int .i16 ((P : Int) - p - 1)) = wS at HS1 HS2 HSE ⊢
        clear hF a0 a1 a2 a3 a4 af HP1 HP2 HE9 hlt1 hlt2
        have o1 := HS1.out
        have a0 := cell_obj (i := 0) o1
        have a1 := cell_obj (i := 1) o1
        have a2 := cell_obj (i := 2) o1
        have a3 := cell_obj (i := 3) o1
        have a4 := cell_obj (i := 4) o1
        have o2 := HS2.out
        have bf := fun i => frozen_obj (i := i) o2
        have b0 := cell_obj (i := 0) o2
        have b1 := cell_obj (i := 1) o2
        have b2 := cell_obj (i := 2) o2
        have b3 := cell_obj (i := 3) o2
        have b4 := cell_obj (i := 4) o2
        simp only [List.getElem?_toArray, List.getElem?_cons_zero, List.getElem?_cons_succ] at a0 a1 a2 a3 a4 b0 b1 b2 b3 b4
        clear o1 o2
        have HSF := Lib.hid (set5 HS2.out HSE.out (Nat.le_succ _) x.op x.dst x.src ((P : Int) - p - 1) x.imm)
        have HBV : Hid (byI x ((P : Int) - p - 1) = ⟨x.op, x.dst, x.src, (P : Int) - p - 1, x.imm⟩) := Lib.hid (by rw [HB.out, if_neg h6])
        go_wp2_with fail
        (have hsf := HSF.out; generalize hF : (World.setCell (World.setCell (World.setCell (World.setCell (World.setCell wS ⟨w.heap.size + 1, 0, none⟩ (.int .u8 x.op)) ⟨w.heap.size + 1, 1, none⟩ (.int .u8 x.dst)) ⟨w.heap.size + 1, 2, none⟩ (.int .u8 x.src)) ⟨w.heap.size + 1, 3, none⟩ (.int .i16 ((P : Int) - p - 1))) ⟨w.heap.size + 1, 4, none⟩ (.int .i32 x.imm)) = wF at hsf ⊢; obtain ⟨hs, he⟩ := hsf; clear hF; (try simp only [Exit.then]); (repeat (first | go_skip | go_step)); have r0 := cell_obj (i := 0) hs; have r1 := cell_obj (i := 1) hs; have r2 := cell_obj (i := 2) hs; have r3 := cell_obj (i := 3) hs; have r4 := cell_obj (i := 4) hs; simp only [List.getElem?_toArray, List.getElem?_cons_zero, List.getElem?_cons_succ] at r0 r1 r2 r3 r4; refine bodyPost_ret (by simp [results, Try.results81, go_sem, r0, r1, r2, r3, r4]; try rfl) rfl ?_)
        exact ⟨by rw [HBV.out], he⟩
  · have d9 : (kd != 9) = true := by simp; omega
    have d10 : (kd != 10) = true := by simp; omega
    have HR : Hid (byI x ((P : Int) - p - 1) = x) := Lib.hid (by unfold byI; rw [HZ.out, if_neg hj])
    have HSF := Lib.hid (set5 HO2.out HE8.out (Nat.le_succ _) x.op x.dst x.src x.off x.imm)
    clear hj
    go_wp2_with fail
    (have hsf := HSF.out; generalize hF : (World.setCell (World.setCell (World.setCell (World.setCell (World.setCell w8 ⟨w.heap.size + 1, 0, none⟩ (.int .u8 x.op)) ⟨w.heap.size + 1, 1, none⟩ (.int .u8 x.dst)) ⟨w.heap.size + 1, 2, none⟩ (.int .u8 x.src)) ⟨w.heap.size + 1, 3, none⟩ (.int .i16 x.off)) ⟨w.heap.size + 1, 4, none⟩ (.int .i32 x.imm)) = wF at hsf ⊢; obtain ⟨hs, he⟩ := hsf; clear hF; (try simp only [Exit.then]); (repeat (first | go_skip | go_step)); have r0 := cell_obj (i := 0) hs; have r1 := cell_obj (i := 1) hs; have r2 := cell_obj (i := 2) hs; have r3 := cell_obj (i := 3) hs; have r4 := cell_obj (i := 4) hs; simp only [List.getElem?_toArray, List.getElem?_cons_zero, List.getElem?_cons_succ] at r0 r1 r2 r3 r4; refine bodyPost_ret (by simp [results, Try.results81, go_sem, r0, r1, r2, r3, r4]; try rfl) rfl ?_)
    exact ⟨by rw [HR.out], he⟩
end Go.Proofs.Ytkogkcjiachphaa
namespace Go.Proofs.Ytkogkcjiachphaa
open Go.RowKit
set_option linter.unusedVariables false
set_option linter.unusedSimpArgs false

theorem rd_oneI (w : World) (y : Ins) : Rd (w.alloc (insObj y)) 5 Ins.enc (.slice (some ⟨w.heap.size, 0, none⟩) 1 1) [y] :=
  (Own.lit enc_ins (base := 0) (w := w) [y] rfl rfl (Nat.zero_le _) (by simp [maxLen])).rd enc_ins
theorem rd_oneI' (w : World) (y : Ins) (b : Nat) (hb : b = w.heap.size) : Rd (w.alloc (insObj y)) 5 Ins.enc (.slice (some ⟨b, 0, none⟩) 1 1) [y] := by subst hb; exact rd_oneI w y
theorem DeadH.right_new {L : List Ins} {G : Nat → Bool} (D : DeadH L G) {k : Nat} {x : Ins} (h : keptB L G k = true) (hx : L[k]? = some x) : byI x ((plB L G ((targetS L x k).getD 0).toNat : Int) - plB L G k - 1) = newI L G x k := by
  unfold newI
  by_cases hj : (whatZ x).kind = 9 ∨ (whatZ x).kind = 10
  · obtain ⟨t, h1, h2, _, _⟩ := D.jump (D.kept_reach h) hx hj
    rw [h1, h2]
  · unfold byI
    rw [if_neg hj, if_neg hj]
theorem out_next {L : List Ins} {G : Nat → Bool} {k : Nat} {x : Ins} (hs : (stF false L)[k]? = some true) (hx : L[k]? = some x) : outB L G (nextI x k) = outB L G k ++ pieceB L G k := by
  unfold nextI
  split
  · rename_i h
    show outB L G k ++ pieceB L G k ++ pieceB L G (k + 1) = _
    rw [piece_not (st_mid hs hx h), List.append_nil]
  · rfl
theorem DeadH.next_st {L : List Ins} {G : Nat → Bool} (D : DeadH L G) {k : Nat} {x : Ins} (hs : (stF false L)[k]? = some true) (hx : L[k]? = some x) : nextI x k ≤ L.length ∧ (nextI x k = L.length ∨ (stF false L)[nextI x k]? = some true) := by
  have h1 : nextI x k ≤ L.length := by
    unfold nextI
    split
    · rename_i h
      obtain ⟨y, hy⟩ := D.wide hs hx h
      have := lt_at hy
      omega
    · have := lt_at hx; omega
  refine ⟨h1, ?_⟩
  by_cases e : nextI x k = L.length
  · exact .inl e
  · exact .inr (st_head (st_step (st_at false L k hs) hx).2.1 (by omega))
set_option maxRecDepth 20000 in
set_option maxHeartbeats 4000000 in
theorem s_Rewrite (v ve : Value) (L : List Ins) (E : List Ed) (G : Nat → Bool) (w : World) (h : Rd w 5 Ins.enc v L) (he : Rd w 7 Ed.enc ve E) (hG : EdG E L.length G) (D : DeadH L G) :
    Calls Try.prog 49 #[v, ve] w fun e w' => ∃ v', e = .returned (.tuple #[v', .bool true]) ∧ Own w' w.heap.size 53 5 Ins.enc v' (newP L G) ∧ Ext w w' := by
  obtain ⟨pa, n, pc, rfl, hpn, hPN⟩ := h.val
  have h512 := (ProgF.of D.hp).len
  have hl : L.length ≤ 1000000 := by omega
  have HD := Lib.hid h
  have HE := Lib.hid he
  have HG := Lib.hid hG
  have HL := Lib.hid hl
  have HDD := Lib.hid D
  have HOK := Lib.hid D.ok
  have HP := Lib.hid D.hp
  have HN := Lib.hid hPN.out
  have hn : 1 ≤ n ∧ n ≤ 512 := by rw [HN.out]; exact h512
  have hpl : plB L G L.length ≤ 512 := by have := D.new_le; rw [D.new_len] at this; omega
  have HPL := Lib.hid hpl
  have HPM : Hid (∀ m, m ≤ n → plB L G m ≤ 512) := Lib.hid (fun m hm => Nat.le_trans (pl_mono (by rw [← HN.out]; exact hm)) hpl)
  have HFIN : Hid (newP L G = outB L G n) := Lib.hid (by unfold newP; rw [HN.out])
  clear h he hG D h512 hl hpl
  go_enter Try.func49, Try.ntmps49
  go_wp2_with fail
  refine (r_Check _ L _ HD.out HL.out HOK.out).mono ?_
  rintro e w5 ⟨at_, er, rfl, her, hE⟩
  rw [HP.out] at her
  obtain rfl : er = 0 := by simpa using her
  have HE5 := Lib.hid hE
  clear hE her
  go_wp2_with fail
  go_loopw [8, 9] (fun v8 q wr => ∃ k : Nat, k ≤ n ∧ q = .int .i64 k ∧ ∃ ta tn tc, v8 = .slice ta tn tc ∧ Hid ((k = n ∨ (stF false L)[k]? = some true) ∧ Own wr w5.heap.size 53 5 Ins.enc v8 (outB L G k) ∧ Ext w5 wr)) (fun _ q _ => n - (intOf q).toNat)
  case atStart => exact ⟨0, Nat.zero_le _, rfl, _, _, _, rfl, Lib.hid ⟨.inr (by simpa using (begins_iff.1 (begins_zero HP.out)).2.2.2), Own.nil _ _ _ _ _, Ext.rfl' _⟩⟩
  case round =>
    obtain ⟨k, hk, rfl, ta, tn, tc, rfl, HI⟩ := hrel
    have HO4 := Lib.hid HI.out.2.1
    have HX4 := Lib.hid HI.out.2.2
    have HK4 := Lib.hid HI.out.1
    obtain rfl : tn = plB L G k := by rw [HO4.out.len, HDD.out.out_len]
    clear HI
    by_cases hlt : (k : Int) < n
    · have HS : Hid ((stF false L)[k]? = some true) := Lib.hid (by
        rcases HK4.out with h | h
        · omega
        · exact h)
      obtain ⟨x, hx⟩ := at_of_lt (xs := L) (k := k) (by rw [← HN.out]; omega)
      have HX := Lib.hid hx
      have HXO := Lib.hid (HOK.out.at hx)
      have HNS := Lib.hid (DeadH.next_st HDD.out HS.out hx)
      have HON := Lib.hid (out_next (G := G) HS.out hx)
      have hnx := nextI_le x k
      have hnn : nextI x k ≤ n := by rw [HN.out]; exact HNS.out.1
      have ix := fun W => HD.out.run_at (P := Try.prog) el_ins.under el_ins.size .i64 (k : Int) (by omega) (by omega) W
      simp only [Int.toNat_natCast] at ix
      obtain ⟨c0, c1, c2, c3, c4⟩ := ins_cells (HD.out.ext (HE5.out.trans' HX4.out)) hx
      clear hx HK4
      go_upto_region 9 with fail
      have HB1 := Lib.hid (obj_top wr (insObj x) rfl)
      have HO5 := Lib.hid (HO4.out.alloc (insObj x))
      have HX5 := Lib.hid (HX4.out.alloc' (insObj x))
      have hrow : ∀ j, (Value.slice ta (plB L G k) tc).ownBlock = some j → j < wr.heap.size := fun j hj => (HO4.out.lt hj).2
      clear c0 c1 c2 c3 c4 HO4 HX4
      simp only [insObj] at HB1 HO5 HX5
      generalize hF : wr.alloc (.cells #[.int .u8 x.op, .int .u8 x.dst, .int .u8 x.src, .int .i16 x.off, .int .i32 x.imm] 53) = wa at HB1 HO5 HX5 ⊢
      generalize wr.heap.size = q1 at HB1 hrow ⊢
      clear hF
      go_wp2_with fail
      refine (r_Target _ L k x _ (HD.out.ext (HE5.out.trans' HX5.out)) HL.out HX.out HXO.out).mono ?_
      unfold OptA
      rintro e w6 ⟨rfl, hE6⟩
      have HB6 := Lib.hid (hE6.obj HB1.out)
      have HO6 := Lib.hid (HO5.out.ext hE6)
      have HX6 := Lib.hid (HX5.out.trans' hE6)
      clear hE6 HB1 HO5 HX5
      go_wp2_with fail
      refine (s_edit _ E L.length G k _ (HE.out.ext (HE5.out.trans' HX6.out)) HG.out (by rw [← HN.out]; omega) HL.out).mono ?_
      rintro e w7 ⟨rfl, hE7⟩
      have HB7 := Lib.hid (hE7.obj HB6.out)
      have HO7 := Lib.hid (HO6.out.ext hE7)
      have HX7 := Lib.hid (HX6.out.trans' hE7)
      clear hE7 HB6 HO6 HX6
      simp only [Ed.agg]
      go_upto_region 11 with fail
      obtain ⟨g, hg⟩ : ∃ g, G k = g := ⟨_, rfl⟩
      rw [hg]
      have HGK := Lib.hid hg
      clear hg
      have HB3 := Lib.hid (obj_top w7 (edObj (edB g)) rfl)
      have HB8 := Lib.hid (obj_old (edObj (edB g)) HB7.out)
      have HO8 := Lib.hid (HO7.out.alloc (edObj (edB g)))
      have HX8 := Lib.hid (HX7.out.alloc' (edObj (edB g)))
      have hq13 : q1 < w7.heap.size := heap_lt HB7.out
      clear HB7 HO7 HX7
      simp only [edObj] at HB3 HB8 HO8 HX8
      generalize hF : w7.alloc (.cells #[.int .u8 (edB g).kind, .int .u8 (edB g).x.op, .int .u8 (edB g).x.dst, .int .u8 (edB g).x.src, .int .i16 (edB g).x.off, .int .i32 (edB g).x.imm, .int .i64 (edB g).tgt] 80) = w8 at HB3 HB8 HO8 HX8 ⊢
      generalize w7.heap.size = q3 at HB3 hq13 ⊢
      clear hF
      have p0 := cell_obj (i := 0) HB3.out
      simp only [List.getElem?_toArray, List.getElem?_cons_zero, List.getElem?_cons_succ] at p0
      have hlt3 := heap_lt HB3.out
      have hlt1 := heap_lt HB8.out
      cases g with
      | true =>
        have HON2 : Hid (outB L G (nextI x k) = outB L G k) := Lib.hid (by rw [HON.out, piece_not (by unfold keptB; rw [HGK.out]; simp), List.append_nil])
        simp only [edB, if_true] at p0
        go_wp2_with fail
        refine (r_Next _ L k x _ (HD.out.ext (HE5.out.trans' HX8.out)) HL.out HX.out).mono ?_
        rintro e w9 ⟨rfl, hE9⟩
        have HX9 := Lib.hid (HX8.out.trans' hE9)
        have HO9 := Lib.hid (HO8.out.ext hE9)
        clear hE9
        go_wp2_with fail
        go_roundw
        case rel => exact ⟨nextI x k, hnn, rfl, _, _, _, rfl, Lib.hid ⟨by rw [HN.out]; exact HNS.out.2, by rw [HON2.out]; exact HO9.out, HX9.out⟩⟩
        case measure => simp [intOf]; omega
      | false =>
        have HKP : Hid (keptB L G k = true) := Lib.hid (kept_iff.2 ⟨HS.out, HGK.out⟩)
        have HON2 := Lib.hid (HON.out.trans (by rw [piece_kept HKP.out HX.out]))
        have HOKN := Lib.hid (HDD.out.newI_ok HKP.out HX.out)
        have HRN := Lib.hid (HDD.out.right_new HKP.out HX.out)
        have hplk : plB L G k ≤ 512 := HPM.out k hk
        have HTT : Hid (((whatZ x).kind = 9 ∨ (whatZ x).kind = 10) → ∃ t : Nat, (targetS L x k).getD 0 = t ∧ t ≤ L.length) := Lib.hid (fun hj => by
          obtain ⟨t, h1, h2, _, h4⟩ := HDD.out.jump (HDD.out.kept_reach HKP.out) HX.out hj
          exact ⟨t, by rw [h2]; rfl, by omega⟩)
        simp only [edB, if_false, Bool.false_eq_true] at p0
        have a0 := cell_obj (i := 0) HB8.out
        have a1 := cell_obj (i := 1) HB8.out
        have a2 := cell_obj (i := 2) HB8.out
        have a3 := cell_obj (i := 3) HB8.out
        have a4 := cell_obj (i := 4) HB8.out
        simp only [List.getElem?_toArray, List.getElem?_cons_zero, List.getElem?_cons_succ] at a0 a1 a2 a3 a4
        go_wp2_with fail
        refine (s_rightA _ ve L E G x (plB L G k) _ _ (HD.out.ext (HE5.out.trans' HX8.out)) (HE.out.ext (HE5.out.trans' HX8.out)) HG.out HL.out HOK.out HP.out HXO.out HTT.out HPL.out hplk).mono ?_
        rw [HRN.out]
        rintro e w9 ⟨rfl, hE9⟩
        have HX9 := Lib.hid (HX8.out.trans' hE9)
        have HO9 := Lib.hid (HO8.out.ext hE9)
        have HC1 := Lib.hid (hE9.obj HB8.out)
        have HC3 := Lib.hid (hE9.obj HB3.out)
        clear hE9 a0 a1 a2 a3 a4 p0 HX8 HO8 HB8 HB3 hlt1 hlt3
        obtain ⟨y, hy⟩ : ∃ y, newI L G x k = y := ⟨_, rfl⟩
        rw [hy] at HON2 HOKN ⊢
        clear hy HRN
        have hl9 : (outB L G k).length ≤ 512 := by rw [HDD.out.out_len]; exact hplk
        go_wp2_with (at_builtin; refine app_own2 el_ins enc_ins rfl _ _ rfl rfl ((HO9.out.alloc _).alloc _) rfl (ys := [y]) ?q1 ?q2 ?q3 ?q4)
        case q1 => exact rd_oneI' _ _ _ (by simp)
        case q2 => simp; omega
        case q3 => have := HX9.out.size; simp; omega
        intro v' w10 hown hgrow hmv
        have hk10 := grown_keep hgrow
        have HC1' := Lib.hid (hk10.obj (obj_old _ (obj_old _ HC1.out)) (fun hm => by have := hrow q1 (by simpa using hm); omega))
        have HC3' := Lib.hid (hk10.obj (obj_old _ (obj_old _ HC3.out)) (fun hm => by have := hrow q3 (by simpa using hm); omega))
        have HX10 : Hid (Ext w5 w10) := Lib.hid (hk10.below ((HX9.out.alloc' _).alloc' _) (by have := HX9.out.size; simp; omega) (fun j hj => (HO9.out.lt (by simpa using hj)).1))
        obtain ⟨a2, n2, c2, hv2, hn2, hN2⟩ := (hown.rd enc_ins).val
        subst hv2
        have HO10 := Lib.hid hown
        clear hown hgrow hmv hk10 HC1 HC3 HX9 HO9
        have p0 := cell_obj (i := 0) HC3'.out
        have a0 := cell_obj (i := 0) HC1'.out
        simp only [List.getElem?_toArray, List.getElem?_cons_zero, List.getElem?_cons_succ] at p0 a0
        simp only [edB, if_false, Bool.false_eq_true] at p0
        have hl10 : (outB L G k ++ [y]).length ≤ 600 := by simp; omega
        by_cases h24 : x.op = 24
        · have e24 : (x.op == 24) = true := by simpa using h24
          obtain ⟨z, hz⟩ := HDD.out.wide HS.out HX.out h24
          have hz1 : k + 1 < n := by rw [HN.out]; exact lt_at hz
          have ix2 := fun W => HD.out.run_at (P := Try.prog) el_ins.under el_ins.size .i64 ((k : Int) + 1) (by omega) (by omega) W
          simp only [show ((k : Int) + 1).toNat = k + 1 from by omega] at ix2
          obtain ⟨c0, c1, c2', c3, c4⟩ := ins_cells (HD.out.ext (HE5.out.trans' HX10.out)) hz
          have HON3 : Hid (outB L G (nextI x k) = outB L G k ++ [y, z]) := Lib.hid (by rw [HON2.out, if_pos h24, hz]; simp)
          clear hz
          go_wp2_with (at_builtin; refine app_own el_ins enc_ins rfl _ _ rfl rfl (HO10.out.alloc _) rfl (ys := [z]) ?r1 ?r2 ?r3 ?r4)
          case r1 => exact rd_oneI _ _
          case r2 => simp at hl10 ⊢; omega
          case r3 => have := HX10.out.size; simp; omega
          intro v' w11 hown hgrow hmv
          have HX11 : Hid (Ext w5 w11) := Lib.hid (hmv _ _ (HX10.out.alloc' _) (Nat.le_refl _))
          obtain ⟨a3, n3, c3', hv3, hn3, hN3⟩ := (hown.rd enc_ins).val
          subst hv3
          have HO11 := Lib.hid hown
          clear hown hgrow hmv c0 c1 c2' c3 c4 p0 a0
          go_wp2_with fail
          refine (r_Next _ L k x _ (HD.out.ext (HE5.out.trans' HX11.out)) HL.out HX.out).mono ?_
          rintro e w12 ⟨rfl, hE12⟩
          have HX12 := Lib.hid (HX11.out.trans' hE12)
          have HO12 := Lib.hid (HO11.out.ext hE12)
          clear hE12
          go_wp2_with fail
          go_roundw
          case rel => exact ⟨nextI x k, hnn, rfl, _, _, _, rfl, Lib.hid ⟨by rw [HN.out]; exact HNS.out.2, by rw [HON3.out]; exact HO12.out, HX12.out⟩⟩
          case measure => simp [intOf]; omega
        · have e24 : (x.op == 24) = false := by simpa using h24
          have HON3 : Hid (outB L G (nextI x k) = outB L G k ++ [y]) := Lib.hid (by rw [HON2.out, if_neg h24])
          go_wp2_with fail
          refine (r_Next _ L k x _ (HD.out.ext (HE5.out.trans' HX10.out)) HL.out HX.out).mono ?_
          rintro e w12 ⟨rfl, hE12⟩
          have HX12 := Lib.hid (HX10.out.trans' hE12)
          have HO12 := Lib.hid (HO10.out.ext hE12)
          clear hE12 p0 a0
          go_wp2_with fail
          go_roundw
          case rel => exact ⟨nextI x k, hnn, rfl, _, _, _, rfl, Lib.hid ⟨by rw [HN.out]; exact HNS.out.2, by rw [HON3.out]; exact HO12.out, HX12.out⟩⟩
          case measure => simp [intOf]; omega
    · have hkn : k = n := by omega
      have HFO : Hid (outB L G k = newP L G) := Lib.hid (by rw [HFIN.out, hkn])
      rw [HFO.out] at HO4
      have hln : (newP L G).length ≤ 1000000 := by have := HDD.out.new_le; rw [← HN.out] at this; omega
      have HLN := Lib.hid hln
      clear hkn hln
      go_wp2_with fail
      refine (r_Check _ (newP L G) _ (HO4.out.rd enc_ins) HLN.out (HDD.out.out_ok _)).mono ?_
      rintro e w6 ⟨at2, er2, rfl, her, hE⟩
      rw [HDD.out.new_prog] at her
      obtain rfl : er2 = 0 := by simpa using her
      have HO6 := Lib.hid (HO4.out.ext hE)
      have HE6 := Lib.hid (HE5.out.trans' (HX4.out.trans' hE))
      clear hE her
      go_wp2_with fail
      go_returns
      exact ⟨_, rfl, HO6.out.mono HE5.out.size, HE6.out⟩
end Go.Proofs.Ytkogkcjiachphaa
namespace Go.Proofs.Ytkogkcjiachphaa
open Go.RowKit
set_option linter.unusedVariables false
set_option linter.unusedSimpArgs false

theorem idle_goes {L : List Ins} {k : Nat} {x : Ins} (hx : L[k]? = some x) (h : idleK L k = true) (hb : beginsS L k = true) : goesOn x = true ∧ targetS L x k = none := by
  have hk : (whatZ x).kind = 1 ∨ (whatZ x).kind = 2 ∨ (whatZ x).kind = 3 ∨ (whatZ x).kind = 4 ∨ (whatZ x).kind = 5 := by
    unfold idleK at h
    rw [hx] at h
    simp only [Bool.and_eq_true, bne_iff_ne, ne_eq] at h
    obtain ⟨h1, h2, _⟩ := h
    rw [wrN_at hb hx] at h2
    unfold writesS at h2
    split at h2
    · assumption
    · first
        | exact absurd rfl h2
        | (rw [if_neg h1] at h2; exact absurd rfl h2)
  constructor
  · unfold goesOn
    rcases hk with e | e | e | e | e <;> rw [e] <;> rfl
  · unfold targetS toS
    rw [if_neg (by omega)]
theorem getD_true {l : List Bool} {k : Nat} : l.getD k false = true ↔ l[k]? = some true := by
  rw [List.getD_eq_getElem?_getD]
  cases h : l[k]? with
  | none => simp
  | some b => simp
theorem dead_h {L : List Ins} (hp : progS L = true) (hok : InsOk L) : DeadH L (goesB L) := by
  refine ⟨hp, hok, fun k hg => ?_, fun k hs hg => ?_, fun k x hg hc hx => ?_⟩
  · unfold goesB at hg
    simp only [Bool.and_eq_true] at hg
    exact getD_true.1 hg.1
  · have hk := lt_at hs
    rw [stF_length] at hk
    unfold goesB at hg
    rw [getD_true.2 hs] at hg
    simp only [Bool.true_and, Bool.or_eq_false_iff, Bool.not_eq_false'] at hg
    have := (reachL_at hp 0 hk).1 (getD_true.1 hg.2)
    exact this.2
  · have hk := lt_at hx
    have hs0 := (begins_iff.1 (begins_zero hp)).2.2.2
    have hs := conn_start hp (s := 0) (by simpa using hs0) hc
    have hr : (reachL L 0).getD k false = true := getD_true.2 ((reachL_at hp 0 hk).2 ⟨begins_zero hp, hc⟩)
    unfold goesB at hg
    rw [getD_true.2 hs, hr] at hg
    simp only [Bool.true_and, Bool.not_true, Bool.or_false] at hg
    have hi := getD_true.1 hg
    have hik : idleK L k = true := by
      unfold idleL at hi
      rw [List.getElem?_map] at hi
      cases hr2 : (List.range (liveB L).length)[k]? with
      | none => rw [hr2] at hi; cases hi
      | some j =>
        rw [hr2] at hi
        have hj := lt_at hr2
        simp at hj
        rw [List.getElem?_range hj] at hr2
        injection hr2 with hr2
        subst hr2
        simpa using hi
    exact idle_goes hx hik (begins_st hp hs)
theorem dead_edg {L : List Ins} (hp : progS L = true) : EdG (deadL L) L.length (goesB L) := by
  refine ⟨by rw [deadL_length, goesL_length hp], fun i hi => ?_⟩
  unfold deadL goesL
  rw [hp]
  simp only [if_true, List.getElem?_map, List.getElem?_range hi, Option.map_some]
theorem many_cnt {L : List Ins} (hp : progS L = true) : manyB (goesL L) = cntB (goesB L) L.length := by
  have key : ∀ m, manyB ((List.range m).map (goesB L)) = cntB (goesB L) m := fun m => by
    induction m with
    | zero => rfl
    | succ m ih =>
      unfold manyB at ih ⊢
      rw [List.range_succ, List.map_append, List.countP_append, ih]
      show _ = cntB (goesB L) m + _
      cases hg : goesB L m <;> simp [hg]
  unfold goesL
  rw [hp]
  exact key _
set_option maxRecDepth 20000 in
set_option maxHeartbeats 4000000 in
theorem dwhole_any (v : Value) (L0 : List Ins) (w : World) (h : Rd w 5 Ins.enc v L0) (hok0 : InsOk L0) : Calls Try.prog 11 #[v] w fun e w' => e = .returned (.bool true) ∧ Ext w w' := by
  have HD0 := Lib.hid h
  have hok : InsOk (L0.take 100) := fun x hx => hok0 x (List.mem_of_mem_take hx)
  have hl : (L0.take 100).length ≤ 1000000 := by simp; omega
  have HFEW := Lib.hid (fun W => d_few v L0 W)
  obtain ⟨L, hL⟩ : ∃ L, L0.take 100 = L := ⟨_, rfl⟩
  rw [hL] at hok hl
  have HTK := Lib.hid hL
  have HOK := Lib.hid hok
  have HL := Lib.hid hl
  clear h hok0 hok hl hL
  go_enter Try.func11, Try.ntmps11
  go_wp2_with fail
  refine (d_shown _).mono ?_
  rintro e w1 ⟨rfl, hE⟩
  have HE1 := Lib.hid hE
  clear hE
  go_wp2_with fail
  refine (HFEW.out _ (HD0.out.ext HE1.out)).mono ?_
  rw [HTK.out]
  rintro e w2 ⟨v2, rfl, hR2, hE2⟩
  have HD2 := Lib.hid hR2
  have HE2 := Lib.hid (HE1.out.trans' hE2)
  obtain ⟨xa, xn, xc, hxv, hxn, hXN⟩ := hR2.val
  subst hxv
  clear hR2 hE2
  go_wp2_with fail
  refine (d_Edits _ L _ HD2.out HL.out HOK.out).mono ?_
  rintro e w3 ⟨va, rfl, hO, hE⟩
  have HA := Lib.hid (hO.rd enc_ed)
  have HE3 := Lib.hid (HE2.out.trans' hE)
  have HD3 := Lib.hid (HD2.out.ext hE)
  clear hO hE HE2 HD2
  obtain ⟨aa, an, ac, hav, han, hAN⟩ := HA.out.val
  subst hav
  cases hp : progS L with
  | false =>
    have HP := Lib.hid hp
    have hgl : goesL L = [] := by unfold goesL; rw [hp]; rfl
    obtain rfl : an = 0 := by rw [hAN.out, deadL_length, hgl]; rfl
    have HM := Lib.hid (show manyB (goesL L) = 0 by rw [hgl]; rfl)
    clear hp hgl
    go_wp2_with fail
    refine (r_Check _ L _ HD3.out HL.out HOK.out).mono ?_
    rintro e w5 ⟨at_, er, rfl, her, hE⟩
    rw [HP.out] at her
    have hne : (er != 0) = true := by simpa using her
    have HE5 := Lib.hid (HE3.out.trans' hE)
    have HD5 := Lib.hid (HD3.out.ext hE)
    clear hE her
    go_wp2_with fail
    refine (d_Many _ L _ HD5.out HL.out HOK.out).mono ?_
    rw [HM.out]
    rintro e w6 ⟨rfl, hE⟩
    have HE6 := Lib.hid (HE5.out.trans' hE)
    clear hE
    go_wp2_with fail
    go_returns
    exact ⟨rfl, HE6.out⟩
  | true =>
    have HP := Lib.hid hp
    have HDD := Lib.hid (dead_h hp HOK.out)
    have HEG := Lib.hid (dead_edg hp)
    have HMC := Lib.hid (many_cnt hp)
    obtain rfl : xn = an := by rw [hAN.out, deadL_length, goesL_length hp, hXN.out]
    have h512 := (ProgF.of hp).len
    have hn : xn ≤ 512 := by rw [hXN.out]; exact h512.2
    have hnn : ((xn : Int) != (xn : Int)) = false := by simp
    clear hp h512
    go_wp2_with fail
    refine (r_Check _ L _ HD3.out HL.out HOK.out).mono ?_
    rintro e w5 ⟨at_, er, rfl, her, hE⟩
    rw [HP.out] at her
    obtain rfl : er = 0 := by simpa using her
    have HE5 := Lib.hid (HE3.out.trans' hE)
    have HD5 := Lib.hid (HD3.out.ext hE)
    have HA5 := Lib.hid (HA.out.ext hE)
    clear hE her HE3 HD3 HA
    go_wp2_with fail
    refine (r16_Reach _ L 0 _ HD5.out HL.out HOK.out).mono ?_
    rintro e w6 ⟨vr, rfl, hO, hE6⟩
    obtain ⟨ra, rn, rc, hrv, hrn, hRN⟩ := (hO.rd enc_bool).val
    subst hrv
    obtain rfl : xn = rn := by rw [hRN.out, reachL_length HP.out, hXN.out]
    have HR := Lib.hid (hO.rd enc_bool)
    have HE6 := Lib.hid (HE5.out.trans' hE6)
    have HD6 := Lib.hid (HD5.out.ext hE6)
    have HA6 := Lib.hid (HA5.out.ext hE6)
    clear hO hE6 HE5 HD5 HA5
    go_wp2_with fail
    go_loopw [8, 43] (fun v8 q wr => ∃ (k : Nat) (ex : Bool), k ≤ xn ∧ q = .int .i64 k ∧ v8 = .bool ex ∧ Hid (Ext w6 wr)) (fun _ q _ => xn - (intOf q).toNat)
    case atStart => exact ⟨0, false, Nat.zero_le _, rfl, rfl, Lib.hid (Ext.rfl' _)⟩
    case round =>
      obtain ⟨k, ex, hk, rfl, rfl, HX⟩ := hrel
      by_cases hlt : (k : Int) < xn
      · obtain ⟨x, hx⟩ := at_of_lt (xs := L) (k := k) (by have := hXN.out; omega)
        obtain ⟨b, hb⟩ := at_of_lt (xs := reachL L 0) (k := k) (by have := hRN.out; omega)
        have HXI := Lib.hid hx
        obtain ⟨y, hy⟩ : ∃ y, (whatS x).getD Wh.zero = y := ⟨_, rfl⟩
        have HY := Lib.hid hy
        obtain ⟨kd, op, wd, rg, sg, sz⟩ := y
        have ixb := fun W => HR.out.run_at (P := Try.prog) el_bool.under el_bool.size .i64 (k : Int) (by omega) (by omega) W
        have ix := fun W => HD6.out.run_at (P := Try.prog) el_ins.under el_ins.size .i64 (k : Int) (by omega) (by omega) W
        have cb := (HR.out.ext HX.out).cell hb (j := 0) rfl
        simp only [Nat.mul_one, Nat.add_zero, Int.toNat_natCast] at ixb ix cb
        obtain ⟨c0, c1, c2, c3, c4⟩ := ins_cells (HD6.out.ext HX.out) HXI.out
        clear hx hb hy
        go_wp2_with fail
        refine (r_What x _ (HOK.out.at HXI.out)).mono ?_
        unfold WhatA
        rw [HY.out]
        rintro e w7 ⟨rfl, hE7⟩
        have HX7 := Lib.hid (HX.out.trans' hE7)
        clear hE7 c0 c1 c2 c3 c4 cb
        go_upto_region 12 with fail
        have HX8 := Lib.hid (HX7.out.alloc' (whObj ⟨kd, op, wd, rg, sg, sz⟩))
        clear HX7 HX
        cases ex <;> cases b
        all_goals
          go_wp2_with fail
          go_roundw
          case rel => exact ⟨k + 1, _, by omega, by go_num, rfl, HX8⟩
          case measure => simp [intOf]; omega
      · have HE7 := Lib.hid (HE6.out.trans' HX.out)
        have HD7 := Lib.hid (HD6.out.ext HX.out)
        have HA7 := Lib.hid (HA6.out.ext HX.out)
        clear HE6 HD6 HA6 HX
        cases ex with
        | false =>
          go_wp2_with fail
          go_returns
          exact ⟨rfl, HE7.out⟩
        | true =>
          have HNL := Lib.hid HDD.out.new_le
          go_wp2_with fail
          refine (s_Rewrite _ _ L (deadL L) (goesB L) _ HD7.out HA7.out HEG.out HDD.out).mono ?_
          rintro e w8 ⟨vy, rfl, hO, hE⟩
          obtain ⟨ya, yn, yc, hyv, hyn, hYN⟩ := (hO.rd enc_ins).val
          subst hyv
          have HY := Lib.hid (hO.rd enc_ins)
          have HE8 := Lib.hid (HE7.out.trans' hE)
          have HD8 := Lib.hid (HD7.out.ext hE)
          clear hO hE HE7 HD7 HA7
          obtain ⟨M, hM⟩ : ∃ M, manyB (goesL L) = M := ⟨_, rfl⟩
          have hle : yn + M ≤ xn := by
            have h1 := HNL.out
            rw [← HMC.out, hM, ← hYN.out, ← hXN.out] at h1
            exact h1
          go_wp2_with fail
          refine (d_Many _ L _ HD8.out HL.out HOK.out).mono ?_
          rw [hM]
          rintro e w9 ⟨rfl, hE⟩
          have HE9 := Lib.hid (HE8.out.trans' hE)
          have HY9 := Lib.hid (HY.out.ext hE)
          have hgt : decide ((yn : Int) > (xn : Int) - (M : Int)) = false := by simp; omega
          have hgt2 : decide ((xn : Int) - (M : Int) < (yn : Int)) = false := by simp; omega
          have HYL : Hid ((newP L (goesB L)).length ≤ 1000000) := Lib.hid (by rw [← hYN.out]; omega)
          have HYO := Lib.hid (HDD.out.out_ok L.length)
          clear hE HE8 HY HD8 hM
          go_wp2_with fail
          refine (r16_Reach _ (newP L (goesB L)) 0 _ HY9.out HYL.out HYO.out).mono ?_
          rintro e w10 ⟨vr2, rfl, hO, hE⟩
          obtain ⟨sa, sn, sc, hsv, hsn, hSN⟩ := (hO.rd enc_bool).val
          subst hsv
          obtain rfl : yn = sn := by rw [hSN.out, reachL_length HDD.out.new_prog, hYN.out]
          have HR2 := Lib.hid (hO.rd enc_bool)
          have HE10 := Lib.hid (HE9.out.trans' hE)
          have HY10 := Lib.hid (HY9.out.ext hE)
          clear hO hE HE9 HY9
          go_wp2_with fail
          go_loopw [104] (fun q wr => ∃ k : Nat, k ≤ yn ∧ q = .int .i64 k ∧ Hid (Ext w10 wr)) (fun q _ => yn - (intOf q).toNat)
          case atStart => exact ⟨0, Nat.zero_le _, rfl, Lib.hid (Ext.rfl' _)⟩
          case round =>
            obtain ⟨k, hk2, rfl, HX⟩ := hrel
            by_cases hlt2 : (k : Int) < yn
            · obtain ⟨b, hb⟩ := at_of_lt (xs := reachL (newP L (goesB L)) 0) (k := k) (by have := hSN.out; omega)
              obtain ⟨s0, hs0⟩ := at_of_lt (xs := stF false (newP L (goesB L))) (k := k) (by rw [stF_length]; have := hYN.out; omega)
              have HSB : Hid (s0 = true → b = true) := Lib.hid (fun e => by
                subst e
                have := HDD.out.new_reach hs0
                rw [hb] at this
                exact Option.some.inj this)
              have ixb := fun W => HR2.out.run_at (P := Try.prog) el_bool.under el_bool.size .i64 (k : Int) (by omega) (by omega) W
              have cb := (HR2.out.ext HX.out).cell hb (j := 0) rfl
              simp only [Nat.mul_one, Nat.add_zero, Int.toNat_natCast] at ixb cb
              have HS0 := Lib.hid hs0
              clear hb hs0
              go_wp2_with fail
              refine (r_Starts _ (newP L (goesB L)) _ (HY10.out.ext HX.out) HYL.out).mono ?_
              rintro e w11 ⟨vs, rfl, hO, hE⟩
              obtain ⟨za, zn, zc, hzv, hzn, hZN⟩ := (hO.rd enc_bool).val
              subst hzv
              obtain rfl : yn = zn := by rw [hZN.out, stF_length, hYN.out]
              have ixs := fun W => (hO.rd enc_bool).run_at (P := Try.prog) el_bool.under el_bool.size .i64 (k : Int) (by omega) (by omega) W
              have cs := (hO.rd enc_bool).cell HS0.out (j := 0) rfl
              simp only [Nat.mul_one, Nat.add_zero, Int.toNat_natCast] at ixs cs
              have HX11 := Lib.hid (HX.out.trans' hE)
              clear hO hE cb HX
              cases s0 with
              | false =>
                go_wp2_with fail
                go_roundw
                case rel => exact ⟨k + 1, by omega, by go_num, HX11⟩
                case measure => simp [intOf]; omega
              | true =>
                obtain rfl : b = true := HSB.out rfl
                go_wp2_with fail
                go_roundw
                case rel => exact ⟨k + 1, by omega, by go_num, HX11⟩
                case measure => simp [intOf]; omega
            · go_wp2_with fail
              go_returns
              exact ⟨rfl, HE10.out.trans' HX.out⟩
end Go.Proofs.Ytkogkcjiachphaa
