/- code.to, Target, whole. -/
import Derived.Test.YtlpeljpjgmapgaaGreatCoF
import Derived.Test.YtlpeljpjgmapgaaGreatCoG
namespace Go.Proofs.YtlpeljpjgmapgaaGreat
open Go.RowKit
set_option linter.unusedVariables false
set_option linter.unusedSimpArgs false

/-- What an instruction does; zero: it is none. -/
def whatZ (x : Ins) : Wh := (whatS x).getD Wh.zero
/-- Where a jump goes, be it a place or not. -/
def toS (x : Ins) (k : Nat) : Option Int := if (whatZ x).kind = 9 ∨ (whatZ x).kind = 10 then some (k + 1 + if x.op = 6 then x.imm else x.off) else none
def InsOk (L : List Ins) : Prop := ∀ x ∈ L, x.Ok
theorem InsOk.at {L : List Ins} (h : InsOk L) {k : Nat} {x : Ins} (hx : L[k]? = some x) : x.Ok := h x (List.mem_of_getElem? hx)
def OptA (o : Option Int) (w : World) (e : Ending) (w' : World) : Prop := e = .returned (.tuple #[.int .i64 (o.getD 0), .bool o.isSome]) ∧ Ext w w'
set_option maxHeartbeats 2000000 in
theorem p_to (v : Value) (L : List Ins) (k : Nat) (x : Ins) (w : World) (h : Rd w 5 Ins.enc v L) (hl : L.length ≤ 1000000) (hx : L[k]? = some x) (hok : x.Ok) : Calls Tryz.prog 46 #[v, .int .i64 k] w (OptA (toS x k) w) := by
  obtain ⟨a, n, c, rfl, hn, hN⟩ := h.val
  have hk : k < n := by rw [hN.out]; exact (List.getElem?_eq_some_iff.1 hx).1
  have hk2 : n ≤ 1000000 := by rw [hN.out]; exact hl
  have ix := fun W => h.run_at (P := Tryz.prog) el_ins.under el_ins.size .i64 (k : Int) (by omega) (by omega) W
  simp only [Int.toNat_natCast] at ix
  have HD := Lib.hid h
  have HX := Lib.hid hx
  have HOK := Lib.hid hok
  have w0 : wrap64 ((k : Int) + 1) = k + 1 := by unfold wrap64; omega
  have w1 : wrap64 ((k : Int) + 1 + x.off) = k + 1 + x.off := by have := hok.off; unfold wrap64; omega
  have w2 : wrap64 ((k : Int) + 1 + x.imm) = k + 1 + x.imm := by have := hok.imm; unfold wrap64; omega
  unfold toS whatZ
  obtain ⟨y, hy⟩ : ∃ y, (whatS x).getD Wh.zero = y := ⟨_, rfl⟩
  obtain ⟨bb, hbb⟩ : ∃ y, (whatS x).isSome = y := ⟨_, rfl⟩
  obtain ⟨k9, hk9⟩ : ∃ z, (y.kind != 9) = z := ⟨_, rfl⟩
  obtain ⟨k10, hk10⟩ : ∃ z, (y.kind != 10) = z := ⟨_, rfl⟩
  obtain ⟨k6, hk6⟩ : ∃ z, (x.op == 6) = z := ⟨_, rfl⟩
  have b1 : (y.kind = 9) = (k9 = false) := by rw [← hk9]; simp
  have b2 : (y.kind = 10) = (k10 = false) := by rw [← hk10]; simp
  have b3 : (x.op = 6) = (k6 = true) := by rw [← hk6]; simp
  simp only [hy, b1, b2, b3]
  obtain ⟨R, hR⟩ : ∃ R : Option Int, R = if k9 = false ∨ k10 = false then some (k + 1 + if k6 = true then x.imm else x.off) else none := ⟨_, rfl⟩
  rw [← hR]
  have HR := Lib.hid hR
  have w3 : wrap64 x.off = x.off := by have := hok.off; unfold wrap64; omega
  have w4 : wrap64 x.imm = x.imm := by have := hok.imm; unfold wrap64; omega
  clear hR
  have HY := Lib.hid hy
  have HB := Lib.hid hbb
  clear h hx hok hy hbb b1 b2 b3
  obtain ⟨c0, c1, c2, c3, c4⟩ := ins_cells HD.out HX.out
  go_enter Tryz.func46, Tryz.ntmps46
  go_upto_region 1 with fail
  go_cut [6] (fun v6 wx => ∃ q, v6 = .pointer (some ⟨q, 0, none⟩) ∧ Hid (Ext w wx ∧ wx.heap[q]? = some (whObj y) ∧ w.heap.size ≤ q))
  case first =>
    go_wp2_with fail
    refine (p_What x _ HOK.out).mono ?_
    unfold WhatA
    rw [HY.out, HB.out]
    rintro e w5 ⟨rfl, hE⟩
    have HE5 := Lib.hid hE
    clear hE
    go_wp2_with fail
    go_meet
    refine ⟨_, rfl, Lib.hid ⟨?_, ?_, HE5.out.size⟩⟩
    · have := HE5.out
      (repeat (first | exact Ext.rfl' _ | assumption | refine Ext.drewN' ?_ _ | refine Ext.drew' ?_ | refine Ext.alloc' ?_ _ | refine Ext.trans' ?_ (by assumption)))
    · (repeat (first | (refine obj_top _ _ ?_; simp; done) | refine obj_old _ ?_))
  case rest =>
    obtain ⟨q, rfl, HW⟩ := hcut
    have q0 := cell_obj (i := 0) HW.out.2.1
    simp only [List.getElem?_toArray, List.getElem?_cons_zero, List.getElem?_cons_succ] at q0
    clear c0 c1 c2 c3 c4
    obtain ⟨c0, c1, c2, c3, c4⟩ := ins_cells (HD.out.ext HW.out.1) HX.out
    cases k9
    · cases k6
      all_goals
        go_wp2_with fail
        go_returns
        exact ⟨by rw [HR.out]; simp, HW.out.1⟩
    · cases k10
      · cases k6
        all_goals
          go_wp2_with fail
          go_returns
          exact ⟨by rw [HR.out]; simp, HW.out.1⟩
      · go_wp2_with fail
        go_returns
        exact ⟨by rw [HR.out]; simp, HW.out.1⟩
/-- Where an instruction jumps to. -/
def targetS (L : List Ins) (x : Ins) (k : Nat) : Option Int := match toS x k with | none => none | some t => if 0 ≤ t ∧ t < L.length then some t else none
theorem toS_range {x : Ins} {k : Nat} {t : Int} (hk : k ≤ 1000000) (hok : x.Ok) (h : toS x k = some t) : -3000000000 ≤ t ∧ t ≤ 3000000000 := by
  unfold toS at h
  split at h
  · injection h with h
    have h1 := hok.off
    have h2 := hok.imm
    split at h <;> omega
  · cases h
set_option maxHeartbeats 2000000 in
theorem p_Target (v : Value) (L : List Ins) (k : Nat) (x : Ins) (w : World) (h : Rd w 5 Ins.enc v L) (hl : L.length ≤ 1000000) (hx : L[k]? = some x) (hok : x.Ok) : Calls Tryz.prog 34 #[v, .int .i64 k] w (OptA (targetS L x k) w) := by
  obtain ⟨a, n, c, rfl, hn, hN⟩ := h.val
  have hk : k < n := by rw [hN.out]; exact (List.getElem?_eq_some_iff.1 hx).1
  have hk2 : n ≤ 1000000 := by rw [hN.out]; exact hl
  have HD := Lib.hid h
  have HX := Lib.hid hx
  have HOK := Lib.hid hok
  have HL := Lib.hid hl
  obtain ⟨R, hR⟩ : ∃ R, R = targetS L x k := ⟨_, rfl⟩
  rw [← hR]
  unfold targetS at hR
  rw [← hN.out] at hR
  have HR := Lib.hid hR
  clear h hx hok hl hR
  go_enter Tryz.func34, Tryz.ntmps34
  go_wp2_with fail
  refine (p_to _ L k x _ HD.out HL.out HX.out HOK.out).mono ?_
  unfold OptA
  cases ht : toS x k with
  | none =>
    have HT := Lib.hid ht
    clear ht
    rintro e w5 ⟨rfl, hE⟩
    have HE5 := Lib.hid hE
    clear hE
    simp only [Option.getD_none, Option.isSome_none]
    go_wp2_with fail
    go_returns
    exact ⟨by rw [HR.out, HT.out]; rfl, HE5.out⟩
  | some t =>
    have HT := Lib.hid ht
    clear ht
    rintro e w5 ⟨rfl, hE⟩
    have HE5 := Lib.hid hE
    clear hE
    simp only [Option.getD_some, Option.isSome_some]
    by_cases h1 : 0 ≤ t
    · by_cases h2 : t < n
      · go_wp2_with fail
        go_returns
        exact ⟨by rw [HR.out, HT.out]; simp [h1, h2], HE5.out⟩
      · go_wp2_with fail
        go_returns
        have h3 : ¬ (0 ≤ t ∧ t < (n : Int)) := by omega
        exact ⟨by rw [HR.out, HT.out]; simp only []; rw [if_neg h3]; rfl, HE5.out⟩
    · go_wp2_with fail
      go_returns
      have h3 : ¬ (0 ≤ t ∧ t < (n : Int)) := by omega
      exact ⟨by rw [HR.out, HT.out]; simp only []; rw [if_neg h3]; rfl, HE5.out⟩
/-- What begins at a place is an instruction, with its other half. -/
def wholeS (L : List Ins) (x : Ins) (k : Nat) : Bool :=
  (whatS x).isSome && (!(x.op == 24) || match L[k + 1]? with | none => false | some y => y.op == 0 && y.dst == 0 && y.src == 0 && y.off == 0 && ((whatZ x).kind == 3 || y.imm == 0))
set_option maxHeartbeats 2000000 in
theorem p_whole (v : Value) (L : List Ins) (k : Nat) (x : Ins) (w : World) (h : Rd w 5 Ins.enc v L) (hl : L.length ≤ 1000000) (hx : L[k]? = some x) (hok : x.Ok) : Calls Tryz.prog 45 #[v, .int .i64 k] w fun e w' => e = .returned (.bool (wholeS L x k)) ∧ Ext w w' := by
  obtain ⟨a, n, c, rfl, hn, hN⟩ := h.val
  have hk : k < n := by rw [hN.out]; exact (List.getElem?_eq_some_iff.1 hx).1
  have hk2 : n ≤ 1000000 := by rw [hN.out]; exact hl
  have ix := fun W => h.run_at (P := Tryz.prog) el_ins.under el_ins.size .i64 (k : Int) (by omega) (by omega) W
  simp only [Int.toNat_natCast] at ix
  have HD := Lib.hid h
  have HX := Lib.hid hx
  have HOK := Lib.hid hok
  have w0 : wrap64 ((k : Int) + 1) = k + 1 := by unfold wrap64; omega
  obtain ⟨R, hR⟩ : ∃ R, R = wholeS L x k := ⟨_, rfl⟩
  rw [← hR]
  unfold wholeS whatZ at hR
  obtain ⟨y, hy⟩ : ∃ y, (whatS x).getD Wh.zero = y := ⟨_, rfl⟩
  obtain ⟨bb, hbb⟩ : ∃ y, (whatS x).isSome = y := ⟨_, rfl⟩
  obtain ⟨k3, hk3⟩ : ∃ z, (y.kind == 3) = z := ⟨_, rfl⟩
  obtain ⟨k24, hk24⟩ : ∃ z, (x.op == 24) = z := ⟨_, rfl⟩
  rw [hy, hbb, hk3, hk24] at hR
  have HR := Lib.hid hR
  have HY := Lib.hid hy
  have HB := Lib.hid hbb
  have HK := Lib.hid hk24
  clear h hx hok hy hbb hR hk24
  obtain ⟨c0, c1, c2, c3, c4⟩ := ins_cells HD.out HX.out
  go_enter Tryz.func45, Tryz.ntmps45
  go_upto_region 1 with fail
  go_cut [5, 6] (fun v5 v6 wx => ∃ q, v5 = .pointer (some ⟨q, 0, none⟩) ∧ v6 = .bool bb ∧ Hid (Ext w wx ∧ wx.heap[q]? = some (whObj y) ∧ w.heap.size ≤ q))
  case first =>
    go_wp2_with fail
    refine (p_What x _ HOK.out).mono ?_
    unfold WhatA
    rw [HY.out, HB.out]
    rintro e w5 ⟨rfl, hE⟩
    have HE5 := Lib.hid hE
    clear hE
    go_wp2_with fail
    go_meet
    refine ⟨_, rfl, rfl, Lib.hid ⟨?_, ?_, HE5.out.size⟩⟩
    · have := HE5.out
      (repeat (first | exact Ext.rfl' _ | assumption | refine Ext.drewN' ?_ _ | refine Ext.drew' ?_ | refine Ext.alloc' ?_ _ | refine Ext.trans' ?_ (by assumption)))
    · (repeat (first | (refine obj_top _ _ ?_; simp; done) | refine obj_old _ ?_))
  case rest =>
    obtain ⟨q, rfl, rfl, HW⟩ := hcut
    clear c0 c1 c2 c3 c4
    obtain ⟨c0, c1, c2, c3, c4⟩ := ins_cells (HD.out.ext HW.out.1) HX.out
    cases bb with
    | false =>
      go_wp2_with fail
      go_returns
      exact ⟨by rw [HR.out]; rfl, HW.out.1⟩
    | true =>
      go_wp2_with fail
      refine (p_wideI x _).mono ?_
      rw [HK.out]
      rintro e w5 ⟨rfl, rfl⟩
      have HE2 := Lib.hid (HW.out.1.alloc' (.cells #[.int .u8 x.op, .int .u8 x.dst, .int .u8 x.src, .int .i16 x.off, .int .i32 x.imm] 64))
      cases k24 with
      | false =>
        go_wp2_with fail
        go_returns
        exact ⟨by rw [HR.out]; rfl, HE2.out⟩
      | true =>
        by_cases hk1 : k + 1 < n
        · obtain ⟨z, hz⟩ := at_of_lt (xs := L) (k := k + 1) (by rw [← hN.out]; exact hk1)
          have iy := fun W => HD.out.run_at (P := Tryz.prog) el_ins.under el_ins.size .i64 ((k : Int) + 1) (by omega) (by omega) W
          rw [show ((k : Int) + 1).toNat = k + 1 by omega] at iy
          clear c0 c1 c2 c3 c4
          obtain ⟨d0, d1, d2, d3, d4⟩ := ins_cells (HD.out.ext HE2.out) hz
          have HZ := Lib.hid hz
          clear hz
          go_upto_region 8 with fail
          go_cut [7] (fun v7 wx => ∃ p, v7 = .pointer (some ⟨p, 0, none⟩) ∧ Hid (Ext w wx ∧ wx.heap[p]? = some (insObj z) ∧ wx.heap[q]? = some (whObj y) ∧ w.heap.size ≤ p))
          case first =>
            go_wp2_with fail
            go_meet
            refine ⟨_, rfl, Lib.hid ⟨?_, ?_, ?_, ?_⟩⟩
            · have := HE2.out
              (repeat (first | exact Ext.rfl' _ | assumption | refine Ext.drewN' ?_ _ | refine Ext.drew' ?_ | refine Ext.alloc' ?_ _ | refine Ext.trans' ?_ (by assumption)))
            · (repeat (first | (refine obj_top _ _ ?_; simp; done) | refine obj_old _ ?_))
            · exact obj_old _ (obj_old _ HW.out.2.1)
            · have := HE2.out.size
              simp at this ⊢
              omega
          case rest =>
            obtain ⟨p, rfl, HP⟩ := hcut
            have q0 := cell_obj (i := 0) HP.out.2.2.1
            have z0 := cell_obj (i := 0) HP.out.2.1
            have z1 := cell_obj (i := 1) HP.out.2.1
            have z2 := cell_obj (i := 2) HP.out.2.1
            have z3 := cell_obj (i := 3) HP.out.2.1
            have z4 := cell_obj (i := 4) HP.out.2.1
            have zf := fun i => frozen_obj (i := i) HP.out.2.1
            simp only [List.getElem?_toArray, List.getElem?_cons_zero, List.getElem?_cons_succ] at q0 z0 z1 z2 z3 z4
            clear d0 d1 d2 d3 d4
            cases k3
            all_goals
              go_wp2_with fail
            all_goals
              go_returns
              exact ⟨by rw [HR.out, HZ.out]; simp_all, by first | exact HP.out.1 | exact HP.out.1.setCell HP.out.2.2.2 _⟩
        · go_wp2_with fail
          go_returns
          exact ⟨by rw [HR.out, List.getElem?_eq_none (by rw [← hN.out]; omega)]; rfl, HE2.out⟩
end Go.Proofs.YtlpeljpjgmapgaaGreat
