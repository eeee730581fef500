/- What the claim leans on: LvA · LvB. -/
import Derived.Test.YtppefchjoodgnaaGreatPL15
import Derived.Test.YtppefchjoodgnaaGreatPL26
import Derived.Test.YtppefchjoodgnaaGreatPL29
namespace Go.Proofs.YtppefchjoodgnaaGreat
open Go.RowKit
set_option linter.unusedVariables false
set_option linter.unusedSimpArgs false
def bitS (i : Int) : Nat := 2 ^ i.toNat
theorem bitS_lt {i : Int} (h0 : 0 ≤ i) (h1 : i ≤ 10) : bitS i < 65536 := by
 unfold bitS
 have : i = 0 ∨ i = 1 ∨ i = 2 ∨ i = 3 ∨ i = 4 ∨ i = 5 ∨ i = 6 ∨ i = 7 ∨ i = 8 ∨ i = 9 ∨ i = 10 := by omega
 rcases this with rfl | rfl | rfl | rfl | rfl | rfl | rfl | rfl | rfl | rfl | rfl <;> decide
set_option maxHeartbeats 1000000 in
theorem l_of (v : Value) (i : Int) (w : World) (h : Rd w 1 encU v [i]) (h0 : 0 ≤ i) (h1 : i ≤ 10) : Calls Tryz.prog 112 #[v] w fun e w' => e = .returned (.int .u16 ((bitS i : Nat) : Int)) ∧ w' = w := by
 obtain ⟨a, n, c, rfl, hn, hN⟩ := h.val
 obtain rfl : n = 1 := by simpa using hN.out
 have ix := fun W => h.run_at (P := Tryz.prog) el_u8.under el_u8.size .i64 0 (by omega) (by omega) W
 have cx := h.cell (i := 0) (x := i) rfl (j := 0) rfl
 simp only [Nat.mul_one, Nat.add_zero, Int.toNat_zero] at ix cx
 clear h hN
 have hi : i = 0 ∨ i = 1 ∨ i = 2 ∨ i = 3 ∨ i = 4 ∨ i = 5 ∨ i = 6 ∨ i = 7 ∨ i = 8 ∨ i = 9 ∨ i = 10 := by omega
 clear h0 h1
 rcases hi with rfl | rfl | rfl | rfl | rfl | rfl | rfl | rfl | rfl | rfl | rfl
 all_goals
  go_enter Tryz.func112, Tryz.ntmps112
  go_wp2
  refine wp_loop_rounds 2 ?_
  rw [rounds_succ]
  go_wp2
  rw [rounds_succ]
  go_wp2
  go_returns
  exact ⟨rfl, rfl⟩
theorem what_regs {x : Ins} {y : Wh} (e : whatS x = some y) : x.dst ≤ 10 ∧ x.src ≤ 10 := by
 unfold whatS at e
 split at e
 ·cases e
 ·rename_i h
  omega
theorem kind_some {x : Ins} {y : Wh} (e : whatS x = some y) : 1 ≤ y.kind ∧ y.kind ≤ 12 := by
 unfold whatS at e
 repeat' split at e
 all_goals first | (cases e; done) | (have := kind_wide e; omega) | (have := kind_swaps e; omega) | (have := kind_arith e; omega) | (have := kind_jumps e; omega) | (have := kind_moves e; omega)
theorem kind_all {x : Ins} {y : Wh} (e : (whatS x).getD Wh.zero = y) : (y.kind = 0 ∧ y.reg = false) ∨ (1 ≤ y.kind ∧ y.kind ≤ 12 ∧ x.dst ≤ 10 ∧ x.src ≤ 10) := by
 cases hw : whatS x with
 | none => rw [hw] at e; subst e; exact .inl ⟨rfl, rfl⟩
 | some z =>
  rw [hw] at e
  have : z = y := e
  subst this
  exact .inr ⟨(kind_some hw).1, (kind_some hw).2, what_regs hw⟩
def regS (rg : Bool) (x : Ins) : Nat := if rg then bitS x.src else 0
def readsK (kd op : Int) (rg : Bool) (x : Ins) : Nat :=
 if kd = 1 then (if op = 176 then regS rg x else regS rg x ||| bitS x.dst)
 else if kd = 2 ∨ kd = 6 ∨ kd = 7 ∨ kd = 8 ∨ kd = 10 then regS rg x ||| bitS x.dst
 else if kd = 5 then bitS x.src
 else if kd = 12 then 1
 else if kd = 11 then 2 ^ (1 + (tolds x.imm).length) - 2
 else regS rg x
def readsS (x : Ins) : Nat := readsK (whatZ x).kind (whatZ x).op (whatZ x).reg x
def writesS (x : Ins) : Nat := if (whatZ x).kind = 1 ∨ (whatZ x).kind = 2 ∨ (whatZ x).kind = 3 ∨ (whatZ x).kind = 4 ∨ (whatZ x).kind = 5 then bitS x.dst else if (whatZ x).kind = 11 then 63 else 0
theorem regS_lt {rg : Bool} {x : Ins} (h0 : 0 ≤ x.src) (h : rg = true → x.src ≤ 10) : regS rg x < 65536 := by
 unfold regS
 split
 ·rename_i h1; exact bitS_lt h0 (h h1)
 ·omega
theorem or_u16 {a b : Nat} (ha : a < 65536) (hb : b < 65536) : bits .or .u16 (a : Int) (b : Int) = ((a ||| b : Nat) : Int) := by
 have := u16_or (a : Int) (b : Int) (by omega) (by omega) (by omega) (by omega)
 simpa using this
set_option maxRecDepth 20000 in
set_option maxHeartbeats 4000000 in
theorem l_reads (x : Ins) (w : World) (hx : x.Ok) : Calls Tryz.prog 70 #[x.agg] w fun e w' => e = .returned (.int .u16 ((readsS x : Nat) : Int)) ∧ Ext w w' := by
 have HOK := η hx
 obtain ⟨y, hy⟩ : ∃ y, (whatS x).getD Wh.zero = y := ⟨_, rfl⟩
 have hka := kind_all hy
 have hrs : readsS x = readsK y.kind y.op y.reg x := by unfold readsS whatZ; rw [hy]
 obtain ⟨R, hR⟩ : ∃ R, readsS x = R := ⟨_, rfl⟩
 rw [hR]
 rw [hR] at hrs
 have HY := η hy
 obtain ⟨kd, op, wd, rg, sg, sz⟩ := y
 simp only [] at hrs hka
 have HRS := η hrs
 have HKA := η hka
 have hs0 := hx.src.1
 have hd0 := hx.dst.1
 clear hx hy hR hrs hka
 go_enter Tryz.func70, Tryz.ntmps70
 go_upto_region 1 with fail
 go_cut [3, 4] (fun v3 v4 wx => ∃ q bb, v3 = .pointer (some ⟨q, 0, none⟩) ∧ v4 = .bool bb ∧ Hid (Ext w wx ∧ wx.heap[w.heap.size]? = some (insObj x) ∧ wx.heap[q]? = some (whObj ⟨kd, op, wd, rg, sg, sz⟩)))
 case first =>
  go_wp2_with fail
  refine (p_What x _ HOK.out).mono ?_
  unfold WhatA
  rw [HY.out]
  rintro e w7 ⟨rfl, hE7⟩
  have HE7 := η hE7
  have HO7 := η (hE7.obj (obj_top w (insObj x) rfl))
  clear hE7
  go_wp2_with fail
  go_meet
  refine ⟨_, _, rfl, rfl, η ⟨Ext.alloc' (Ext.trans' (Ext.alloc' (Ext.rfl' _) _) HE7.out) _, obj_old _ HO7.out, ?_⟩⟩
  (repeat (first | (refine obj_top _ _ ?_; simp; done) | refine obj_old _ ?_))
 case rest =>
  obtain ⟨q, bb, rfl, rfl, HW⟩ := hcut
  have HO1 := η HW.out.2.1
  have HQ := η HW.out.2.2
  have HE := η HW.out.1
  clear HW
  (have o1 := HO1.out; have a0 := cO (i := 0) o1; have a1 := cO (i := 1) o1; have a2 := cO (i := 2) o1; have a3 := cO (i := 3) o1; have a4 := cO (i := 4) o1; simp only [gA, gB, gC] at a0 a1 a2 a3 a4; clear o1)
  have q0 := cO (i := 0) HQ.out
  have q1 := cO (i := 1) HQ.out
  have q3 := cO (i := 3) HQ.out
  simp only [gA, gB, gC] at q0 q1 q3
  have hl1 := heap_lt HO1.out
  have hl2 := heap_lt HQ.out
  have hrg : rg = true → x.src ≤ 10 := fun h => by
   rcases HKA.out with h2 | h2
   ·rw [h2.2] at h; cases h
   ·exact h2.2.2.2
  have HSL := η (regS_lt hs0 hrg)
  have HRG := η hrg
  clear hrg
  go_upto_if 14 with fail
  go_cut [5] (fun v5 wx => v5 = .int .u16 ((regS rg x : Nat) : Int) ∧ Hid (Ext wc wx))
  case first =>
   cases rg
   ·go_wp2_with fail
    go_meet
    exact ⟨rfl, η (Ext.rfl' _)⟩
   ·have HLIT : Hid (Rd (wc.alloc (.cells #[.int .u8 x.src] 5)) 1 encU (.slice (some ⟨wc.heap.size, 0, none⟩) 1 1) [x.src]) := η (rd_u8s wc [x.src] _ _ rfl rfl (by simp))
    go_wp2_with fail
    refine (l_of _ x.src _ HLIT.out hs0 (by simpa using HRG.out)).mono ?_
    rintro e w5 ⟨rfl, rfl⟩
    go_wp2_with fail
    go_meet
    exact ⟨rfl, η (by (repeat (first|exact xE0 _|assumption|refine xE1 ?_ _|refine xE2 ?_|refine xE3 ?_ _|refine xE4 ?_ (by assumption))))⟩
  case rest =>
   obtain ⟨rfl, HX⟩ := hcut
   replace HO1 := η (HX.out.obj HO1.out)
   replace HQ := η (HX.out.obj HQ.out)
   replace HE := η (HE.out.trans' HX.out)
   clear q0 q1 q3 a0 a1 a2 a3 a4 hl1 hl2 HX
   (have o1 := HO1.out; have a0 := cO (i := 0) o1; have a1 := cO (i := 1) o1; have a2 := cO (i := 2) o1; have a3 := cO (i := 3) o1; have a4 := cO (i := 4) o1; simp only [gA, gB, gC] at a0 a1 a2 a3 a4; clear o1)
   have q0 := cO (i := 0) HQ.out
   have q1 := cO (i := 1) HQ.out
   simp only [gA, gB, gC] at q0 q1
   have hl1 := heap_lt HO1.out
   have hl2 := heap_lt HQ.out
   go_upto_block 0 with fail
   go_cut [5] (fun v5 wx => v5 = .int .u16 ((R : Nat) : Int) ∧ Hid (Ext w wx))
   case first =>
    have hk13 : kd = 0 ∨ kd = 3 ∨ kd = 4 ∨ kd = 9 ∨ kd = 1 ∨ kd = 2 ∨ kd = 6 ∨ kd = 7 ∨ kd = 8 ∨ kd = 10 ∨ kd = 5 ∨ kd = 12 ∨ kd = 11 := by rcases HKA.out with h | h <;> omega
    have hreg : kd = 0 ∨ (x.dst ≤ 10 ∧ x.src ≤ 10) := by
     rcases HKA.out with h | h
     ·exact .inl h.1
     ·exact .inr h.2.2
    have HREG := η hreg
    clear hreg
    have e_or := fun h => or_u16 HSL.out (bitS_lt hd0 h)
    have HOR := η e_or
    clear e_or
    have HL1 : Hid (∀ z, Rd (wc.alloc (.cells #[.int .u8 z] 5)) 1 encU (.slice (some ⟨wc.heap.size, 0, none⟩) 1 1) [z]) := η (fun z => rd_u8s wc [z] _ _ rfl rfl (by simp))
    rcases hk13 with rfl | rfl | rfl | rfl | rfl | rfl | rfl | rfl | rfl | rfl | rfl | rfl | rfl
    ·go_wp2_with fail
     go_meet
     exact ⟨by rw [HRS.out]; rfl, η HE.out⟩
    ·go_wp2_with fail
     go_meet
     exact ⟨by rw [HRS.out]; rfl, η HE.out⟩
    ·go_wp2_with fail
     go_meet
     exact ⟨by rw [HRS.out]; rfl, η HE.out⟩
    ·go_wp2_with fail
     go_meet
     exact ⟨by rw [HRS.out]; rfl, η HE.out⟩
    ·obtain ⟨z, hz⟩ : ∃ z, (op != 176) = z := ⟨_, rfl⟩
     cases z
     ·go_wp2_with fail
      go_meet
      exact ⟨by (rw [HRS.out]; have h176 : op = 176 := (by simpa using hz); subst h176; rfl), η HE.out⟩
     ·have hd10 : x.dst ≤ 10 := by rcases HREG.out with h | h; (cases h); exact h.1
      have e_or := HOR.out hd10
      go_wp2_with fail
      refine (l_of _ x.dst _ (HL1.out _) hd0 hd10).mono ?_
      rintro e w5 ⟨rfl, rfl⟩
      go_wp2_with fail
      go_meet
      exact ⟨by (rw [HRS.out]; have h176 : ¬ op = 176 := (by simpa using hz); simp [readsK, h176]), η (by have := HE.out; (repeat (first|exact xE0 _|assumption|refine xE1 ?_ _|refine xE2 ?_|refine xE3 ?_ _|refine xE4 ?_ (by assumption))))⟩
    ·have hd10 : x.dst ≤ 10 := by rcases HREG.out with h | h; (cases h); exact h.1
     have e_or := HOR.out hd10
     go_wp2_with fail
     refine (l_of _ x.dst _ (HL1.out _) hd0 hd10).mono ?_
     rintro e w5 ⟨rfl, rfl⟩
     go_wp2_with fail
     go_meet
     exact ⟨by rw [HRS.out]; rfl, η (by have := HE.out; (repeat (first|exact xE0 _|assumption|refine xE1 ?_ _|refine xE2 ?_|refine xE3 ?_ _|refine xE4 ?_ (by assumption))))⟩
    ·have hd10 : x.dst ≤ 10 := by rcases HREG.out with h | h; (cases h); exact h.1
     have e_or := HOR.out hd10
     go_wp2_with fail
     refine (l_of _ x.dst _ (HL1.out _) hd0 hd10).mono ?_
     rintro e w5 ⟨rfl, rfl⟩
     go_wp2_with fail
     go_meet
     exact ⟨by rw [HRS.out]; rfl, η (by have := HE.out; (repeat (first|exact xE0 _|assumption|refine xE1 ?_ _|refine xE2 ?_|refine xE3 ?_ _|refine xE4 ?_ (by assumption))))⟩
    ·have hd10 : x.dst ≤ 10 := by rcases HREG.out with h | h; (cases h); exact h.1
     have e_or := HOR.out hd10
     go_wp2_with fail
     refine (l_of _ x.dst _ (HL1.out _) hd0 hd10).mono ?_
     rintro e w5 ⟨rfl, rfl⟩
     go_wp2_with fail
     go_meet
     exact ⟨by rw [HRS.out]; rfl, η (by have := HE.out; (repeat (first|exact xE0 _|assumption|refine xE1 ?_ _|refine xE2 ?_|refine xE3 ?_ _|refine xE4 ?_ (by assumption))))⟩
    ·have hd10 : x.dst ≤ 10 := by rcases HREG.out with h | h; (cases h); exact h.1
     have e_or := HOR.out hd10
     go_wp2_with fail
     refine (l_of _ x.dst _ (HL1.out _) hd0 hd10).mono ?_
     rintro e w5 ⟨rfl, rfl⟩
     go_wp2_with fail
     go_meet
     exact ⟨by rw [HRS.out]; rfl, η (by have := HE.out; (repeat (first|exact xE0 _|assumption|refine xE1 ?_ _|refine xE2 ?_|refine xE3 ?_ _|refine xE4 ?_ (by assumption))))⟩
    ·have hd10 : x.dst ≤ 10 := by rcases HREG.out with h | h; (cases h); exact h.1
     have e_or := HOR.out hd10
     go_wp2_with fail
     refine (l_of _ x.dst _ (HL1.out _) hd0 hd10).mono ?_
     rintro e w5 ⟨rfl, rfl⟩
     go_wp2_with fail
     go_meet
     exact ⟨by rw [HRS.out]; rfl, η (by have := HE.out; (repeat (first|exact xE0 _|assumption|refine xE1 ?_ _|refine xE2 ?_|refine xE3 ?_ _|refine xE4 ?_ (by assumption))))⟩
    ·have hs10 : x.src ≤ 10 := by rcases HREG.out with h | h; (cases h); exact h.2
     go_wp2_with fail
     refine (l_of _ x.src _ (HL1.out _) hs0 hs10).mono ?_
     rintro e w5 ⟨rfl, rfl⟩
     go_wp2_with fail
     go_meet
     exact ⟨by rw [HRS.out]; rfl, η (by have := HE.out; (repeat (first|exact xE0 _|assumption|refine xE1 ?_ _|refine xE2 ?_|refine xE3 ?_ _|refine xE4 ?_ (by assumption))))⟩
    ·go_wp2_with fail
     refine (l_of _ 0 _ (HL1.out _) (by omega) (by omega)).mono ?_
     rintro e w5 ⟨rfl, rfl⟩
     go_wp2_with fail
     go_meet
     exact ⟨by rw [HRS.out]; rfl, η (by have := HE.out; (repeat (first|exact xE0 _|assumption|refine xE1 ?_ _|refine xE2 ?_|refine xE3 ?_ _|refine xE4 ?_ (by assumption))))⟩
    ·have w4 : wrap64 x.imm = x.imm := by have := HOK.out.imm; unfold wrap64; omega
     go_wp2_with fail
     refine (psig x.imm _).mono ?_
     rintro e w5 ⟨sv, rfl, hsv, hE5⟩
     obtain ⟨ta, tn, tc, hsvv, htn, hTN⟩ := hsv.val
     subst hsvv
     have htl : (tolds x.imm).length = 0 ∨ (tolds x.imm).length = 2 ∨ (tolds x.imm).length = 4 := by
      unfold tolds
      split
      ·exact .inr (.inl rfl)
      ·split
       ·exact .inr (.inr rfl)
       ·split
        ·exact .inr (.inl rfl)
        ·exact .inl rfl
     have HE5 := η hE5
     have HT := η hTN.out
     clear hsv hE5 hTN w4
     rw [← HT.out] at htl
     rcases htl with rfl | rfl | rfl
     all_goals
      go_wp2_with fail
      go_meet
      exact ⟨by (rw [HRS.out]; unfold readsK; simp only [← HT.out]; rfl), η (by have := HE.out.trans' HE5.out; (repeat (first|exact xE0 _|assumption|refine xE1 ?_ _|refine xE2 ?_|refine xE3 ?_ _|refine xE4 ?_ (by assumption))))⟩
   case rest =>
    obtain ⟨rfl, HX⟩ := hcut
    go_wp2_with fail
    go_returns
    exact ⟨rfl, HX.out⟩
set_option maxRecDepth 20000 in
set_option maxHeartbeats 4000000 in
theorem l_writes (x : Ins) (w : World) (hx : x.Ok) : Calls Tryz.prog 71 #[x.agg] w fun e w' => e = .returned (.int .u16 ((writesS x : Nat) : Int)) ∧ Ext w w' := by
 have HOK := η hx
 obtain ⟨y, hy⟩ : ∃ y, (whatS x).getD Wh.zero = y := ⟨_, rfl⟩
 have hka := kind_all hy
 have hrs : writesS x = if y.kind = 1 ∨ y.kind = 2 ∨ y.kind = 3 ∨ y.kind = 4 ∨ y.kind = 5 then bitS x.dst else if y.kind = 11 then 63 else 0 := by unfold writesS whatZ; rw [hy]
 obtain ⟨R, hR⟩ : ∃ R, writesS x = R := ⟨_, rfl⟩
 rw [hR]
 rw [hR] at hrs
 have HY := η hy
 obtain ⟨kd, op, wd, rg, sg, sz⟩ := y
 simp only [] at hrs hka
 have HRS := η hrs
 have HKA := η hka
 have hd0 := hx.dst.1
 clear hx hy hR hrs hka
 go_enter Tryz.func71, Tryz.ntmps71
 go_upto_region 1 with fail
 go_cut [3, 4] (fun v3 v4 wx => ∃ q bb, v3 = .pointer (some ⟨q, 0, none⟩) ∧ v4 = .bool bb ∧ Hid (Ext w wx ∧ wx.heap[w.heap.size]? = some (insObj x) ∧ wx.heap[q]? = some (whObj ⟨kd, op, wd, rg, sg, sz⟩)))
 case first =>
  go_wp2_with fail
  refine (p_What x _ HOK.out).mono ?_
  unfold WhatA
  rw [HY.out]
  rintro e w7 ⟨rfl, hE7⟩
  have HE7 := η hE7
  have HO7 := η (hE7.obj (obj_top w (insObj x) rfl))
  clear hE7
  go_wp2_with fail
  go_meet
  refine ⟨_, _, rfl, rfl, η ⟨Ext.alloc' (Ext.trans' (Ext.alloc' (Ext.rfl' _) _) HE7.out) _, obj_old _ HO7.out, ?_⟩⟩
  (repeat (first | (refine obj_top _ _ ?_; simp; done) | refine obj_old _ ?_))
 case rest =>
  obtain ⟨q, bb, rfl, rfl, HW⟩ := hcut
  have HO1 := η HW.out.2.1
  have HQ := η HW.out.2.2
  have HE := η HW.out.1
  clear HW
  (have o1 := HO1.out; have a0 := cO (i := 0) o1; have a1 := cO (i := 1) o1; have a2 := cO (i := 2) o1; have a3 := cO (i := 3) o1; have a4 := cO (i := 4) o1; simp only [gA, gB, gC] at a0 a1 a2 a3 a4; clear o1)
  have q0 := cO (i := 0) HQ.out
  simp only [gA, gB, gC] at q0
  have hl1 := heap_lt HO1.out
  have hl2 := heap_lt HQ.out
  have hk13 : kd = 1 ∨ kd = 2 ∨ kd = 3 ∨ kd = 4 ∨ kd = 5 ∨ kd = 0 ∨ kd = 6 ∨ kd = 7 ∨ kd = 8 ∨ kd = 9 ∨ kd = 10 ∨ kd = 12 ∨ kd = 11 := by rcases HKA.out with h | h <;> omega
  have hreg : kd = 0 ∨ (x.dst ≤ 10 ∧ x.src ≤ 10) := by
   rcases HKA.out with h | h
   ·exact .inl h.1
   ·exact .inr h.2.2
  have HREG := η hreg
  clear hreg
  have HL1 : Hid (∀ z, Rd (wc.alloc (.cells #[.int .u8 z] 5)) 1 encU (.slice (some ⟨wc.heap.size, 0, none⟩) 1 1) [z]) := η (fun z => rd_u8s wc [z] _ _ rfl rfl (by simp))
  rcases hk13 with rfl | rfl | rfl | rfl | rfl | rfl | rfl | rfl | rfl | rfl | rfl | rfl | rfl
  iterate 5
   have hd10 : x.dst ≤ 10 := by rcases HREG.out with h | h; (cases h); exact h.1
   go_wp2_with fail
   refine (l_of _ x.dst _ (HL1.out _) hd0 hd10).mono ?_
   rintro e w5 ⟨rfl, rfl⟩
   go_wp2_with fail
   go_returns
   exact ⟨by rw [HRS.out]; rfl, by have := HE.out; (repeat (first|exact xE0 _|assumption|refine xE1 ?_ _|refine xE2 ?_|refine xE3 ?_ _|refine xE4 ?_ (by assumption)))⟩
  all_goals
   go_wp2_with fail
   go_returns
   exact ⟨by rw [HRS.out]; rfl, by have := HE.out; (repeat (first|exact xE0 _|assumption|refine xE1 ?_ _|refine xE2 ?_|refine xE3 ?_ _|refine xE4 ?_ (by assumption)))⟩
set_option maxRecDepth 20000 in
set_option maxHeartbeats 1000000 in
theorem l_begins (v : Value) (L : List Ins) (i : Int) (w : World) (h : Rd w 5 Ins.enc v L) (hl : L.length ≤ 1000000) (hok : InsOk L) : Calls Tryz.prog 76 #[v, .int .i64 i] w fun e w' => e = .returned (.bool (beginsS L i)) ∧ Ext w w' := by
 obtain ⟨a, n, c, rfl, hn, hN⟩ := h.val
 have HD := η h
 have HOK := η hok
 have HL := η hl
 obtain ⟨R, hR⟩ : ∃ R, R = beginsS L i := ⟨_, rfl⟩
 rw [← hR]
 unfold beginsS at hR
 obtain ⟨p, hp⟩ : ∃ p, progS L = p := ⟨_, rfl⟩
 rw [hp, ← hN.out] at hR
 have HR := η hR
 have HP := η hp
 clear h hok hl hR hp
 go_enter Tryz.func76, Tryz.ntmps76
 go_wp2_with fail
 refine (p_Check _ L _ HD.out HL.out HOK.out).mono ?_
 rintro e w5 ⟨at_, er, rfl, her, hE⟩
 rw [HP.out] at her
 have HE := η hE
 clear hE
 cases p with
 | false =>
  have hne : (er != 0) = true := by simpa using her
  clear her
  go_wp2_with fail
  go_returns
  exact ⟨by rw [HR.out]; rfl, HE.out⟩
 | true =>
  obtain rfl : er = 0 := by simpa using her
  clear her
  by_cases h0 : 0 ≤ i
  ·by_cases h1 : i < n
   ·have d0 : decide (i < 0) = false := by simpa using h0
    have d1 : decide ((n : Int) ≤ i) = false := by simpa using h1
    go_wp2_with fail
    refine (p_Starts _ L _ (HD.out.ext HE.out) HL.out).mono ?_
    rintro e w6 ⟨s, rfl, hO, hE6⟩
    have hRd := hO.rd enc_bool
    obtain ⟨sa, sn, sc, rfl, hsn, hSN⟩ := hRd.val
    obtain rfl : sn = n := by rw [hSN.out, stF_length, hN.out]
    obtain ⟨b, hb⟩ := at_of_lt (xs := stF false L) (k := i.toNat) (by have := hSN.out; omega)
    have ix := fun W => hRd.run_at (P := Tryz.prog) el_bool.under el_bool.size .i64 i (by omega) (by omega) W
    have cb := hRd.cell hb (j := 0) rfl
    simp only [Nat.mul_one, Nat.add_zero] at ix cb
    have HB := η hb
    have HE6 := η hE6
    clear hb hE6 hO hRd
    go_wp2_with fail
    go_returns
    exact ⟨by rw [HR.out, HB.out, decide_eq_true h0, decide_eq_true h1]; cases b <;> rfl, HE.out.trans' HE6.out⟩
   ·have d0 : decide (i < 0) = false := by simpa using h0
    have d1 : decide ((n : Int) ≤ i) = true := by simpa using h1
    go_wp2_with fail
    go_returns
    exact ⟨by rw [HR.out, decide_eq_false (by omega : ¬ i < (n : Int))]; simp, HE.out⟩
  ·have d0 : decide (i < 0) = true := by simpa using h0
   go_wp2_with fail
   go_returns
   exact ⟨by rw [HR.out, decide_eq_false (by omega : ¬ 0 ≤ i)]; simp, HE.out⟩
theorem begins_at {L : List Ins} {i : Int} (hb : beginsS L i = true) : ∃ k : Nat, i = k ∧ k < L.length ∧ ∃ x, L[k]? = some x := by
 unfold beginsS at hb
 simp only [Bool.and_eq_true, decide_eq_true_eq] at hb
 obtain ⟨x, hx⟩ := at_of_lt (xs := L) (k := i.toNat) (by omega)
 exact ⟨i.toNat, by omega, by omega, x, hx⟩
def atS (f : Ins → Nat) (L : List Ins) (i : Int) : Nat := if beginsS L i then (match L[i.toNat]? with | some x => f x | none => 0) else 0
set_option maxRecDepth 20000 in
set_option maxHeartbeats 1000000 in
theorem l_Writes (v : Value) (L : List Ins) (i : Int) (w : World) (h : Rd w 5 Ins.enc v L) (hl : L.length ≤ 1000000) (hok : InsOk L) : Calls Tryz.prog 42 #[v, .int .i64 i] w fun e w' => e = .returned (.int .u16 ((atS writesS L i : Nat) : Int)) ∧ Ext w w' := by
 obtain ⟨a, n, c, rfl, hn, hN⟩ := h.val
 have HD := η h
 have HOK := η hok
 have HL := η hl
 unfold atS
 cases hb : beginsS L i with
 | false =>
  have HB := η hb
  clear h hok hl hb
  go_enter Tryz.func42, Tryz.ntmps42
  go_wp2_with fail
  refine (l_begins _ L i _ HD.out HL.out HOK.out).mono ?_
  rw [HB.out]
  rintro e w5 ⟨rfl, hE⟩
  have HE := η hE
  clear hE
  go_wp2_with fail
  go_returns
  exact ⟨rfl, HE.out⟩
 | true =>
  obtain ⟨k, rfl, hk, x, hx⟩ := begins_at hb
  simp only [if_true, Int.toNat_natCast, hx]
  have HB := η hb
  have HX := η hx
  have hk1 : k < n := by rw [hN.out]; exact hk
  have hk2 : n ≤ 1000000 := by rw [hN.out]; exact hl
  clear h hok hl hb hx hk
  go_enter Tryz.func42, Tryz.ntmps42
  go_wp2_with fail
  refine (l_begins _ L k _ HD.out HL.out HOK.out).mono ?_
  rw [HB.out]
  rintro e w5 ⟨rfl, hE⟩
  have HE := η hE
  have HD5 := η (HD.out.ext hE)
  clear hE
  have ix := fun W => HD5.out.run_at (P := Tryz.prog) el_ins.under el_ins.size .i64 (k : Int) (by omega) (by omega) W
  simp only [Int.toNat_natCast] at ix
  obtain ⟨c0, c1, c2, c3, c4⟩ := ins_cells HD5.out HX.out
  go_wp2_with fail
  refine (l_writes x _ (HOK.out.at HX.out)).mono ?_
  rintro e w6 ⟨rfl, hE6⟩
  have HE6 := η hE6
  clear hE6
  go_wp2_with fail
  go_returns
  exact ⟨rfl, HE.out.trans' HE6.out⟩
end Go.Proofs.YtppefchjoodgnaaGreat
namespace Go.Proofs.YtppefchjoodgnaaGreat
open Go.RowKit
set_option linter.unusedVariables false
set_option linter.unusedSimpArgs false
end Go.Proofs.YtppefchjoodgnaaGreat
namespace Go.Proofs.YtppefchjoodgnaaGreat
open Go.RowKit
set_option linter.unusedVariables false
set_option linter.unusedSimpArgs false
end Go.Proofs.YtppefchjoodgnaaGreat
