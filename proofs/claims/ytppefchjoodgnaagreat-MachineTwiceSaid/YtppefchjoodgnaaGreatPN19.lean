/- What the claim leans on: CoF. -/
import Derived.Test.YtppefchjoodgnaaGreatPN14
import Derived.Test.YtppefchjoodgnaaGreatPN15
import Derived.Test.YtppefchjoodgnaaGreatPN16
import Derived.Test.YtppefchjoodgnaaGreatPN18
namespace Go.Proofs.YtppefchjoodgnaaGreat
open Go.RowKit
set_option linter.unusedVariables false
set_option linter.unusedSimpArgs false
def whatS (x : Ins) : Option Wh :=
 if 10 < x.dst ∨ 10 < x.src then none
 else if x.op = 24 then wideS x
 else if x.op = 212 ∨ x.op = 220 ∨ x.op = 215 then swapsS x
 else if x.op % 8 = 4 ∨ x.op % 8 = 7 then arithS x (x.op / 16 * 16) (x.op % 8 == 7) (x.op / 8 % 2 == 1)
 else if x.op % 8 = 5 ∨ x.op % 8 = 6 then jumpsS x
 else if x.op % 8 = 0 then none
 else movesS x
def WhatA (x : Ins) (w : World) (e : Ending) (w' : World) : Prop := e = .returned (.tuple #[((whatS x).getD Wh.zero).agg, .bool (whatS x).isSome]) ∧ Ext w w'
set_option maxRecDepth 20000 in
set_option maxHeartbeats 4000000 in
theorem p_what (x : Ins) (w : World) (hx : x.Ok) : Calls Tryz.prog 75 #[x.agg] w (WhA (whatS x) w) := by
 have HOP := η hx.op
 have HXX := η hx
 unfold whatS
 obtain ⟨c, hc⟩ : ∃ c, x.op % 8 = c := ⟨_, rfl⟩
 obtain ⟨zd, hzd⟩ : ∃ z, decide (x.dst > 10) = z := ⟨_, rfl⟩
 obtain ⟨zs, hzs⟩ : ∃ z, decide (x.src > 10) = z := ⟨_, rfl⟩
 obtain ⟨k, hk⟩ : ∃ z, (x.op == 24) = z := ⟨_, rfl⟩
 obtain ⟨l, hl⟩ : ∃ z, (x.op == 212) = z := ⟨_, rfl⟩
 obtain ⟨b, hb⟩ : ∃ z, (x.op == 220) = z := ⟨_, rfl⟩
 obtain ⟨t, ht⟩ : ∃ z, (x.op == 215) = z := ⟨_, rfl⟩
 obtain ⟨c4, hc4⟩ : ∃ z, (c == 4) = z := ⟨_, rfl⟩
 obtain ⟨c7, hc7⟩ : ∃ z, (c == 7) = z := ⟨_, rfl⟩
 obtain ⟨c5, hc5⟩ : ∃ z, (c == 5) = z := ⟨_, rfl⟩
 obtain ⟨c6, hc6⟩ : ∃ z, (c == 6) = z := ⟨_, rfl⟩
 obtain ⟨c0, hc0⟩ : ∃ z, (c == 0) = z := ⟨_, rfl⟩
 obtain ⟨o1, ho1⟩ : ∃ o, wideS x = o := ⟨_, rfl⟩
 obtain ⟨o2, ho2⟩ : ∃ o, swapsS x = o := ⟨_, rfl⟩
 obtain ⟨o3, ho3⟩ : ∃ o, arithS x (x.op / 16 * 16) (x.op % 8 == 7) (x.op / 8 % 2 == 1) = o := ⟨_, rfl⟩
 obtain ⟨o4, ho4⟩ : ∃ o, jumpsS x = o := ⟨_, rfl⟩
 obtain ⟨o5, ho5⟩ : ∃ o, movesS x = o := ⟨_, rfl⟩
 rw [ho1, ho2, ho3, ho4, ho5]
 have b1 : (10 < x.dst) = (zd = true) := by rw [← hzd]; simp
 have b2 : (10 < x.src) = (zs = true) := by rw [← hzs]; simp
 have b3 : (x.op = 24) = (k = true) := by rw [← hk]; simp
 have b4 : (x.op = 212) = (l = true) := by rw [← hl]; simp
 have b5 : (x.op = 220) = (b = true) := by rw [← hb]; simp
 have b6 : (x.op = 215) = (t = true) := by rw [← ht]; simp
 have b7 : (c = 4) = (c4 = true) := by rw [← hc4]; simp
 have b8 : (c = 7) = (c7 = true) := by rw [← hc7]; simp
 have b9 : (c = 5) = (c5 = true) := by rw [← hc5]; simp
 have b10 : (c = 6) = (c6 = true) := by rw [← hc6]; simp
 have b11 : (c = 0) = (c0 = true) := by rw [← hc0]; simp
 simp only [hc, b1, b2, b3, b4, b5, b6, b7, b8, b9, b10, b11]
 obtain ⟨R, hR⟩ : ∃ R, R = (if zd = true ∨ zs = true then none else if k = true then o1 else if l = true ∨ b = true ∨ t = true then o2 else if c4 = true ∨ c7 = true then o3 else if c5 = true ∨ c6 = true then o4 else if c0 = true then none else o5) := ⟨_, rfl⟩
 rw [← hR]
 have HR := η hR
 have H1 := η ho1
 have H2 := η ho2
 have H3 := η ho3
 have H4 := η ho4
 have H5 := η ho5
 have HC := η hc
 clear hR b1 b2 b3 b4 b5 b6 b7 b8 b9 b10 b11 ho1 ho2 ho3 ho4 ho5 hc
 go_enter Tryz.func75, Tryz.ntmps75
 go_upto_region 1 with fail
 go_cut [4] (fun v wx => v = .bool (zd || zs) ∧ Hid (Ext w wx ∧ wx.heap[w.heap.size]? = some (insObj x) ∧ wx.heap[w.heap.size + 1]? = some (whObj Wh.zero)))
 case first =>
  cases zd
  all_goals
   go_wp2_with fail
   go_meet
   refine ⟨by simp, η ⟨by (repeat (first|exact xE0 _|assumption|refine xE1 ?_ _|refine xE2 ?_|refine xE3 ?_ _|refine xE4 ?_ (by assumption))), ?_, ?_⟩⟩
   ·(repeat (first | (refine obj_top _ _ ?_; simp; done) | refine obj_old _ ?_))
   ·(repeat (first | (refine obj_top _ _ ?_; simp; done) | refine obj_old _ ?_))
 case rest =>
  obtain ⟨rfl, HW⟩ := hcut
  have HO1 := η HW.out.2.1
  have HO2 := η HW.out.2.2
  have HE := η HW.out.1
  have HO3 := HO2
  clear HW
  have HZ : Hid (((zd || zs) = true) = (zd = true ∨ zs = true)) := η (by simp)
  generalize (zd || zs) = zz at *
  cases zz with
  | true =>
   have HSF := η (set6 HO2.out HE.out (Nat.le_succ _) 0 0 false false false 0)
   (have o1 := HO1.out; have o2 := HO2.out; have o3 := HO3.out; have a0 := cO (i := 0) o1; have a1 := cO (i := 1) o1; have a2 := cO (i := 2) o1; have a3 := cO (i := 3) o1; have a4 := cO (i := 4) o1; have b0 := cO (i := 0) o2; have b1 := cO (i := 1) o2; have b2 := cO (i := 2) o2; have b3 := cO (i := 3) o2; have b4 := cO (i := 4) o2; have b5 := cO (i := 5) o2; have bf := fun i => frozen_obj (i := i) o2; have q0 := cO (i := 0) o3; have q1 := cO (i := 1) o3; have q2 := cO (i := 2) o3; have q3 := cO (i := 3) o3; have q4 := cO (i := 4) o3; have q5 := cO (i := 5) o3; simp only [gA, gB, gC] at a0 a1 a2 a3 a4 b0 b1 b2 b3 b4 b5 q0 q1 q2 q3 q4 q5; clear o1 o2 o3)
   go_wp2_with fail
   all_goals
    (have hsf := HSF.out; generalize hF : (World.setCell (World.setCell (World.setCell (World.setCell (World.setCell (World.setCell wc ⟨w.heap.size + 1, 0, none⟩ (.int .u8 0)) ⟨w.heap.size + 1, 1, none⟩ (.int .u8 0)) ⟨w.heap.size + 1, 2, none⟩ (.bool false)) ⟨w.heap.size + 1, 3, none⟩ (.bool false)) ⟨w.heap.size + 1, 4, none⟩ (.bool false)) ⟨w.heap.size + 1, 5, none⟩ (.int .i64 0)) = wF at hsf ⊢; obtain ⟨hs, he⟩ := hsf; clear hF; (try simp only [Exit.then]); (repeat (first | go_skip | go_step)); have r0 := cO (i := 0) hs; have r1 := cO (i := 1) hs; have r2 := cO (i := 2) hs; have r3 := cO (i := 3) hs; have r4 := cO (i := 4) hs; have r5 := cO (i := 5) hs; simp only [gA, gB, gC] at r0 r1 r2 r3 r4 r5; refine bodyPost_ret (by simp [results, Tryz.results75, go_sem, r0, r1, r2, r3, r4, r5]; try rfl) rfl ?_)
    exact ⟨Wh.zero, false, rfl, by rw [HR.out]; simp [*, ← HZ.out], by (repeat (first|exact xE0 _|assumption|refine xE1 ?_ _|refine xE2 ?_|refine xE3 ?_ _|refine xE4 ?_ (by assumption)))⟩
  | false =>
   cases k with
   | true =>
    (have o1 := HO1.out; have o2 := HO2.out; have o3 := HO3.out; have a0 := cO (i := 0) o1; have a1 := cO (i := 1) o1; have a2 := cO (i := 2) o1; have a3 := cO (i := 3) o1; have a4 := cO (i := 4) o1; have b0 := cO (i := 0) o2; have b1 := cO (i := 1) o2; have b2 := cO (i := 2) o2; have b3 := cO (i := 3) o2; have b4 := cO (i := 4) o2; have b5 := cO (i := 5) o2; have bf := fun i => frozen_obj (i := i) o2; have q0 := cO (i := 0) o3; have q1 := cO (i := 1) o3; have q2 := cO (i := 2) o3; have q3 := cO (i := 3) o3; have q4 := cO (i := 4) o3; have q5 := cO (i := 5) o3; simp only [gA, gB, gC] at a0 a1 a2 a3 a4 b0 b1 b2 b3 b4 b5 q0 q1 q2 q3 q4 q5; clear o1 o2 o3)
    go_wp2_with fail
    refine (p_wide x _).mono ?_
    rintro e w5 ⟨y, bb, rfl, hy, hE⟩
    have HY := η hy
    have HE5 := η (HE.out.trans' hE)
    have O5 := η (hE.obj HO2.out)
    have HSF := η (set6 O5.out HE5.out (Nat.le_succ _) y.kind y.op y.wide y.reg y.signed y.size)
    clear a0 a1 a2 a3 a4 b0 b1 b2 b3 b4 b5 bf q0 q1 q2 q3 q4 q5 hy hE
    have b0 := cO (i := 0) O5.out
    have b1 := cO (i := 1) O5.out
    have b2 := cO (i := 2) O5.out
    have b3 := cO (i := 3) O5.out
    have b4 := cO (i := 4) O5.out
    have b5 := cO (i := 5) O5.out
    have bf := fun i => frozen_obj (i := i) O5.out
    simp only [gA, gB, gC] at b0 b1 b2 b3 b4 b5
    go_wp2_with fail
    all_goals
     (have hsf := HSF.out; generalize hF : (World.setCell (World.setCell (World.setCell (World.setCell (World.setCell (World.setCell w5 ⟨w.heap.size + 1, 0, none⟩ (.int .u8 y.kind)) ⟨w.heap.size + 1, 1, none⟩ (.int .u8 y.op)) ⟨w.heap.size + 1, 2, none⟩ (.bool y.wide)) ⟨w.heap.size + 1, 3, none⟩ (.bool y.reg)) ⟨w.heap.size + 1, 4, none⟩ (.bool y.signed)) ⟨w.heap.size + 1, 5, none⟩ (.int .i64 y.size)) = wF at hsf ⊢; obtain ⟨hs, he⟩ := hsf; clear hF; (try simp only [Exit.then]); (repeat (first | go_skip | go_step)); have r0 := cO (i := 0) hs; have r1 := cO (i := 1) hs; have r2 := cO (i := 2) hs; have r3 := cO (i := 3) hs; have r4 := cO (i := 4) hs; have r5 := cO (i := 5) hs; simp only [gA, gB, gC] at r0 r1 r2 r3 r4 r5; refine bodyPost_ret (by simp [results, Tryz.results75, go_sem, r0, r1, r2, r3, r4, r5]; try rfl) rfl ?_)
     exact ⟨y, bb, rfl, by rw [HR.out, ← HY.out, H1.out]; simp [*, ← HZ.out], by (repeat (first|exact xE0 _|assumption|refine xE1 ?_ _|refine xE2 ?_|refine xE3 ?_ _|refine xE4 ?_ (by assumption)))⟩
   | false =>
    cases l with
    | true =>
     (have o1 := HO1.out; have o2 := HO2.out; have o3 := HO3.out; have a0 := cO (i := 0) o1; have a1 := cO (i := 1) o1; have a2 := cO (i := 2) o1; have a3 := cO (i := 3) o1; have a4 := cO (i := 4) o1; have b0 := cO (i := 0) o2; have b1 := cO (i := 1) o2; have b2 := cO (i := 2) o2; have b3 := cO (i := 3) o2; have b4 := cO (i := 4) o2; have b5 := cO (i := 5) o2; have bf := fun i => frozen_obj (i := i) o2; have q0 := cO (i := 0) o3; have q1 := cO (i := 1) o3; have q2 := cO (i := 2) o3; have q3 := cO (i := 3) o3; have q4 := cO (i := 4) o3; have q5 := cO (i := 5) o3; simp only [gA, gB, gC] at a0 a1 a2 a3 a4 b0 b1 b2 b3 b4 b5 q0 q1 q2 q3 q4 q5; clear o1 o2 o3)
     go_wp2_with fail
     refine (p_swaps x _ HXX.out).mono ?_
     rintro e w5 ⟨y, bb, rfl, hy, hE⟩
     have HY := η hy
     have HE5 := η (HE.out.trans' hE)
     have O5 := η (hE.obj HO2.out)
     have HSF := η (set6 O5.out HE5.out (Nat.le_succ _) y.kind y.op y.wide y.reg y.signed y.size)
     clear a0 a1 a2 a3 a4 b0 b1 b2 b3 b4 b5 bf q0 q1 q2 q3 q4 q5 hy hE
     have b0 := cO (i := 0) O5.out
     have b1 := cO (i := 1) O5.out
     have b2 := cO (i := 2) O5.out
     have b3 := cO (i := 3) O5.out
     have b4 := cO (i := 4) O5.out
     have b5 := cO (i := 5) O5.out
     have bf := fun i => frozen_obj (i := i) O5.out
     simp only [gA, gB, gC] at b0 b1 b2 b3 b4 b5
     go_wp2_with fail
     all_goals
      (have hsf := HSF.out; generalize hF : (World.setCell (World.setCell (World.setCell (World.setCell (World.setCell (World.setCell w5 ⟨w.heap.size + 1, 0, none⟩ (.int .u8 y.kind)) ⟨w.heap.size + 1, 1, none⟩ (.int .u8 y.op)) ⟨w.heap.size + 1, 2, none⟩ (.bool y.wide)) ⟨w.heap.size + 1, 3, none⟩ (.bool y.reg)) ⟨w.heap.size + 1, 4, none⟩ (.bool y.signed)) ⟨w.heap.size + 1, 5, none⟩ (.int .i64 y.size)) = wF at hsf ⊢; obtain ⟨hs, he⟩ := hsf; clear hF; (try simp only [Exit.then]); (repeat (first | go_skip | go_step)); have r0 := cO (i := 0) hs; have r1 := cO (i := 1) hs; have r2 := cO (i := 2) hs; have r3 := cO (i := 3) hs; have r4 := cO (i := 4) hs; have r5 := cO (i := 5) hs; simp only [gA, gB, gC] at r0 r1 r2 r3 r4 r5; refine bodyPost_ret (by simp [results, Tryz.results75, go_sem, r0, r1, r2, r3, r4, r5]; try rfl) rfl ?_)
      exact ⟨y, bb, rfl, by rw [HR.out, ← HY.out, H2.out]; simp [*, ← HZ.out], by (repeat (first|exact xE0 _|assumption|refine xE1 ?_ _|refine xE2 ?_|refine xE3 ?_ _|refine xE4 ?_ (by assumption)))⟩
    | false =>
     cases b with
     | true =>
      (have o1 := HO1.out; have o2 := HO2.out; have o3 := HO3.out; have a0 := cO (i := 0) o1; have a1 := cO (i := 1) o1; have a2 := cO (i := 2) o1; have a3 := cO (i := 3) o1; have a4 := cO (i := 4) o1; have b0 := cO (i := 0) o2; have b1 := cO (i := 1) o2; have b2 := cO (i := 2) o2; have b3 := cO (i := 3) o2; have b4 := cO (i := 4) o2; have b5 := cO (i := 5) o2; have bf := fun i => frozen_obj (i := i) o2; have q0 := cO (i := 0) o3; have q1 := cO (i := 1) o3; have q2 := cO (i := 2) o3; have q3 := cO (i := 3) o3; have q4 := cO (i := 4) o3; have q5 := cO (i := 5) o3; simp only [gA, gB, gC] at a0 a1 a2 a3 a4 b0 b1 b2 b3 b4 b5 q0 q1 q2 q3 q4 q5; clear o1 o2 o3)
      go_wp2_with fail
      refine (p_swaps x _ HXX.out).mono ?_
      rintro e w5 ⟨y, bb, rfl, hy, hE⟩
      have HY := η hy
      have HE5 := η (HE.out.trans' hE)
      have O5 := η (hE.obj HO2.out)
      have HSF := η (set6 O5.out HE5.out (Nat.le_succ _) y.kind y.op y.wide y.reg y.signed y.size)
      clear a0 a1 a2 a3 a4 b0 b1 b2 b3 b4 b5 bf q0 q1 q2 q3 q4 q5 hy hE
      have b0 := cO (i := 0) O5.out
      have b1 := cO (i := 1) O5.out
      have b2 := cO (i := 2) O5.out
      have b3 := cO (i := 3) O5.out
      have b4 := cO (i := 4) O5.out
      have b5 := cO (i := 5) O5.out
      have bf := fun i => frozen_obj (i := i) O5.out
      simp only [gA, gB, gC] at b0 b1 b2 b3 b4 b5
      go_wp2_with fail
      all_goals
       (have hsf := HSF.out; generalize hF : (World.setCell (World.setCell (World.setCell (World.setCell (World.setCell (World.setCell w5 ⟨w.heap.size + 1, 0, none⟩ (.int .u8 y.kind)) ⟨w.heap.size + 1, 1, none⟩ (.int .u8 y.op)) ⟨w.heap.size + 1, 2, none⟩ (.bool y.wide)) ⟨w.heap.size + 1, 3, none⟩ (.bool y.reg)) ⟨w.heap.size + 1, 4, none⟩ (.bool y.signed)) ⟨w.heap.size + 1, 5, none⟩ (.int .i64 y.size)) = wF at hsf ⊢; obtain ⟨hs, he⟩ := hsf; clear hF; (try simp only [Exit.then]); (repeat (first | go_skip | go_step)); have r0 := cO (i := 0) hs; have r1 := cO (i := 1) hs; have r2 := cO (i := 2) hs; have r3 := cO (i := 3) hs; have r4 := cO (i := 4) hs; have r5 := cO (i := 5) hs; simp only [gA, gB, gC] at r0 r1 r2 r3 r4 r5; refine bodyPost_ret (by simp [results, Tryz.results75, go_sem, r0, r1, r2, r3, r4, r5]; try rfl) rfl ?_)
       exact ⟨y, bb, rfl, by rw [HR.out, ← HY.out, H2.out]; simp [*, ← HZ.out], by (repeat (first|exact xE0 _|assumption|refine xE1 ?_ _|refine xE2 ?_|refine xE3 ?_ _|refine xE4 ?_ (by assumption)))⟩
     | false =>
      cases t with
      | true =>
       (have o1 := HO1.out; have o2 := HO2.out; have o3 := HO3.out; have a0 := cO (i := 0) o1; have a1 := cO (i := 1) o1; have a2 := cO (i := 2) o1; have a3 := cO (i := 3) o1; have a4 := cO (i := 4) o1; have b0 := cO (i := 0) o2; have b1 := cO (i := 1) o2; have b2 := cO (i := 2) o2; have b3 := cO (i := 3) o2; have b4 := cO (i := 4) o2; have b5 := cO (i := 5) o2; have bf := fun i => frozen_obj (i := i) o2; have q0 := cO (i := 0) o3; have q1 := cO (i := 1) o3; have q2 := cO (i := 2) o3; have q3 := cO (i := 3) o3; have q4 := cO (i := 4) o3; have q5 := cO (i := 5) o3; simp only [gA, gB, gC] at a0 a1 a2 a3 a4 b0 b1 b2 b3 b4 b5 q0 q1 q2 q3 q4 q5; clear o1 o2 o3)
       go_wp2_with fail
       refine (p_swaps x _ HXX.out).mono ?_
       rintro e w5 ⟨y, bb, rfl, hy, hE⟩
       have HY := η hy
       have HE5 := η (HE.out.trans' hE)
       have O5 := η (hE.obj HO2.out)
       have HSF := η (set6 O5.out HE5.out (Nat.le_succ _) y.kind y.op y.wide y.reg y.signed y.size)
       clear a0 a1 a2 a3 a4 b0 b1 b2 b3 b4 b5 bf q0 q1 q2 q3 q4 q5 hy hE
       have b0 := cO (i := 0) O5.out
       have b1 := cO (i := 1) O5.out
       have b2 := cO (i := 2) O5.out
       have b3 := cO (i := 3) O5.out
       have b4 := cO (i := 4) O5.out
       have b5 := cO (i := 5) O5.out
       have bf := fun i => frozen_obj (i := i) O5.out
       simp only [gA, gB, gC] at b0 b1 b2 b3 b4 b5
       go_wp2_with fail
       all_goals
        (have hsf := HSF.out; generalize hF : (World.setCell (World.setCell (World.setCell (World.setCell (World.setCell (World.setCell w5 ⟨w.heap.size + 1, 0, none⟩ (.int .u8 y.kind)) ⟨w.heap.size + 1, 1, none⟩ (.int .u8 y.op)) ⟨w.heap.size + 1, 2, none⟩ (.bool y.wide)) ⟨w.heap.size + 1, 3, none⟩ (.bool y.reg)) ⟨w.heap.size + 1, 4, none⟩ (.bool y.signed)) ⟨w.heap.size + 1, 5, none⟩ (.int .i64 y.size)) = wF at hsf ⊢; obtain ⟨hs, he⟩ := hsf; clear hF; (try simp only [Exit.then]); (repeat (first | go_skip | go_step)); have r0 := cO (i := 0) hs; have r1 := cO (i := 1) hs; have r2 := cO (i := 2) hs; have r3 := cO (i := 3) hs; have r4 := cO (i := 4) hs; have r5 := cO (i := 5) hs; simp only [gA, gB, gC] at r0 r1 r2 r3 r4 r5; refine bodyPost_ret (by simp [results, Tryz.results75, go_sem, r0, r1, r2, r3, r4, r5]; try rfl) rfl ?_)
        exact ⟨y, bb, rfl, by rw [HR.out, ← HY.out, H2.out]; simp [*, ← HZ.out], by (repeat (first|exact xE0 _|assumption|refine xE1 ?_ _|refine xE2 ?_|refine xE3 ?_ _|refine xE4 ?_ (by assumption)))⟩
      | false =>
       (have o1 := HO1.out; have a0 := cO (i := 0) o1; have a1 := cO (i := 1) o1; have a2 := cO (i := 2) o1; have a3 := cO (i := 3) o1; have a4 := cO (i := 4) o1; simp only [gA, gB, gC] at a0 a1 a2 a3 a4; clear o1)
       go_upto_region 7 with fail
       go_cut [41] (fun v wx => v = .int .u8 c ∧ Hid (Ext wc wx))
       case first =>
        go_wp2_with fail
        refine (p_class x _ HOP.out).mono ?_
        rw [HC.out]
        rintro e w5 ⟨rfl, rfl⟩
        go_wp2_with fail
        go_meet
        exact ⟨rfl, η (by (repeat (first|exact xE0 _|assumption|refine xE1 ?_ _|refine xE2 ?_|refine xE3 ?_ _|refine xE4 ?_ (by assumption))))⟩
       case rest =>
        obtain ⟨rfl, HX⟩ := hcut
        replace HO1 := η (HX.out.obj HO1.out)
        replace HO2 := η (HX.out.obj HO2.out)
        replace HO3 := HO2
        replace HE := η (HE.out.trans' HX.out)
        clear HX a0 a1 a2 a3 a4
        cases c4 with
        | true =>
         (have o1 := HO1.out; have o2 := HO2.out; have o3 := HO3.out; have a0 := cO (i := 0) o1; have a1 := cO (i := 1) o1; have a2 := cO (i := 2) o1; have a3 := cO (i := 3) o1; have a4 := cO (i := 4) o1; have b0 := cO (i := 0) o2; have b1 := cO (i := 1) o2; have b2 := cO (i := 2) o2; have b3 := cO (i := 3) o2; have b4 := cO (i := 4) o2; have b5 := cO (i := 5) o2; have bf := fun i => frozen_obj (i := i) o2; have q0 := cO (i := 0) o3; have q1 := cO (i := 1) o3; have q2 := cO (i := 2) o3; have q3 := cO (i := 3) o3; have q4 := cO (i := 4) o3; have q5 := cO (i := 5) o3; simp only [gA, gB, gC] at a0 a1 a2 a3 a4 b0 b1 b2 b3 b4 b5 q0 q1 q2 q3 q4 q5; clear o1 o2 o3)
         go_wp2_with fail
         refine (p_arith x _ HXX.out).mono ?_
         rintro e w5 ⟨y, bb, rfl, hy, hE⟩
         have HY := η hy
         have HE5 := η (HE.out.trans' hE)
         have O5 := η (hE.obj HO2.out)
         have HSF := η (set6 O5.out HE5.out (Nat.le_succ _) y.kind y.op y.wide y.reg y.signed y.size)
         clear a0 a1 a2 a3 a4 b0 b1 b2 b3 b4 b5 bf q0 q1 q2 q3 q4 q5 hy hE
         have b0 := cO (i := 0) O5.out
         have b1 := cO (i := 1) O5.out
         have b2 := cO (i := 2) O5.out
         have b3 := cO (i := 3) O5.out
         have b4 := cO (i := 4) O5.out
         have b5 := cO (i := 5) O5.out
         have bf := fun i => frozen_obj (i := i) O5.out
         simp only [gA, gB, gC] at b0 b1 b2 b3 b4 b5
         go_wp2_with fail
         all_goals
          (have hsf := HSF.out; generalize hF : (World.setCell (World.setCell (World.setCell (World.setCell (World.setCell (World.setCell w5 ⟨w.heap.size + 1, 0, none⟩ (.int .u8 y.kind)) ⟨w.heap.size + 1, 1, none⟩ (.int .u8 y.op)) ⟨w.heap.size + 1, 2, none⟩ (.bool y.wide)) ⟨w.heap.size + 1, 3, none⟩ (.bool y.reg)) ⟨w.heap.size + 1, 4, none⟩ (.bool y.signed)) ⟨w.heap.size + 1, 5, none⟩ (.int .i64 y.size)) = wF at hsf ⊢; obtain ⟨hs, he⟩ := hsf; clear hF; (try simp only [Exit.then]); (repeat (first | go_skip | go_step)); have r0 := cO (i := 0) hs; have r1 := cO (i := 1) hs; have r2 := cO (i := 2) hs; have r3 := cO (i := 3) hs; have r4 := cO (i := 4) hs; have r5 := cO (i := 5) hs; simp only [gA, gB, gC] at r0 r1 r2 r3 r4 r5; refine bodyPost_ret (by simp [results, Tryz.results75, go_sem, r0, r1, r2, r3, r4, r5]; try rfl) rfl ?_)
          exact ⟨y, bb, rfl, by rw [HR.out, ← HY.out, H3.out]; simp [*, ← HZ.out], by (repeat (first|exact xE0 _|assumption|refine xE1 ?_ _|refine xE2 ?_|refine xE3 ?_ _|refine xE4 ?_ (by assumption)))⟩
        | false =>
         cases c7 with
         | true =>
          (have o1 := HO1.out; have o2 := HO2.out; have o3 := HO3.out; have a0 := cO (i := 0) o1; have a1 := cO (i := 1) o1; have a2 := cO (i := 2) o1; have a3 := cO (i := 3) o1; have a4 := cO (i := 4) o1; have b0 := cO (i := 0) o2; have b1 := cO (i := 1) o2; have b2 := cO (i := 2) o2; have b3 := cO (i := 3) o2; have b4 := cO (i := 4) o2; have b5 := cO (i := 5) o2; have bf := fun i => frozen_obj (i := i) o2; have q0 := cO (i := 0) o3; have q1 := cO (i := 1) o3; have q2 := cO (i := 2) o3; have q3 := cO (i := 3) o3; have q4 := cO (i := 4) o3; have q5 := cO (i := 5) o3; simp only [gA, gB, gC] at a0 a1 a2 a3 a4 b0 b1 b2 b3 b4 b5 q0 q1 q2 q3 q4 q5; clear o1 o2 o3)
          go_wp2_with fail
          refine (p_arith x _ HXX.out).mono ?_
          rintro e w5 ⟨y, bb, rfl, hy, hE⟩
          have HY := η hy
          have HE5 := η (HE.out.trans' hE)
          have O5 := η (hE.obj HO2.out)
          have HSF := η (set6 O5.out HE5.out (Nat.le_succ _) y.kind y.op y.wide y.reg y.signed y.size)
          clear a0 a1 a2 a3 a4 b0 b1 b2 b3 b4 b5 bf q0 q1 q2 q3 q4 q5 hy hE
          have b0 := cO (i := 0) O5.out
          have b1 := cO (i := 1) O5.out
          have b2 := cO (i := 2) O5.out
          have b3 := cO (i := 3) O5.out
          have b4 := cO (i := 4) O5.out
          have b5 := cO (i := 5) O5.out
          have bf := fun i => frozen_obj (i := i) O5.out
          simp only [gA, gB, gC] at b0 b1 b2 b3 b4 b5
          go_wp2_with fail
          all_goals
           (have hsf := HSF.out; generalize hF : (World.setCell (World.setCell (World.setCell (World.setCell (World.setCell (World.setCell w5 ⟨w.heap.size + 1, 0, none⟩ (.int .u8 y.kind)) ⟨w.heap.size + 1, 1, none⟩ (.int .u8 y.op)) ⟨w.heap.size + 1, 2, none⟩ (.bool y.wide)) ⟨w.heap.size + 1, 3, none⟩ (.bool y.reg)) ⟨w.heap.size + 1, 4, none⟩ (.bool y.signed)) ⟨w.heap.size + 1, 5, none⟩ (.int .i64 y.size)) = wF at hsf ⊢; obtain ⟨hs, he⟩ := hsf; clear hF; (try simp only [Exit.then]); (repeat (first | go_skip | go_step)); have r0 := cO (i := 0) hs; have r1 := cO (i := 1) hs; have r2 := cO (i := 2) hs; have r3 := cO (i := 3) hs; have r4 := cO (i := 4) hs; have r5 := cO (i := 5) hs; simp only [gA, gB, gC] at r0 r1 r2 r3 r4 r5; refine bodyPost_ret (by simp [results, Tryz.results75, go_sem, r0, r1, r2, r3, r4, r5]; try rfl) rfl ?_)
           exact ⟨y, bb, rfl, by rw [HR.out, ← HY.out, H3.out]; simp [*, ← HZ.out], by (repeat (first|exact xE0 _|assumption|refine xE1 ?_ _|refine xE2 ?_|refine xE3 ?_ _|refine xE4 ?_ (by assumption)))⟩
         | false =>
          cases c5 with
          | true =>
           (have o1 := HO1.out; have o2 := HO2.out; have o3 := HO3.out; have a0 := cO (i := 0) o1; have a1 := cO (i := 1) o1; have a2 := cO (i := 2) o1; have a3 := cO (i := 3) o1; have a4 := cO (i := 4) o1; have b0 := cO (i := 0) o2; have b1 := cO (i := 1) o2; have b2 := cO (i := 2) o2; have b3 := cO (i := 3) o2; have b4 := cO (i := 4) o2; have b5 := cO (i := 5) o2; have bf := fun i => frozen_obj (i := i) o2; have q0 := cO (i := 0) o3; have q1 := cO (i := 1) o3; have q2 := cO (i := 2) o3; have q3 := cO (i := 3) o3; have q4 := cO (i := 4) o3; have q5 := cO (i := 5) o3; simp only [gA, gB, gC] at a0 a1 a2 a3 a4 b0 b1 b2 b3 b4 b5 q0 q1 q2 q3 q4 q5; clear o1 o2 o3)
           go_wp2_with fail
           refine (p_jumps x _ HXX.out).mono ?_
           rintro e w5 ⟨y, bb, rfl, hy, hE⟩
           have HY := η hy
           have HE5 := η (HE.out.trans' hE)
           have O5 := η (hE.obj HO2.out)
           have HSF := η (set6 O5.out HE5.out (Nat.le_succ _) y.kind y.op y.wide y.reg y.signed y.size)
           clear a0 a1 a2 a3 a4 b0 b1 b2 b3 b4 b5 bf q0 q1 q2 q3 q4 q5 hy hE
           have b0 := cO (i := 0) O5.out
           have b1 := cO (i := 1) O5.out
           have b2 := cO (i := 2) O5.out
           have b3 := cO (i := 3) O5.out
           have b4 := cO (i := 4) O5.out
           have b5 := cO (i := 5) O5.out
           have bf := fun i => frozen_obj (i := i) O5.out
           simp only [gA, gB, gC] at b0 b1 b2 b3 b4 b5
           go_wp2_with fail
           all_goals
            (have hsf := HSF.out; generalize hF : (World.setCell (World.setCell (World.setCell (World.setCell (World.setCell (World.setCell w5 ⟨w.heap.size + 1, 0, none⟩ (.int .u8 y.kind)) ⟨w.heap.size + 1, 1, none⟩ (.int .u8 y.op)) ⟨w.heap.size + 1, 2, none⟩ (.bool y.wide)) ⟨w.heap.size + 1, 3, none⟩ (.bool y.reg)) ⟨w.heap.size + 1, 4, none⟩ (.bool y.signed)) ⟨w.heap.size + 1, 5, none⟩ (.int .i64 y.size)) = wF at hsf ⊢; obtain ⟨hs, he⟩ := hsf; clear hF; (try simp only [Exit.then]); (repeat (first | go_skip | go_step)); have r0 := cO (i := 0) hs; have r1 := cO (i := 1) hs; have r2 := cO (i := 2) hs; have r3 := cO (i := 3) hs; have r4 := cO (i := 4) hs; have r5 := cO (i := 5) hs; simp only [gA, gB, gC] at r0 r1 r2 r3 r4 r5; refine bodyPost_ret (by simp [results, Tryz.results75, go_sem, r0, r1, r2, r3, r4, r5]; try rfl) rfl ?_)
            exact ⟨y, bb, rfl, by rw [HR.out, ← HY.out, H4.out]; simp [*, ← HZ.out], by (repeat (first|exact xE0 _|assumption|refine xE1 ?_ _|refine xE2 ?_|refine xE3 ?_ _|refine xE4 ?_ (by assumption)))⟩
          | false =>
           cases c6 with
           | true =>
            (have o1 := HO1.out; have o2 := HO2.out; have o3 := HO3.out; have a0 := cO (i := 0) o1; have a1 := cO (i := 1) o1; have a2 := cO (i := 2) o1; have a3 := cO (i := 3) o1; have a4 := cO (i := 4) o1; have b0 := cO (i := 0) o2; have b1 := cO (i := 1) o2; have b2 := cO (i := 2) o2; have b3 := cO (i := 3) o2; have b4 := cO (i := 4) o2; have b5 := cO (i := 5) o2; have bf := fun i => frozen_obj (i := i) o2; have q0 := cO (i := 0) o3; have q1 := cO (i := 1) o3; have q2 := cO (i := 2) o3; have q3 := cO (i := 3) o3; have q4 := cO (i := 4) o3; have q5 := cO (i := 5) o3; simp only [gA, gB, gC] at a0 a1 a2 a3 a4 b0 b1 b2 b3 b4 b5 q0 q1 q2 q3 q4 q5; clear o1 o2 o3)
            go_wp2_with fail
            refine (p_jumps x _ HXX.out).mono ?_
            rintro e w5 ⟨y, bb, rfl, hy, hE⟩
            have HY := η hy
            have HE5 := η (HE.out.trans' hE)
            have O5 := η (hE.obj HO2.out)
            have HSF := η (set6 O5.out HE5.out (Nat.le_succ _) y.kind y.op y.wide y.reg y.signed y.size)
            clear a0 a1 a2 a3 a4 b0 b1 b2 b3 b4 b5 bf q0 q1 q2 q3 q4 q5 hy hE
            have b0 := cO (i := 0) O5.out
            have b1 := cO (i := 1) O5.out
            have b2 := cO (i := 2) O5.out
            have b3 := cO (i := 3) O5.out
            have b4 := cO (i := 4) O5.out
            have b5 := cO (i := 5) O5.out
            have bf := fun i => frozen_obj (i := i) O5.out
            simp only [gA, gB, gC] at b0 b1 b2 b3 b4 b5
            go_wp2_with fail
            all_goals
             (have hsf := HSF.out; generalize hF : (World.setCell (World.setCell (World.setCell (World.setCell (World.setCell (World.setCell w5 ⟨w.heap.size + 1, 0, none⟩ (.int .u8 y.kind)) ⟨w.heap.size + 1, 1, none⟩ (.int .u8 y.op)) ⟨w.heap.size + 1, 2, none⟩ (.bool y.wide)) ⟨w.heap.size + 1, 3, none⟩ (.bool y.reg)) ⟨w.heap.size + 1, 4, none⟩ (.bool y.signed)) ⟨w.heap.size + 1, 5, none⟩ (.int .i64 y.size)) = wF at hsf ⊢; obtain ⟨hs, he⟩ := hsf; clear hF; (try simp only [Exit.then]); (repeat (first | go_skip | go_step)); have r0 := cO (i := 0) hs; have r1 := cO (i := 1) hs; have r2 := cO (i := 2) hs; have r3 := cO (i := 3) hs; have r4 := cO (i := 4) hs; have r5 := cO (i := 5) hs; simp only [gA, gB, gC] at r0 r1 r2 r3 r4 r5; refine bodyPost_ret (by simp [results, Tryz.results75, go_sem, r0, r1, r2, r3, r4, r5]; try rfl) rfl ?_)
             exact ⟨y, bb, rfl, by rw [HR.out, ← HY.out, H4.out]; simp [*, ← HZ.out], by (repeat (first|exact xE0 _|assumption|refine xE1 ?_ _|refine xE2 ?_|refine xE3 ?_ _|refine xE4 ?_ (by assumption)))⟩
           | false =>
            cases c0 with
            | true =>
             have HSF := η (set6 HO2.out HE.out (Nat.le_succ _) 0 0 false false false 0)
             (have o1 := HO1.out; have o2 := HO2.out; have o3 := HO3.out; have a0 := cO (i := 0) o1; have a1 := cO (i := 1) o1; have a2 := cO (i := 2) o1; have a3 := cO (i := 3) o1; have a4 := cO (i := 4) o1; have b0 := cO (i := 0) o2; have b1 := cO (i := 1) o2; have b2 := cO (i := 2) o2; have b3 := cO (i := 3) o2; have b4 := cO (i := 4) o2; have b5 := cO (i := 5) o2; have bf := fun i => frozen_obj (i := i) o2; have q0 := cO (i := 0) o3; have q1 := cO (i := 1) o3; have q2 := cO (i := 2) o3; have q3 := cO (i := 3) o3; have q4 := cO (i := 4) o3; have q5 := cO (i := 5) o3; simp only [gA, gB, gC] at a0 a1 a2 a3 a4 b0 b1 b2 b3 b4 b5 q0 q1 q2 q3 q4 q5; clear o1 o2 o3)
             go_wp2_with fail
             all_goals
              (have hsf := HSF.out; generalize hF : (World.setCell (World.setCell (World.setCell (World.setCell (World.setCell (World.setCell wc ⟨w.heap.size + 1, 0, none⟩ (.int .u8 0)) ⟨w.heap.size + 1, 1, none⟩ (.int .u8 0)) ⟨w.heap.size + 1, 2, none⟩ (.bool false)) ⟨w.heap.size + 1, 3, none⟩ (.bool false)) ⟨w.heap.size + 1, 4, none⟩ (.bool false)) ⟨w.heap.size + 1, 5, none⟩ (.int .i64 0)) = wF at hsf ⊢; obtain ⟨hs, he⟩ := hsf; clear hF; (try simp only [Exit.then]); (repeat (first | go_skip | go_step)); have r0 := cO (i := 0) hs; have r1 := cO (i := 1) hs; have r2 := cO (i := 2) hs; have r3 := cO (i := 3) hs; have r4 := cO (i := 4) hs; have r5 := cO (i := 5) hs; simp only [gA, gB, gC] at r0 r1 r2 r3 r4 r5; refine bodyPost_ret (by simp [results, Tryz.results75, go_sem, r0, r1, r2, r3, r4, r5]; try rfl) rfl ?_)
              exact ⟨Wh.zero, false, rfl, by rw [HR.out]; simp [*, ← HZ.out], by (repeat (first|exact xE0 _|assumption|refine xE1 ?_ _|refine xE2 ?_|refine xE3 ?_ _|refine xE4 ?_ (by assumption)))⟩
            | false =>
             (have o1 := HO1.out; have o2 := HO2.out; have o3 := HO3.out; have a0 := cO (i := 0) o1; have a1 := cO (i := 1) o1; have a2 := cO (i := 2) o1; have a3 := cO (i := 3) o1; have a4 := cO (i := 4) o1; have b0 := cO (i := 0) o2; have b1 := cO (i := 1) o2; have b2 := cO (i := 2) o2; have b3 := cO (i := 3) o2; have b4 := cO (i := 4) o2; have b5 := cO (i := 5) o2; have bf := fun i => frozen_obj (i := i) o2; have q0 := cO (i := 0) o3; have q1 := cO (i := 1) o3; have q2 := cO (i := 2) o3; have q3 := cO (i := 3) o3; have q4 := cO (i := 4) o3; have q5 := cO (i := 5) o3; simp only [gA, gB, gC] at a0 a1 a2 a3 a4 b0 b1 b2 b3 b4 b5 q0 q1 q2 q3 q4 q5; clear o1 o2 o3)
             go_wp2_with fail
             refine (p_moves x _ HXX.out).mono ?_
             rintro e w5 ⟨y, bb, rfl, hy, hE⟩
             have HY := η hy
             have HE5 := η (HE.out.trans' hE)
             have O5 := η (hE.obj HO2.out)
             have HSF := η (set6 O5.out HE5.out (Nat.le_succ _) y.kind y.op y.wide y.reg y.signed y.size)
             clear a0 a1 a2 a3 a4 b0 b1 b2 b3 b4 b5 bf q0 q1 q2 q3 q4 q5 hy hE
             have b0 := cO (i := 0) O5.out
             have b1 := cO (i := 1) O5.out
             have b2 := cO (i := 2) O5.out
             have b3 := cO (i := 3) O5.out
             have b4 := cO (i := 4) O5.out
             have b5 := cO (i := 5) O5.out
             have bf := fun i => frozen_obj (i := i) O5.out
             simp only [gA, gB, gC] at b0 b1 b2 b3 b4 b5
             go_wp2_with fail
             all_goals
              (have hsf := HSF.out; generalize hF : (World.setCell (World.setCell (World.setCell (World.setCell (World.setCell (World.setCell w5 ⟨w.heap.size + 1, 0, none⟩ (.int .u8 y.kind)) ⟨w.heap.size + 1, 1, none⟩ (.int .u8 y.op)) ⟨w.heap.size + 1, 2, none⟩ (.bool y.wide)) ⟨w.heap.size + 1, 3, none⟩ (.bool y.reg)) ⟨w.heap.size + 1, 4, none⟩ (.bool y.signed)) ⟨w.heap.size + 1, 5, none⟩ (.int .i64 y.size)) = wF at hsf ⊢; obtain ⟨hs, he⟩ := hsf; clear hF; (try simp only [Exit.then]); (repeat (first | go_skip | go_step)); have r0 := cO (i := 0) hs; have r1 := cO (i := 1) hs; have r2 := cO (i := 2) hs; have r3 := cO (i := 3) hs; have r4 := cO (i := 4) hs; have r5 := cO (i := 5) hs; simp only [gA, gB, gC] at r0 r1 r2 r3 r4 r5; refine bodyPost_ret (by simp [results, Tryz.results75, go_sem, r0, r1, r2, r3, r4, r5]; try rfl) rfl ?_)
              exact ⟨y, bb, rfl, by rw [HR.out, ← HY.out, H5.out]; simp [*, ← HZ.out], by (repeat (first|exact xE0 _|assumption|refine xE1 ?_ _|refine xE2 ?_|refine xE3 ?_ _|refine xE4 ?_ (by assumption)))⟩
set_option maxRecDepth 20000 in
set_option maxHeartbeats 4000000 in
theorem p_What (x : Ins) (w : World) (hx : x.Ok) : Calls Tryz.prog 41 #[x.agg] w (WhatA x w) := by
 have HXX := η hx
 go_enter Tryz.func41, Tryz.ntmps41
 go_upto_region 1 with fail
 go_cut [4, 5] (fun v4 v5 wx => ∃ q y bb, v4 = .pointer (some ⟨q, 0, none⟩) ∧ v5 = .bool bb ∧ Hid (whatS x = if bb then some y else none) ∧ Hid (Ext w wx ∧ wx.heap[w.heap.size]? = some (insObj x) ∧ wx.heap[w.heap.size + 1]? = some (whObj Wh.zero) ∧ wx.heap[q]? = some (whObj y) ∧ w.heap.size + 1 < q))
 case first =>
  go_wp2_with fail
  refine (p_what x _ HXX.out).mono ?_
  rintro e w5 ⟨y, bb, rfl, hy, hE⟩
  have HY := η hy
  have HE5 := η hE
  clear hy hE
  go_wp2_with fail
  go_meet
  refine ⟨_, y, bb, rfl, rfl, HY, η ⟨?_, ?_, ?_, ?_, ?_⟩⟩
  ·refine Ext.alloc' ?_ _
   refine Ext.trans' ?_ HE5.out
   (repeat (first|exact xE0 _|assumption|refine xE1 ?_ _|refine xE2 ?_|refine xE3 ?_ _|refine xE4 ?_ (by assumption)))
  ·refine obj_old _ (HE5.out.obj ?_)
   (repeat (first | (refine obj_top _ _ ?_; simp; done) | refine obj_old _ ?_))
  ·refine obj_old _ (HE5.out.obj ?_)
   (repeat (first | (refine obj_top _ _ ?_; simp; done) | refine obj_old _ ?_))
  ·(repeat (first | (refine obj_top _ _ ?_; simp; done) | refine obj_old _ ?_))
  ·have := HE5.out.size
   simp at this
   omega
 case rest =>
  obtain ⟨q, y, bb, rfl, rfl, HY, HW⟩ := hcut
  have HO1 := η HW.out.2.1
  have HO2 := η HW.out.2.2.1
  have HO3 := η HW.out.2.2.2.1
  have HE := η HW.out.1
  clear HW
  (have o1 := HO1.out; have o2 := HO2.out; have o3 := HO3.out; have a0 := cO (i := 0) o1; have a1 := cO (i := 1) o1; have a2 := cO (i := 2) o1; have a3 := cO (i := 3) o1; have a4 := cO (i := 4) o1; have b0 := cO (i := 0) o2; have b1 := cO (i := 1) o2; have b2 := cO (i := 2) o2; have b3 := cO (i := 3) o2; have b4 := cO (i := 4) o2; have b5 := cO (i := 5) o2; have bf := fun i => frozen_obj (i := i) o2; have q0 := cO (i := 0) o3; have q1 := cO (i := 1) o3; have q2 := cO (i := 2) o3; have q3 := cO (i := 3) o3; have q4 := cO (i := 4) o3; have q5 := cO (i := 5) o3; simp only [gA, gB, gC] at a0 a1 a2 a3 a4 b0 b1 b2 b3 b4 b5 q0 q1 q2 q3 q4 q5; clear o1 o2 o3)
  cases bb with
  | true =>
   have HSF := η (set6 HO2.out HE.out (Nat.le_succ _) y.kind y.op y.wide y.reg y.signed y.size)
   go_wp2_with fail
   all_goals
    (have hsf := HSF.out; generalize hF : (World.setCell (World.setCell (World.setCell (World.setCell (World.setCell (World.setCell wc ⟨w.heap.size + 1, 0, none⟩ (.int .u8 y.kind)) ⟨w.heap.size + 1, 1, none⟩ (.int .u8 y.op)) ⟨w.heap.size + 1, 2, none⟩ (.bool y.wide)) ⟨w.heap.size + 1, 3, none⟩ (.bool y.reg)) ⟨w.heap.size + 1, 4, none⟩ (.bool y.signed)) ⟨w.heap.size + 1, 5, none⟩ (.int .i64 y.size)) = wF at hsf ⊢; obtain ⟨hs, he⟩ := hsf; clear hF; (try simp only [Exit.then]); (repeat (first | go_skip | go_step)); have r0 := cO (i := 0) hs; have r1 := cO (i := 1) hs; have r2 := cO (i := 2) hs; have r3 := cO (i := 3) hs; have r4 := cO (i := 4) hs; have r5 := cO (i := 5) hs; simp only [gA, gB, gC] at r0 r1 r2 r3 r4 r5; refine bodyPost_ret (by simp [results, Tryz.results41, go_sem, r0, r1, r2, r3, r4, r5]; try rfl) rfl ?_)
    exact ⟨by rw [HY.out]; rfl, by (repeat (first|exact xE0 _|assumption|refine xE1 ?_ _|refine xE2 ?_|refine xE3 ?_ _|refine xE4 ?_ (by assumption)))⟩
  | false =>
   have HSF := η (set6 HO2.out HE.out (Nat.le_succ _) 0 0 false false false 0)
   go_wp2_with fail
   all_goals
    (have hsf := HSF.out; generalize hF : (World.setCell (World.setCell (World.setCell (World.setCell (World.setCell (World.setCell wc ⟨w.heap.size + 1, 0, none⟩ (.int .u8 0)) ⟨w.heap.size + 1, 1, none⟩ (.int .u8 0)) ⟨w.heap.size + 1, 2, none⟩ (.bool false)) ⟨w.heap.size + 1, 3, none⟩ (.bool false)) ⟨w.heap.size + 1, 4, none⟩ (.bool false)) ⟨w.heap.size + 1, 5, none⟩ (.int .i64 0)) = wF at hsf ⊢; obtain ⟨hs, he⟩ := hsf; clear hF; (try simp only [Exit.then]); (repeat (first | go_skip | go_step)); have r0 := cO (i := 0) hs; have r1 := cO (i := 1) hs; have r2 := cO (i := 2) hs; have r3 := cO (i := 3) hs; have r4 := cO (i := 4) hs; have r5 := cO (i := 5) hs; simp only [gA, gB, gC] at r0 r1 r2 r3 r4 r5; refine bodyPost_ret (by simp [results, Tryz.results41, go_sem, r0, r1, r2, r3, r4, r5]; try rfl) rfl ?_)
    exact ⟨by rw [HY.out]; rfl, by (repeat (first|exact xE0 _|assumption|refine xE1 ?_ _|refine xE2 ?_|refine xE3 ?_ _|refine xE4 ?_ (by assumption)))⟩
end Go.Proofs.YtppefchjoodgnaaGreat
