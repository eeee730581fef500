/- What the claim leans on: CoC · CoD. -/
import Derived.Test.YtppefchjoodgnaaGreatPN15
import Derived.BigRegion
import Derived.Deep.RegionHeld3
namespace Go.Proofs.YtppefchjoodgnaaGreat
open Go.RowKit
set_option linter.unusedVariables false
set_option linter.unusedSimpArgs false
set_option maxRecDepth 20000 in
set_option maxHeartbeats 4000000 in
theorem p_swaps (x : Ins) (w : World) (hx : x.Ok) : Calls Tryz.prog 115 #[x.agg] w (WhA (swapsS x) w) := by
 obtain ⟨zd, hd⟩ : ∃ z, (x.dst != 10) = z := ⟨_, rfl⟩
 obtain ⟨zs, hs⟩ : ∃ z, zerosS x true true false = z := ⟨_, rfl⟩
 obtain ⟨i1, h1⟩ : ∃ z, (x.imm == 16) = z := ⟨_, rfl⟩
 obtain ⟨i3, h3⟩ : ∃ z, (x.imm == 32) = z := ⟨_, rfl⟩
 obtain ⟨i6, h6⟩ : ∃ z, (x.imm == 64) = z := ⟨_, rfl⟩
 obtain ⟨wd, hw⟩ : ∃ z, (x.op != 212) = z := ⟨_, rfl⟩
 go_enter Tryz.func115, Tryz.ntmps115
 go_upto_region 1 with fail
 go_cut [4] (fun v wx => ∃ q n, v = .pointer (some ⟨q, 0, none⟩) ∧ Hid (Ext w wx ∧ wx.heap[w.heap.size]? = some (insObj x) ∧ wx.heap[w.heap.size + 1]? = some (whObj Wh.zero) ∧ wx.heap[q]? = some (whObj ⟨2, 0, wd, false, false, n⟩) ∧ w.heap.size + 1 < q) ∧ Hid ((x.imm = 16 → n = 2) ∧ (x.imm = 32 → n = 4) ∧ (x.imm = 64 → n = 8)))
 case first =>
  go_wp2_with fail
  go_meet
  refine ⟨_, wrap64 (wrap32 (x.imm.tdiv 8)), rfl, η ⟨by (repeat (first|exact xE0 _|assumption|refine xE1 ?_ _|refine xE2 ?_|refine xE3 ?_ _|refine xE4 ?_ (by assumption))), ?_, ?_, ?_, ?_⟩, η ⟨?_, ?_, ?_⟩⟩
  ·(repeat (first | (refine obj_top _ _ ?_; simp; done) | refine obj_old _ ?_))
  ·(repeat (first | (refine obj_top _ _ ?_; simp; done) | refine obj_old _ ?_))
  ·(repeat (first | (refine obj_top _ _ ?_; simp; done) | refine obj_old _ ?_))
  ·omega
  ·intro h; rw [h]; decide +kernel
  ·intro h; rw [h]; decide +kernel
  ·intro h; rw [h]; decide +kernel
 case rest =>
  obtain ⟨q, n, rfl, HW, HN⟩ := hcut
  have HAR := η (swaps_ok x n zd zs i1 i3 i6 wd HN.out hd hs h1 h3 h6 hw)
  have HO1 := η HW.out.2.1
  have HO2 := η HW.out.2.2.1
  have HO3 := η HW.out.2.2.2.1
  have HE := η HW.out.1
  go_upto_region 2 with fail
  have HQ := HW.out.2.2.2.2
  cases zd with
  | false =>
   (obtain ⟨W1, hE1, hB1, hO1, hS1⟩ := six_world HO2.out HE.out (Nat.le_succ _) (2) (0) (wd) (false) (false) (n); have X1 := η (keep_ob hO1 HO1.out (by omega)); have X3 := η (keep_ob hO1 HO3.out (by omega)); clear hO1; have HS1 := η hS1; clear hS1; have HB1 := η hB1; clear hB1; refine wp_region_one_store2 23 W1 (by kernel_rfl) (by kernel_rfl) rfl rfl rfl (by kernel_rfl) ?_; apply Exists.intro; apply Exists.intro; refine ⟨fun W hW => ?_, rfl, fun nn => ?_, fun W hW => ?_, fun nn => ?_⟩; { have aZ := fun n : Grow W => n.ext.obj (X1.out W hW); have a0 := fun n : Grow W => cO (i := 0) (aZ n); have a1 := fun n : Grow W => cO (i := 1) (aZ n); have a2 := fun n : Grow W => cO (i := 2) (aZ n); have a3 := fun n : Grow W => cO (i := 3) (aZ n); have a4 := fun n : Grow W => cO (i := 4) (aZ n); simp only [gA, gB, gC] at a0 a1 a2 a3 a4; clear aZ; have qZ := fun n : Grow W => n.ext.obj (X3.out W hW); have q0 := fun n : Grow W => cO (i := 0) (qZ n); have q1 := fun n : Grow W => cO (i := 1) (qZ n); have q2 := fun n : Grow W => cO (i := 2) (qZ n); have q3 := fun n : Grow W => cO (i := 3) (qZ n); have q4 := fun n : Grow W => cO (i := 4) (qZ n); have q5 := fun n : Grow W => cO (i := 5) (qZ n); simp only [gA, gB, gC] at q0 q1 q2 q3 q4 q5; clear qZ; simp only [List.take_succ_cons, List.take_zero]; (repeat (go_big_quiet_step (exact Calls.grow1 (p_zerosE x true true false _ _ hs)))); exact wpQuiet_nil rfl }; { have O2 := nn.ext.obj HO2.out; have b0 := cO (i := 0) O2; have b1 := cO (i := 1) O2; have b2 := cO (i := 2) O2; have b3 := cO (i := 3) O2; have b4 := cO (i := 4) O2; have b5 := cO (i := 5) O2; have bf := fun i => frozen_obj (i := i) O2; simp only [gA, gB, gC] at b0 b1 b2 b3 b4 b5; clear O2; go_simp; exact HS1.out nn }; { simp only [List.drop_succ_cons, List.drop_zero]; (repeat (go_big_quiet_step (fail))); exact wpQuiet_nil rfl }; have hs := nn.ext.obj HB1.out; have r0 := cO (i := 0) hs; have r1 := cO (i := 1) hs; have r2 := cO (i := 2) hs; have r3 := cO (i := 3) hs; have r4 := cO (i := 4) hs; have r5 := cO (i := 5) hs; simp only [gA, gB, gC] at r0 r1 r2 r3 r4 r5; (try simp only [Exit.then]); (repeat (first | go_skip | go_step)); refine bodyPost_ret (by simp [results, Tryz.results115, go_sem, r0, r1, r2, r3, r4, r5]; try rfl) rfl ?_)
   exact ⟨⟨2, 0, wd, false, false, n⟩, _, rfl, HAR.out, hE1.trans' nn.ext⟩
  | true =>
   cases zs with
   | false =>
    (obtain ⟨W1, hE1, hB1, hO1, hS1⟩ := six_world HO2.out HE.out (Nat.le_succ _) (2) (0) (wd) (false) (false) (n); have X1 := η (keep_ob hO1 HO1.out (by omega)); have X3 := η (keep_ob hO1 HO3.out (by omega)); clear hO1; have HS1 := η hS1; clear hS1; have HB1 := η hB1; clear hB1; refine wp_region_one_store2 23 W1 (by kernel_rfl) (by kernel_rfl) rfl rfl rfl (by kernel_rfl) ?_; apply Exists.intro; apply Exists.intro; refine ⟨fun W hW => ?_, rfl, fun nn => ?_, fun W hW => ?_, fun nn => ?_⟩; { have aZ := fun n : Grow W => n.ext.obj (X1.out W hW); have a0 := fun n : Grow W => cO (i := 0) (aZ n); have a1 := fun n : Grow W => cO (i := 1) (aZ n); have a2 := fun n : Grow W => cO (i := 2) (aZ n); have a3 := fun n : Grow W => cO (i := 3) (aZ n); have a4 := fun n : Grow W => cO (i := 4) (aZ n); simp only [gA, gB, gC] at a0 a1 a2 a3 a4; clear aZ; have qZ := fun n : Grow W => n.ext.obj (X3.out W hW); have q0 := fun n : Grow W => cO (i := 0) (qZ n); have q1 := fun n : Grow W => cO (i := 1) (qZ n); have q2 := fun n : Grow W => cO (i := 2) (qZ n); have q3 := fun n : Grow W => cO (i := 3) (qZ n); have q4 := fun n : Grow W => cO (i := 4) (qZ n); have q5 := fun n : Grow W => cO (i := 5) (qZ n); simp only [gA, gB, gC] at q0 q1 q2 q3 q4 q5; clear qZ; simp only [List.take_succ_cons, List.take_zero]; (repeat (go_big_quiet_step (exact Calls.grow1 (p_zerosE x true true false _ _ hs)))); exact wpQuiet_nil rfl }; { have O2 := nn.ext.obj HO2.out; have b0 := cO (i := 0) O2; have b1 := cO (i := 1) O2; have b2 := cO (i := 2) O2; have b3 := cO (i := 3) O2; have b4 := cO (i := 4) O2; have b5 := cO (i := 5) O2; have bf := fun i => frozen_obj (i := i) O2; simp only [gA, gB, gC] at b0 b1 b2 b3 b4 b5; clear O2; go_simp; exact HS1.out nn }; { simp only [List.drop_succ_cons, List.drop_zero]; (repeat (go_big_quiet_step (fail))); exact wpQuiet_nil rfl }; have hs := nn.ext.obj HB1.out; have r0 := cO (i := 0) hs; have r1 := cO (i := 1) hs; have r2 := cO (i := 2) hs; have r3 := cO (i := 3) hs; have r4 := cO (i := 4) hs; have r5 := cO (i := 5) hs; simp only [gA, gB, gC] at r0 r1 r2 r3 r4 r5; (try simp only [Exit.then]); (repeat (first | go_skip | go_step)); refine bodyPost_ret (by simp [results, Tryz.results115, go_sem, r0, r1, r2, r3, r4, r5]; try rfl) rfl ?_)
    exact ⟨⟨2, 0, wd, false, false, n⟩, _, rfl, HAR.out, hE1.trans' nn.ext⟩
   | true =>
    cases i1
    ·cases i3
     ·(obtain ⟨W1, hE1, hB1, hO1, hS1⟩ := six_world HO2.out HE.out (Nat.le_succ _) (2) (0) (wd) (false) (false) (n); have X1 := η (keep_ob hO1 HO1.out (by omega)); have X3 := η (keep_ob hO1 HO3.out (by omega)); clear hO1; have HS1 := η hS1; clear hS1; have HB1 := η hB1; clear hB1; refine wp_region_one_store2 23 W1 (by kernel_rfl) (by kernel_rfl) rfl rfl rfl (by kernel_rfl) ?_; apply Exists.intro; apply Exists.intro; refine ⟨fun W hW => ?_, rfl, fun nn => ?_, fun W hW => ?_, fun nn => ?_⟩; { have aZ := fun n : Grow W => n.ext.obj (X1.out W hW); have a0 := fun n : Grow W => cO (i := 0) (aZ n); have a1 := fun n : Grow W => cO (i := 1) (aZ n); have a2 := fun n : Grow W => cO (i := 2) (aZ n); have a3 := fun n : Grow W => cO (i := 3) (aZ n); have a4 := fun n : Grow W => cO (i := 4) (aZ n); simp only [gA, gB, gC] at a0 a1 a2 a3 a4; clear aZ; have qZ := fun n : Grow W => n.ext.obj (X3.out W hW); have q0 := fun n : Grow W => cO (i := 0) (qZ n); have q1 := fun n : Grow W => cO (i := 1) (qZ n); have q2 := fun n : Grow W => cO (i := 2) (qZ n); have q3 := fun n : Grow W => cO (i := 3) (qZ n); have q4 := fun n : Grow W => cO (i := 4) (qZ n); have q5 := fun n : Grow W => cO (i := 5) (qZ n); simp only [gA, gB, gC] at q0 q1 q2 q3 q4 q5; clear qZ; simp only [List.take_succ_cons, List.take_zero]; (repeat (go_big_quiet_step (exact Calls.grow1 (p_zerosE x true true false _ _ hs)))); exact wpQuiet_nil rfl }; { have O2 := nn.ext.obj HO2.out; have b0 := cO (i := 0) O2; have b1 := cO (i := 1) O2; have b2 := cO (i := 2) O2; have b3 := cO (i := 3) O2; have b4 := cO (i := 4) O2; have b5 := cO (i := 5) O2; have bf := fun i => frozen_obj (i := i) O2; simp only [gA, gB, gC] at b0 b1 b2 b3 b4 b5; clear O2; go_simp; exact HS1.out nn }; { simp only [List.drop_succ_cons, List.drop_zero]; (repeat (go_big_quiet_step (fail))); exact wpQuiet_nil rfl }; have hs := nn.ext.obj HB1.out; have r0 := cO (i := 0) hs; have r1 := cO (i := 1) hs; have r2 := cO (i := 2) hs; have r3 := cO (i := 3) hs; have r4 := cO (i := 4) hs; have r5 := cO (i := 5) hs; simp only [gA, gB, gC] at r0 r1 r2 r3 r4 r5; (try simp only [Exit.then]); (repeat (first | go_skip | go_step)); refine bodyPost_ret (by simp [results, Tryz.results115, go_sem, r0, r1, r2, r3, r4, r5]; try rfl) rfl ?_)
      exact ⟨⟨2, 0, wd, false, false, n⟩, _, rfl, HAR.out, hE1.trans' nn.ext⟩
     ·(obtain ⟨W1, hE1, hB1, hO1, hS1⟩ := six_world HO2.out HE.out (Nat.le_succ _) (2) (0) (wd) (false) (false) (n); have X1 := η (keep_ob hO1 HO1.out (by omega)); have X3 := η (keep_ob hO1 HO3.out (by omega)); clear hO1; have HS1 := η hS1; clear hS1; have HB1 := η hB1; clear hB1; refine wp_region_one_store2 23 W1 (by kernel_rfl) (by kernel_rfl) rfl rfl rfl (by kernel_rfl) ?_; apply Exists.intro; apply Exists.intro; refine ⟨fun W hW => ?_, rfl, fun nn => ?_, fun W hW => ?_, fun nn => ?_⟩; { have aZ := fun n : Grow W => n.ext.obj (X1.out W hW); have a0 := fun n : Grow W => cO (i := 0) (aZ n); have a1 := fun n : Grow W => cO (i := 1) (aZ n); have a2 := fun n : Grow W => cO (i := 2) (aZ n); have a3 := fun n : Grow W => cO (i := 3) (aZ n); have a4 := fun n : Grow W => cO (i := 4) (aZ n); simp only [gA, gB, gC] at a0 a1 a2 a3 a4; clear aZ; have qZ := fun n : Grow W => n.ext.obj (X3.out W hW); have q0 := fun n : Grow W => cO (i := 0) (qZ n); have q1 := fun n : Grow W => cO (i := 1) (qZ n); have q2 := fun n : Grow W => cO (i := 2) (qZ n); have q3 := fun n : Grow W => cO (i := 3) (qZ n); have q4 := fun n : Grow W => cO (i := 4) (qZ n); have q5 := fun n : Grow W => cO (i := 5) (qZ n); simp only [gA, gB, gC] at q0 q1 q2 q3 q4 q5; clear qZ; simp only [List.take_succ_cons, List.take_zero]; (repeat (go_big_quiet_step (exact Calls.grow1 (p_zerosE x true true false _ _ hs)))); exact wpQuiet_nil rfl }; { have O2 := nn.ext.obj HO2.out; have b0 := cO (i := 0) O2; have b1 := cO (i := 1) O2; have b2 := cO (i := 2) O2; have b3 := cO (i := 3) O2; have b4 := cO (i := 4) O2; have b5 := cO (i := 5) O2; have bf := fun i => frozen_obj (i := i) O2; simp only [gA, gB, gC] at b0 b1 b2 b3 b4 b5; clear O2; go_simp; exact HS1.out nn }; { simp only [List.drop_succ_cons, List.drop_zero]; (repeat (go_big_quiet_step (fail))); exact wpQuiet_nil rfl }; have hs := nn.ext.obj HB1.out; have r0 := cO (i := 0) hs; have r1 := cO (i := 1) hs; have r2 := cO (i := 2) hs; have r3 := cO (i := 3) hs; have r4 := cO (i := 4) hs; have r5 := cO (i := 5) hs; simp only [gA, gB, gC] at r0 r1 r2 r3 r4 r5; (try simp only [Exit.then]); (repeat (first | go_skip | go_step)); refine bodyPost_ret (by simp [results, Tryz.results115, go_sem, r0, r1, r2, r3, r4, r5]; try rfl) rfl ?_)
      exact ⟨⟨2, 0, wd, false, false, n⟩, _, rfl, HAR.out, hE1.trans' nn.ext⟩
    ·(obtain ⟨W1, hE1, hB1, hO1, hS1⟩ := six_world HO2.out HE.out (Nat.le_succ _) (2) (0) (wd) (false) (false) (n); have X1 := η (keep_ob hO1 HO1.out (by omega)); have X3 := η (keep_ob hO1 HO3.out (by omega)); clear hO1; have HS1 := η hS1; clear hS1; have HB1 := η hB1; clear hB1; refine wp_region_one_store2 23 W1 (by kernel_rfl) (by kernel_rfl) rfl rfl rfl (by kernel_rfl) ?_; apply Exists.intro; apply Exists.intro; refine ⟨fun W hW => ?_, rfl, fun nn => ?_, fun W hW => ?_, fun nn => ?_⟩; { have aZ := fun n : Grow W => n.ext.obj (X1.out W hW); have a0 := fun n : Grow W => cO (i := 0) (aZ n); have a1 := fun n : Grow W => cO (i := 1) (aZ n); have a2 := fun n : Grow W => cO (i := 2) (aZ n); have a3 := fun n : Grow W => cO (i := 3) (aZ n); have a4 := fun n : Grow W => cO (i := 4) (aZ n); simp only [gA, gB, gC] at a0 a1 a2 a3 a4; clear aZ; have qZ := fun n : Grow W => n.ext.obj (X3.out W hW); have q0 := fun n : Grow W => cO (i := 0) (qZ n); have q1 := fun n : Grow W => cO (i := 1) (qZ n); have q2 := fun n : Grow W => cO (i := 2) (qZ n); have q3 := fun n : Grow W => cO (i := 3) (qZ n); have q4 := fun n : Grow W => cO (i := 4) (qZ n); have q5 := fun n : Grow W => cO (i := 5) (qZ n); simp only [gA, gB, gC] at q0 q1 q2 q3 q4 q5; clear qZ; simp only [List.take_succ_cons, List.take_zero]; (repeat (go_big_quiet_step (exact Calls.grow1 (p_zerosE x true true false _ _ hs)))); exact wpQuiet_nil rfl }; { have O2 := nn.ext.obj HO2.out; have b0 := cO (i := 0) O2; have b1 := cO (i := 1) O2; have b2 := cO (i := 2) O2; have b3 := cO (i := 3) O2; have b4 := cO (i := 4) O2; have b5 := cO (i := 5) O2; have bf := fun i => frozen_obj (i := i) O2; simp only [gA, gB, gC] at b0 b1 b2 b3 b4 b5; clear O2; go_simp; exact HS1.out nn }; { simp only [List.drop_succ_cons, List.drop_zero]; (repeat (go_big_quiet_step (fail))); exact wpQuiet_nil rfl }; have hs := nn.ext.obj HB1.out; have r0 := cO (i := 0) hs; have r1 := cO (i := 1) hs; have r2 := cO (i := 2) hs; have r3 := cO (i := 3) hs; have r4 := cO (i := 4) hs; have r5 := cO (i := 5) hs; simp only [gA, gB, gC] at r0 r1 r2 r3 r4 r5; (try simp only [Exit.then]); (repeat (first | go_skip | go_step)); refine bodyPost_ret (by simp [results, Tryz.results115, go_sem, r0, r1, r2, r3, r4, r5]; try rfl) rfl ?_)
     exact ⟨⟨2, 0, wd, false, false, n⟩, _, rfl, HAR.out, hE1.trans' nn.ext⟩
def g11 (h : Int) : Bool := h == 16 || (h == 32 || (h == 48 || (h == 64 || (h == 80 || (h == 96 || (h == 112 || (h == 160 || (h == 176 || (h == 192 || h == 208)))))))))
def jumpsS (x : Ins) : Option Wh :=
 if x.op = 5 then (if ((x.dst == 0) && zerosS x true false true) = true then some ⟨9, 0, false, false, false, 0⟩ else none)
 else if x.op = 6 then (if ((x.dst == 0) && zerosS x true true false) = true then some ⟨9, 0, false, false, false, 0⟩ else none)
 else if x.op = 133 then (if ((x.dst == 0) && zerosS x true true false) = true then some ⟨11, 0, false, false, false, 0⟩ else none)
 else if x.op = 149 then (if ((x.dst == 0) && zerosS x true true true) = true then some ⟨12, 0, false, false, false, 0⟩ else none)
 else if g11 (x.op / 16 * 16) = true then (if zerosS x (!(x.op / 8 % 2 == 1)) false (x.op / 8 % 2 == 1) = true then some ⟨10, x.op / 16 * 16, x.op % 8 == 5, x.op / 8 % 2 == 1, false, 0⟩ else none)
 else none
set_option maxRecDepth 20000 in
set_option maxHeartbeats 8000000 in
theorem p_jumps (x : Ins) (w : World) (hx : x.Ok) : Calls Tryz.prog 118 #[x.agg] w (WhA (jumpsS x) w) := by
 have e1 : bits .and .u8 x.op 240 = x.op / 16 * 16 := byte_all (fun x => bits .and .u8 x 240 = x / 16 * 16) (by decide +kernel) x.op hx.op
 have e2 : bits .and .u8 x.op 8 = x.op / 8 % 2 * 8 := byte_all (fun x => bits .and .u8 x 8 = x / 8 % 2 * 8) (by decide +kernel) x.op hx.op
 have e3 : (x.op / 8 % 2 * 8 != 0) = (x.op / 8 % 2 == 1) := byte_all (fun x => (x / 8 % 2 * 8 != 0) = (x / 8 % 2 == 1)) (by decide +kernel) x.op hx.op
 have HOP := η hx.op
 have HS := η (rfl : jumpsS x = jumpsS x)
 unfold jumpsS at HS ⊢
 obtain ⟨h, hh⟩ : ∃ h, x.op / 16 * 16 = h := ⟨_, rfl⟩
 obtain ⟨r, hr⟩ : ∃ r, x.op / 8 % 2 * 8 = r := ⟨_, rfl⟩
 obtain ⟨rg, hrg⟩ : ∃ rg, (x.op / 8 % 2 == 1) = rg := ⟨_, rfl⟩
 obtain ⟨c, hc⟩ : ∃ c, x.op % 8 = c := ⟨_, rfl⟩
 obtain ⟨wd, hwd⟩ : ∃ wd, (c == 5) = wd := ⟨_, rfl⟩
 obtain ⟨zd, hzd⟩ : ∃ z, (x.dst == 0) = z := ⟨_, rfl⟩
 obtain ⟨k5, hk5⟩ : ∃ z, (x.op == 5) = z := ⟨_, rfl⟩
 obtain ⟨k6, hk6⟩ : ∃ z, (x.op == 6) = z := ⟨_, rfl⟩
 obtain ⟨k7, hk7⟩ : ∃ z, (x.op == 133) = z := ⟨_, rfl⟩
 obtain ⟨k8, hk8⟩ : ∃ z, (x.op == 149) = z := ⟨_, rfl⟩
 obtain ⟨s5, hs5⟩ : ∃ z, zerosS x true false true = z := ⟨_, rfl⟩
 obtain ⟨s6, hs6⟩ : ∃ z, zerosS x true true false = z := ⟨_, rfl⟩
 obtain ⟨s8, hs8⟩ : ∃ z, zerosS x true true true = z := ⟨_, rfl⟩
 obtain ⟨sb, hsb⟩ : ∃ z, zerosS x (!rg) false rg = z := ⟨_, rfl⟩
 have HC := η hc
 have b5 : (x.op = 5) = (k5 = true) := by rw [← hk5]; simp
 have b6 : (x.op = 6) = (k6 = true) := by rw [← hk6]; simp
 have b7 : (x.op = 133) = (k7 = true) := by rw [← hk7]; simp
 have b8 : (x.op = 149) = (k8 = true) := by rw [← hk8]; simp
 rw [hh] at e1
 rw [hr] at e2
 rw [hr, hrg] at e3
 simp only [b5, b6, b7, b8, hh, hrg, hc, hwd, hzd, hs5, hs6, hs8, hsb]
 obtain ⟨R, hR⟩ : ∃ R, R = (if k5 = true then (if (zd && s5) = true then some (⟨9, 0, false, false, false, 0⟩ : Wh) else none) else if k6 = true then (if (zd && s6) = true then some ⟨9, 0, false, false, false, 0⟩ else none) else if k7 = true then (if (zd && s6) = true then some ⟨11, 0, false, false, false, 0⟩ else none) else if k8 = true then (if (zd && s8) = true then some ⟨12, 0, false, false, false, 0⟩ else none) else if g11 h = true then (if sb = true then some ⟨10, h, wd, rg, false, 0⟩ else none) else none) := ⟨_, rfl⟩
 rw [← hR]
 have HR := η hR
 clear hh hr hrg hc hR b5 b6 b7 b8 HS
 go_enter Tryz.func118, Tryz.ntmps118
 go_wp2_with fail
 go_cut [4] (fun v wx => ∃ q, v = .pointer (some ⟨q, 0, none⟩) ∧ Hid (Ext w wx ∧ wx.heap[w.heap.size]? = some (insObj x) ∧ wx.heap[w.heap.size + 1]? = some (whObj Wh.zero) ∧ wx.heap[q]? = some (whObj ⟨10, h, wd, rg, false, 0⟩) ∧ w.heap.size + 1 < q))
 case first =>
  go_region_held3 (fun w' => w'.cell? ⟨w.heap.size, 0, none⟩ = some (.int .u8 x.op) ∧ w'.cell? ⟨w.heap.size, 1, none⟩ = some (.int .u8 x.dst) ∧ w'.cell? ⟨w.heap.size, 2, none⟩ = some (.int .u8 x.src) ∧ w'.cell? ⟨w.heap.size, 3, none⟩ = some (.int .i16 x.off) ∧ w'.cell? ⟨w.heap.size, 4, none⟩ = some (.int .i32 x.imm))
   (go_keep)
   ((go_at_call 116; refine (p_class x _ HOP.out).mono ?_; rw [HC.out]; rintro e w5 ⟨rfl, rfl⟩))
  all_goals
   go_wp2_with fail
   go_meet
   refine ⟨_, rfl, η ⟨by (repeat (first|exact xE0 _|assumption|refine xE1 ?_ _|refine xE2 ?_|refine xE3 ?_ _|refine xE4 ?_ (by assumption))), ?_, ?_, ?_, ?_⟩⟩
   ·(repeat (first | (refine obj_top _ _ ?_; simp; done) | refine obj_old _ ?_))
   ·(repeat (first | (refine obj_top _ _ ?_; simp; done) | refine obj_old _ ?_))
   ·(repeat (first | (refine obj_top _ _ ?_; simp; done) | refine obj_old _ ?_))
   ·omega
 case rest =>
  obtain ⟨q, rfl, HW⟩ := hcut
  have HO1 := η HW.out.2.1
  have HO2 := η HW.out.2.2.1
  have HO3 := η HW.out.2.2.2.1
  have HE := η HW.out.1
  (have o1 := HO1.out; have o2 := HO2.out; have o3 := HO3.out; have a0 := cO (i := 0) o1; have a1 := cO (i := 1) o1; have a2 := cO (i := 2) o1; have a3 := cO (i := 3) o1; have a4 := cO (i := 4) o1; have b0 := cO (i := 0) o2; have b1 := cO (i := 1) o2; have b2 := cO (i := 2) o2; have b3 := cO (i := 3) o2; have b4 := cO (i := 4) o2; have b5 := cO (i := 5) o2; have bf := fun i => frozen_obj (i := i) o2; have q0 := cO (i := 0) o3; have q1 := cO (i := 1) o3; have q2 := cO (i := 2) o3; have q3 := cO (i := 3) o3; have q4 := cO (i := 4) o3; have q5 := cO (i := 5) o3; simp only [gA, gB, gC] at a0 a1 a2 a3 a4 b0 b1 b2 b3 b4 b5 q0 q1 q2 q3 q4 q5; clear o1 o2 o3)
  cases k5 with
  | true =>
   cases zd with
   | false =>
    have HSF := η (set6 HO2.out HE.out (Nat.le_succ _) 9 0 false false false 0)
    go_wp2_with fail
    all_goals
     (have hsf := HSF.out; generalize hF : (World.setCell (World.setCell (World.setCell (World.setCell (World.setCell (World.setCell wc ⟨w.heap.size + 1, 0, none⟩ (.int .u8 9)) ⟨w.heap.size + 1, 1, none⟩ (.int .u8 0)) ⟨w.heap.size + 1, 2, none⟩ (.bool false)) ⟨w.heap.size + 1, 3, none⟩ (.bool false)) ⟨w.heap.size + 1, 4, none⟩ (.bool false)) ⟨w.heap.size + 1, 5, none⟩ (.int .i64 0)) = wF at hsf ⊢; obtain ⟨hs, he⟩ := hsf; clear hF; (try simp only [Exit.then]); (repeat (first | go_skip | go_step)); have r0 := cO (i := 0) hs; have r1 := cO (i := 1) hs; have r2 := cO (i := 2) hs; have r3 := cO (i := 3) hs; have r4 := cO (i := 4) hs; have r5 := cO (i := 5) hs; simp only [gA, gB, gC] at r0 r1 r2 r3 r4 r5; refine bodyPost_ret (by simp [results, Tryz.results118, go_sem, r0, r1, r2, r3, r4, r5]; try rfl) rfl ?_)
     exact ⟨⟨9, 0, false, false, false, 0⟩, false, rfl, HR.out, by (repeat (first|exact xE0 _|assumption|refine xE1 ?_ _|refine xE2 ?_|refine xE3 ?_ _|refine xE4 ?_ (by assumption)))⟩
   | true =>
    have HSF := η (set6 (obj_old (.cells #[.int .u8 x.op, .int .u8 x.dst, .int .u8 x.src, .int .i16 x.off, .int .i32 x.imm] 58) HO2.out) (HE.out.alloc' _) (Nat.le_succ _) 9 0 false false false 0)
    (have o1 := fun o => obj_old o HO1.out; have o2 := fun o => obj_old o HO2.out; have o3 := fun o => obj_old o HO3.out; have a0o := fun o => cO (i := 0) (o1 o); have a1o := fun o => cO (i := 1) (o1 o); have a2o := fun o => cO (i := 2) (o1 o); have a3o := fun o => cO (i := 3) (o1 o); have a4o := fun o => cO (i := 4) (o1 o); have b0o := fun o => cO (i := 0) (o2 o); have b1o := fun o => cO (i := 1) (o2 o); have b2o := fun o => cO (i := 2) (o2 o); have b3o := fun o => cO (i := 3) (o2 o); have b4o := fun o => cO (i := 4) (o2 o); have b5o := fun o => cO (i := 5) (o2 o); have bfo := fun o i => frozen_obj (i := i) (o2 o); have q0o := fun o => cO (i := 0) (o3 o); have q1o := fun o => cO (i := 1) (o3 o); have q2o := fun o => cO (i := 2) (o3 o); have q3o := fun o => cO (i := 3) (o3 o); have q4o := fun o => cO (i := 4) (o3 o); have q5o := fun o => cO (i := 5) (o3 o); simp only [gA, gB, gC] at a0o a1o a2o a3o a4o b0o b1o b2o b3o b4o b5o q0o q1o q2o q3o q4o q5o; clear o1 o2 o3)
    go_wp2_with fail
    refine (p_zerosE x true false true s5 _ hs5).mono ?_
    rintro e w5 ⟨rfl, rfl⟩
    go_wp2_with fail
    all_goals
     (have hsf := HSF.out; generalize hF : (World.setCell (World.setCell (World.setCell (World.setCell (World.setCell (World.setCell (World.alloc wc (.cells #[.int .u8 x.op, .int .u8 x.dst, .int .u8 x.src, .int .i16 x.off, .int .i32 x.imm] 58)) ⟨w.heap.size + 1, 0, none⟩ (.int .u8 9)) ⟨w.heap.size + 1, 1, none⟩ (.int .u8 0)) ⟨w.heap.size + 1, 2, none⟩ (.bool false)) ⟨w.heap.size + 1, 3, none⟩ (.bool false)) ⟨w.heap.size + 1, 4, none⟩ (.bool false)) ⟨w.heap.size + 1, 5, none⟩ (.int .i64 0)) = wF at hsf ⊢; obtain ⟨hs, he⟩ := hsf; clear hF; (try simp only [Exit.then]); (repeat (first | go_skip | go_step)); have r0 := cO (i := 0) hs; have r1 := cO (i := 1) hs; have r2 := cO (i := 2) hs; have r3 := cO (i := 3) hs; have r4 := cO (i := 4) hs; have r5 := cO (i := 5) hs; simp only [gA, gB, gC] at r0 r1 r2 r3 r4 r5; refine bodyPost_ret (by simp [results, Tryz.results118, go_sem, r0, r1, r2, r3, r4, r5]; try rfl) rfl ?_)
     exact ⟨⟨9, 0, false, false, false, 0⟩, s5, rfl, HR.out, by (repeat (first|exact xE0 _|assumption|refine xE1 ?_ _|refine xE2 ?_|refine xE3 ?_ _|refine xE4 ?_ (by assumption)))⟩
  | false =>
   cases k6 with
   | true =>
    cases zd with
    | false =>
     have HSF := η (set6 HO2.out HE.out (Nat.le_succ _) 9 0 false false false 0)
     go_wp2_with fail
     all_goals
      (have hsf := HSF.out; generalize hF : (World.setCell (World.setCell (World.setCell (World.setCell (World.setCell (World.setCell wc ⟨w.heap.size + 1, 0, none⟩ (.int .u8 9)) ⟨w.heap.size + 1, 1, none⟩ (.int .u8 0)) ⟨w.heap.size + 1, 2, none⟩ (.bool false)) ⟨w.heap.size + 1, 3, none⟩ (.bool false)) ⟨w.heap.size + 1, 4, none⟩ (.bool false)) ⟨w.heap.size + 1, 5, none⟩ (.int .i64 0)) = wF at hsf ⊢; obtain ⟨hs, he⟩ := hsf; clear hF; (try simp only [Exit.then]); (repeat (first | go_skip | go_step)); have r0 := cO (i := 0) hs; have r1 := cO (i := 1) hs; have r2 := cO (i := 2) hs; have r3 := cO (i := 3) hs; have r4 := cO (i := 4) hs; have r5 := cO (i := 5) hs; simp only [gA, gB, gC] at r0 r1 r2 r3 r4 r5; refine bodyPost_ret (by simp [results, Tryz.results118, go_sem, r0, r1, r2, r3, r4, r5]; try rfl) rfl ?_)
      exact ⟨⟨9, 0, false, false, false, 0⟩, false, rfl, HR.out, by (repeat (first|exact xE0 _|assumption|refine xE1 ?_ _|refine xE2 ?_|refine xE3 ?_ _|refine xE4 ?_ (by assumption)))⟩
    | true =>
     have HSF := η (set6 (obj_old (.cells #[.int .u8 x.op, .int .u8 x.dst, .int .u8 x.src, .int .i16 x.off, .int .i32 x.imm] 58) HO2.out) (HE.out.alloc' _) (Nat.le_succ _) 9 0 false false false 0)
     (have o1 := fun o => obj_old o HO1.out; have o2 := fun o => obj_old o HO2.out; have o3 := fun o => obj_old o HO3.out; have a0o := fun o => cO (i := 0) (o1 o); have a1o := fun o => cO (i := 1) (o1 o); have a2o := fun o => cO (i := 2) (o1 o); have a3o := fun o => cO (i := 3) (o1 o); have a4o := fun o => cO (i := 4) (o1 o); have b0o := fun o => cO (i := 0) (o2 o); have b1o := fun o => cO (i := 1) (o2 o); have b2o := fun o => cO (i := 2) (o2 o); have b3o := fun o => cO (i := 3) (o2 o); have b4o := fun o => cO (i := 4) (o2 o); have b5o := fun o => cO (i := 5) (o2 o); have bfo := fun o i => frozen_obj (i := i) (o2 o); have q0o := fun o => cO (i := 0) (o3 o); have q1o := fun o => cO (i := 1) (o3 o); have q2o := fun o => cO (i := 2) (o3 o); have q3o := fun o => cO (i := 3) (o3 o); have q4o := fun o => cO (i := 4) (o3 o); have q5o := fun o => cO (i := 5) (o3 o); simp only [gA, gB, gC] at a0o a1o a2o a3o a4o b0o b1o b2o b3o b4o b5o q0o q1o q2o q3o q4o q5o; clear o1 o2 o3)
     go_wp2_with fail
     refine (p_zerosE x true true false s6 _ hs6).mono ?_
     rintro e w5 ⟨rfl, rfl⟩
     go_wp2_with fail
     all_goals
      (have hsf := HSF.out; generalize hF : (World.setCell (World.setCell (World.setCell (World.setCell (World.setCell (World.setCell (World.alloc wc (.cells #[.int .u8 x.op, .int .u8 x.dst, .int .u8 x.src, .int .i16 x.off, .int .i32 x.imm] 58)) ⟨w.heap.size + 1, 0, none⟩ (.int .u8 9)) ⟨w.heap.size + 1, 1, none⟩ (.int .u8 0)) ⟨w.heap.size + 1, 2, none⟩ (.bool false)) ⟨w.heap.size + 1, 3, none⟩ (.bool false)) ⟨w.heap.size + 1, 4, none⟩ (.bool false)) ⟨w.heap.size + 1, 5, none⟩ (.int .i64 0)) = wF at hsf ⊢; obtain ⟨hs, he⟩ := hsf; clear hF; (try simp only [Exit.then]); (repeat (first | go_skip | go_step)); have r0 := cO (i := 0) hs; have r1 := cO (i := 1) hs; have r2 := cO (i := 2) hs; have r3 := cO (i := 3) hs; have r4 := cO (i := 4) hs; have r5 := cO (i := 5) hs; simp only [gA, gB, gC] at r0 r1 r2 r3 r4 r5; refine bodyPost_ret (by simp [results, Tryz.results118, go_sem, r0, r1, r2, r3, r4, r5]; try rfl) rfl ?_)
      exact ⟨⟨9, 0, false, false, false, 0⟩, s6, rfl, HR.out, by (repeat (first|exact xE0 _|assumption|refine xE1 ?_ _|refine xE2 ?_|refine xE3 ?_ _|refine xE4 ?_ (by assumption)))⟩
   | false =>
    cases k7 with
    | true =>
     cases zd with
     | false =>
      have HSF := η (set6 HO2.out HE.out (Nat.le_succ _) 11 0 false false false 0)
      go_wp2_with fail
      all_goals
       (have hsf := HSF.out; generalize hF : (World.setCell (World.setCell (World.setCell (World.setCell (World.setCell (World.setCell wc ⟨w.heap.size + 1, 0, none⟩ (.int .u8 11)) ⟨w.heap.size + 1, 1, none⟩ (.int .u8 0)) ⟨w.heap.size + 1, 2, none⟩ (.bool false)) ⟨w.heap.size + 1, 3, none⟩ (.bool false)) ⟨w.heap.size + 1, 4, none⟩ (.bool false)) ⟨w.heap.size + 1, 5, none⟩ (.int .i64 0)) = wF at hsf ⊢; obtain ⟨hs, he⟩ := hsf; clear hF; (try simp only [Exit.then]); (repeat (first | go_skip | go_step)); have r0 := cO (i := 0) hs; have r1 := cO (i := 1) hs; have r2 := cO (i := 2) hs; have r3 := cO (i := 3) hs; have r4 := cO (i := 4) hs; have r5 := cO (i := 5) hs; simp only [gA, gB, gC] at r0 r1 r2 r3 r4 r5; refine bodyPost_ret (by simp [results, Tryz.results118, go_sem, r0, r1, r2, r3, r4, r5]; try rfl) rfl ?_)
       exact ⟨⟨11, 0, false, false, false, 0⟩, false, rfl, HR.out, by (repeat (first|exact xE0 _|assumption|refine xE1 ?_ _|refine xE2 ?_|refine xE3 ?_ _|refine xE4 ?_ (by assumption)))⟩
     | true =>
      have HSF := η (set6 (obj_old (.cells #[.int .u8 x.op, .int .u8 x.dst, .int .u8 x.src, .int .i16 x.off, .int .i32 x.imm] 58) HO2.out) (HE.out.alloc' _) (Nat.le_succ _) 11 0 false false false 0)
      (have o1 := fun o => obj_old o HO1.out; have o2 := fun o => obj_old o HO2.out; have o3 := fun o => obj_old o HO3.out; have a0o := fun o => cO (i := 0) (o1 o); have a1o := fun o => cO (i := 1) (o1 o); have a2o := fun o => cO (i := 2) (o1 o); have a3o := fun o => cO (i := 3) (o1 o); have a4o := fun o => cO (i := 4) (o1 o); have b0o := fun o => cO (i := 0) (o2 o); have b1o := fun o => cO (i := 1) (o2 o); have b2o := fun o => cO (i := 2) (o2 o); have b3o := fun o => cO (i := 3) (o2 o); have b4o := fun o => cO (i := 4) (o2 o); have b5o := fun o => cO (i := 5) (o2 o); have bfo := fun o i => frozen_obj (i := i) (o2 o); have q0o := fun o => cO (i := 0) (o3 o); have q1o := fun o => cO (i := 1) (o3 o); have q2o := fun o => cO (i := 2) (o3 o); have q3o := fun o => cO (i := 3) (o3 o); have q4o := fun o => cO (i := 4) (o3 o); have q5o := fun o => cO (i := 5) (o3 o); simp only [gA, gB, gC] at a0o a1o a2o a3o a4o b0o b1o b2o b3o b4o b5o q0o q1o q2o q3o q4o q5o; clear o1 o2 o3)
      go_wp2_with fail
      refine (p_zerosE x true true false s6 _ hs6).mono ?_
      rintro e w5 ⟨rfl, rfl⟩
      go_wp2_with fail
      all_goals
       (have hsf := HSF.out; generalize hF : (World.setCell (World.setCell (World.setCell (World.setCell (World.setCell (World.setCell (World.alloc wc (.cells #[.int .u8 x.op, .int .u8 x.dst, .int .u8 x.src, .int .i16 x.off, .int .i32 x.imm] 58)) ⟨w.heap.size + 1, 0, none⟩ (.int .u8 11)) ⟨w.heap.size + 1, 1, none⟩ (.int .u8 0)) ⟨w.heap.size + 1, 2, none⟩ (.bool false)) ⟨w.heap.size + 1, 3, none⟩ (.bool false)) ⟨w.heap.size + 1, 4, none⟩ (.bool false)) ⟨w.heap.size + 1, 5, none⟩ (.int .i64 0)) = wF at hsf ⊢; obtain ⟨hs, he⟩ := hsf; clear hF; (try simp only [Exit.then]); (repeat (first | go_skip | go_step)); have r0 := cO (i := 0) hs; have r1 := cO (i := 1) hs; have r2 := cO (i := 2) hs; have r3 := cO (i := 3) hs; have r4 := cO (i := 4) hs; have r5 := cO (i := 5) hs; simp only [gA, gB, gC] at r0 r1 r2 r3 r4 r5; refine bodyPost_ret (by simp [results, Tryz.results118, go_sem, r0, r1, r2, r3, r4, r5]; try rfl) rfl ?_)
       exact ⟨⟨11, 0, false, false, false, 0⟩, s6, rfl, HR.out, by (repeat (first|exact xE0 _|assumption|refine xE1 ?_ _|refine xE2 ?_|refine xE3 ?_ _|refine xE4 ?_ (by assumption)))⟩
    | false =>
     cases k8 with
     | true =>
      cases zd with
      | false =>
       have HSF := η (set6 HO2.out HE.out (Nat.le_succ _) 12 0 false false false 0)
       go_wp2_with fail
       all_goals
        (have hsf := HSF.out; generalize hF : (World.setCell (World.setCell (World.setCell (World.setCell (World.setCell (World.setCell wc ⟨w.heap.size + 1, 0, none⟩ (.int .u8 12)) ⟨w.heap.size + 1, 1, none⟩ (.int .u8 0)) ⟨w.heap.size + 1, 2, none⟩ (.bool false)) ⟨w.heap.size + 1, 3, none⟩ (.bool false)) ⟨w.heap.size + 1, 4, none⟩ (.bool false)) ⟨w.heap.size + 1, 5, none⟩ (.int .i64 0)) = wF at hsf ⊢; obtain ⟨hs, he⟩ := hsf; clear hF; (try simp only [Exit.then]); (repeat (first | go_skip | go_step)); have r0 := cO (i := 0) hs; have r1 := cO (i := 1) hs; have r2 := cO (i := 2) hs; have r3 := cO (i := 3) hs; have r4 := cO (i := 4) hs; have r5 := cO (i := 5) hs; simp only [gA, gB, gC] at r0 r1 r2 r3 r4 r5; refine bodyPost_ret (by simp [results, Tryz.results118, go_sem, r0, r1, r2, r3, r4, r5]; try rfl) rfl ?_)
        exact ⟨⟨12, 0, false, false, false, 0⟩, false, rfl, HR.out, by (repeat (first|exact xE0 _|assumption|refine xE1 ?_ _|refine xE2 ?_|refine xE3 ?_ _|refine xE4 ?_ (by assumption)))⟩
      | true =>
       have HSF := η (set6 (obj_old (.cells #[.int .u8 x.op, .int .u8 x.dst, .int .u8 x.src, .int .i16 x.off, .int .i32 x.imm] 58) HO2.out) (HE.out.alloc' _) (Nat.le_succ _) 12 0 false false false 0)
       (have o1 := fun o => obj_old o HO1.out; have o2 := fun o => obj_old o HO2.out; have o3 := fun o => obj_old o HO3.out; have a0o := fun o => cO (i := 0) (o1 o); have a1o := fun o => cO (i := 1) (o1 o); have a2o := fun o => cO (i := 2) (o1 o); have a3o := fun o => cO (i := 3) (o1 o); have a4o := fun o => cO (i := 4) (o1 o); have b0o := fun o => cO (i := 0) (o2 o); have b1o := fun o => cO (i := 1) (o2 o); have b2o := fun o => cO (i := 2) (o2 o); have b3o := fun o => cO (i := 3) (o2 o); have b4o := fun o => cO (i := 4) (o2 o); have b5o := fun o => cO (i := 5) (o2 o); have bfo := fun o i => frozen_obj (i := i) (o2 o); have q0o := fun o => cO (i := 0) (o3 o); have q1o := fun o => cO (i := 1) (o3 o); have q2o := fun o => cO (i := 2) (o3 o); have q3o := fun o => cO (i := 3) (o3 o); have q4o := fun o => cO (i := 4) (o3 o); have q5o := fun o => cO (i := 5) (o3 o); simp only [gA, gB, gC] at a0o a1o a2o a3o a4o b0o b1o b2o b3o b4o b5o q0o q1o q2o q3o q4o q5o; clear o1 o2 o3)
       go_wp2_with fail
       refine (p_zerosE x true true true s8 _ hs8).mono ?_
       rintro e w5 ⟨rfl, rfl⟩
       go_wp2_with fail
       all_goals
        (have hsf := HSF.out; generalize hF : (World.setCell (World.setCell (World.setCell (World.setCell (World.setCell (World.setCell (World.alloc wc (.cells #[.int .u8 x.op, .int .u8 x.dst, .int .u8 x.src, .int .i16 x.off, .int .i32 x.imm] 58)) ⟨w.heap.size + 1, 0, none⟩ (.int .u8 12)) ⟨w.heap.size + 1, 1, none⟩ (.int .u8 0)) ⟨w.heap.size + 1, 2, none⟩ (.bool false)) ⟨w.heap.size + 1, 3, none⟩ (.bool false)) ⟨w.heap.size + 1, 4, none⟩ (.bool false)) ⟨w.heap.size + 1, 5, none⟩ (.int .i64 0)) = wF at hsf ⊢; obtain ⟨hs, he⟩ := hsf; clear hF; (try simp only [Exit.then]); (repeat (first | go_skip | go_step)); have r0 := cO (i := 0) hs; have r1 := cO (i := 1) hs; have r2 := cO (i := 2) hs; have r3 := cO (i := 3) hs; have r4 := cO (i := 4) hs; have r5 := cO (i := 5) hs; simp only [gA, gB, gC] at r0 r1 r2 r3 r4 r5; refine bodyPost_ret (by simp [results, Tryz.results118, go_sem, r0, r1, r2, r3, r4, r5]; try rfl) rfl ?_)
        exact ⟨⟨12, 0, false, false, false, 0⟩, s8, rfl, HR.out, by (repeat (first|exact xE0 _|assumption|refine xE1 ?_ _|refine xE2 ?_|refine xE3 ?_ _|refine xE4 ?_ (by assumption)))⟩
     | false =>
      go_upto_if 66 with fail
      go_cut [66] (fun v wx => v = .bool (g11 h) ∧ wx = wc)
      case first =>
       go_wp2_with fail
       all_goals
        go_meet
        exact ⟨by simp only [g11, *, Bool.or_false, Bool.false_or, Bool.true_or, Bool.or_true], rfl⟩
      case rest =>
       obtain ⟨rfl, rfl⟩ := hcut
       have HQ := HW.out.2.2.2.2
       cases hg : g11 h with
       | true =>
        have HG := η hg
        clear hg
        go_upto_region 22 with fail
        (obtain ⟨W1, hE1, hB1, hO1, hS1⟩ := six_world HO2.out HE.out (Nat.le_succ _) (10) (h) (wd) (rg) (false) (0); have X1 := η (keep_ob hO1 HO1.out (by omega)); have X3 := η (keep_ob hO1 HO3.out (by omega)); clear hO1; have HS1 := η hS1; clear hS1; have HB1 := η hB1; clear hB1; refine wp_region_one_store2 8 W1 (by kernel_rfl) (by kernel_rfl) rfl rfl rfl (by kernel_rfl) ?_; apply Exists.intro; apply Exists.intro; refine ⟨fun W hW => ?_, rfl, fun nn => ?_, fun W hW => ?_, fun nn => ?_⟩; { have aZ := fun n : Grow W => n.ext.obj (X1.out W hW); have a0 := fun n : Grow W => cO (i := 0) (aZ n); have a1 := fun n : Grow W => cO (i := 1) (aZ n); have a2 := fun n : Grow W => cO (i := 2) (aZ n); have a3 := fun n : Grow W => cO (i := 3) (aZ n); have a4 := fun n : Grow W => cO (i := 4) (aZ n); simp only [gA, gB, gC] at a0 a1 a2 a3 a4; clear aZ; have qZ := fun n : Grow W => n.ext.obj (X3.out W hW); have q0 := fun n : Grow W => cO (i := 0) (qZ n); have q1 := fun n : Grow W => cO (i := 1) (qZ n); have q2 := fun n : Grow W => cO (i := 2) (qZ n); have q3 := fun n : Grow W => cO (i := 3) (qZ n); have q4 := fun n : Grow W => cO (i := 4) (qZ n); have q5 := fun n : Grow W => cO (i := 5) (qZ n); simp only [gA, gB, gC] at q0 q1 q2 q3 q4 q5; clear qZ; simp only [List.take_succ_cons, List.take_zero]; (repeat (go_big_quiet_step (exact Calls.grow1 (p_zerosE x (!rg) false rg _ _ hsb)))); exact wpQuiet_nil rfl }; { have O2 := nn.ext.obj HO2.out; have b0 := cO (i := 0) O2; have b1 := cO (i := 1) O2; have b2 := cO (i := 2) O2; have b3 := cO (i := 3) O2; have b4 := cO (i := 4) O2; have b5 := cO (i := 5) O2; have bf := fun i => frozen_obj (i := i) O2; simp only [gA, gB, gC] at b0 b1 b2 b3 b4 b5; clear O2; go_simp; exact HS1.out nn }; { simp only [List.drop_succ_cons, List.drop_zero]; (repeat (go_big_quiet_step (fail))); exact wpQuiet_nil rfl }; have hs := nn.ext.obj HB1.out; have r0 := cO (i := 0) hs; have r1 := cO (i := 1) hs; have r2 := cO (i := 2) hs; have r3 := cO (i := 3) hs; have r4 := cO (i := 4) hs; have r5 := cO (i := 5) hs; simp only [gA, gB, gC] at r0 r1 r2 r3 r4 r5; (try simp only [Exit.then]); (repeat (first | go_skip | go_step)); refine bodyPost_ret (by simp [results, Tryz.results118, go_sem, r0, r1, r2, r3, r4, r5]; try rfl) rfl ?_)
        exact ⟨⟨10, h, wd, rg, false, 0⟩, _, rfl, by rw [HR.out, HG.out]; rfl, hE1.trans' nn.ext⟩
       | false =>
        have HG := η hg
        clear hg
        have HSF := η (set6 HO2.out HE.out (Nat.le_succ _) 10 h wd rg false 0)
        go_wp2_with fail
        all_goals
         (have hsf := HSF.out; generalize hF : (World.setCell (World.setCell (World.setCell (World.setCell (World.setCell (World.setCell wc ⟨w.heap.size + 1, 0, none⟩ (.int .u8 10)) ⟨w.heap.size + 1, 1, none⟩ (.int .u8 h)) ⟨w.heap.size + 1, 2, none⟩ (.bool wd)) ⟨w.heap.size + 1, 3, none⟩ (.bool rg)) ⟨w.heap.size + 1, 4, none⟩ (.bool false)) ⟨w.heap.size + 1, 5, none⟩ (.int .i64 0)) = wF at hsf ⊢; obtain ⟨hs, he⟩ := hsf; clear hF; (try simp only [Exit.then]); (repeat (first | go_skip | go_step)); have r0 := cO (i := 0) hs; have r1 := cO (i := 1) hs; have r2 := cO (i := 2) hs; have r3 := cO (i := 3) hs; have r4 := cO (i := 4) hs; have r5 := cO (i := 5) hs; simp only [gA, gB, gC] at r0 r1 r2 r3 r4 r5; refine bodyPost_ret (by simp [results, Tryz.results118, go_sem, r0, r1, r2, r3, r4, r5]; try rfl) rfl ?_)
         exact ⟨⟨10, h, wd, rg, false, 0⟩, false, rfl, by rw [HR.out, HG.out]; rfl, by (repeat (first|exact xE0 _|assumption|refine xE1 ?_ _|refine xE2 ?_|refine xE3 ?_ _|refine xE4 ?_ (by assumption)))⟩
end Go.Proofs.YtppefchjoodgnaaGreat
