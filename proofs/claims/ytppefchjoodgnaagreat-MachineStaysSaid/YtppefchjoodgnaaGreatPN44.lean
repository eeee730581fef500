/- What the claim leans on: Mstay. -/
import Derived.Test.YtppefchjoodgnaaGreatPN41
namespace Go.Proofs.YtppefchjoodgnaaGreat
open Go.RowKit
set_option linter.unusedVariables false
set_option linter.unusedSimpArgs false
theorem st_reg10 {F0 Z0 : List Nat} {wf w : World} {base mb : Nat} {σ : RS} {ds : List Int} (h : PS F0 Z0 wf base w mb σ) (s : StayI ds σ) : Calls Tryz.prog 28 #[.pointer (some ⟨mb, 0, none⟩), .int .i64 10] w (fun e w' => e = .returned (.tuple #[.int .u64 8589935104, .bool true]) ∧ Ext w w') := by
 obtain ⟨T, -, r⟩ := h
 refine (show Calls Tryz.prog 28 #[.pointer (some ⟨mb, 0, none⟩), .int .i64 10] w _ from p_Reg r 10 (by decide)).mono ?_
 rintro e w' ⟨rfl, hE⟩
 refine ⟨?_, hE⟩
 rw [show (σ.vt T).R 10 = 8589935104 from s.r10, show (σ.vt T).S 10 = true from s.s10]
theorem cntD_take {cs : List Cl} {j : Nat} {c : Cl} (h : cs[j]? = some c) : cntD (cs.take (j + 1)) = cntD (cs.take j) + (if isD c.id then 1 else 0) := by
 rw [List.take_add_one, h, cntD_app]
 rfl
theorem bytes_beq (s : ByteArray) : (s == s) = true := by simp
set_option maxRecDepth 20000 in
set_option maxHeartbeats 8000000 in
theorem mstays_any (v cv dv iv rv : Value) (L0 : List Ins) (e0 : EnvD) (rows : List SV) (n2 : Int) (w : World) (h : Rd w 5 Ins.enc v L0) (hok0 : InsOk L0) (he : EnvR w e0 cv dv iv rv rows) (hu : U64s e0.draws) (r2 : 0 ≤ n2 ∧ n2 ≤ 65535) : Calls Tryz.prog 7 #[v, .agg #[cv, dv, iv, rv], .int .u16 n2] w fun e w' => e = .returned (.bool true) ∧ Ext w w' := by
 obtain ⟨ca, cn, cc, rfl, -, -⟩ := he.ctx.val
 obtain ⟨da, dn, dc, rfl, -, -⟩ := he.defs.val
 obtain ⟨ia, inn, ic, rfl, -, -⟩ := he.rowsR.val
 obtain ⟨ra, rn, rc, rfl, -, -⟩ := he.draws.val
 have HFR := η (front h hok0 he)
 have HOK := η (ins_take hok0).1
 have HU := η (envS_u64 hu)
 have HDS := η (envS_small e0)
 have HU8 := η (And.intro (fun x hx => he.u8 x (List.mem_of_mem_take hx) : ∀ x ∈ (envS e0).ctx, 0 ≤ x ∧ x ≤ 255) (envS_ib he.ib))
 obtain ⟨L, hL⟩ : ∃ L, L0.take 520 = L := ⟨_, rfl⟩
 obtain ⟨E, hE⟩ : ∃ E, envS e0 = E := ⟨_, rfl⟩
 rw [hL, hE] at HFR
 rw [hL] at HOK
 rw [hE] at HU HDS HU8
 clear h hok0 he hu hL hE
 cases hσ0 : RS.new L E with
 | none =>
  have hσ := η hσ0
  clear hσ0
  go_enter Tryz.func7, Tryz.ntmps7
  go_wp2_with fail
  have HBX0 := η (obj_top w (envObj (.slice ca cn cc) (.slice da dn dc) (.slice ia inn ic) (.slice ra rn rc)) rfl)
  have HX0 : Hid (Ext w (w.alloc (envObj (.slice ca cn cc) (.slice da dn dc) (.slice ia inn ic) (.slice ra rn rc)))) := η (by (repeat (first|exact xE0 _|assumption|refine xE1 ?_ _|refine xE2 ?_|refine xE3 ?_ _|refine xE4 ?_ (by assumption))))
  refine (l11_shown _).mono ?_
  rintro e w1 ⟨rfl, hE⟩
  have HX1 := η (HX0.out.trans' hE)
  have HBX := η (hE.obj HBX0.out)
  clear hE HBX0 HX0
  (have b0 := cO (i := 0) (HBX.out); have b1 := cO (i := 1) (HBX.out); have b2 := cO (i := 2) (HBX.out); have b3 := cO (i := 3) (HBX.out); have bf := fun i => frozen_obj (i := i) (HBX.out); simp only [gA, gB, gC] at b0 b1 b2 b3)
  go_wp2_with fail
  clear b0 b1 b2 b3 bf
  refine (HFR.out.env _ HX1.out).mono ?_
  rintro e w2 ⟨ve1, ve2, ve3, ve4, rowsE, rfl, hRE, hEE⟩
  obtain ⟨xa, xn, xc, rfl, -, -⟩ := hRE.ctx.val
  obtain ⟨ya, yn, yc, rfl, -, hYN⟩ := hRE.defs.val
  obtain ⟨za, zn, zc, rfl, -, -⟩ := hRE.rowsR.val
  obtain ⟨ta, tn, tc, rfl, htn, hTN⟩ := hRE.draws.val
  have HX2 := η (HX1.out.trans' hEE)
  have HE0 := η hRE
  clear hRE hEE HX1 HBX
  go_upto_region 3 with fail
  obtain ⟨wA, hwA⟩ : ∃ u, w2.alloc (envObj (.slice xa xn xc) (.slice ya yn yc) (.slice za zn zc) (.slice ta tn tc)) = u := ⟨_, rfl⟩
  have hEA : Ext w2 wA := by rw [← hwA]; (repeat (first|exact xE0 _|assumption|refine xE1 ?_ _|refine xE2 ?_|refine xE3 ?_ _|refine xE4 ?_ (by assumption)))
  have hbx : wA.heap[w2.heap.size]? = some (envObj (.slice xa xn xc) (.slice ya yn yc) (.slice za zn zc) (.slice ta tn tc)) := by rw [← hwA]; exact obj_top _ _ rfl
  rw [hwA]
  clear hwA
  have HER := η (HE0.out.ext hEA)
  have HBX := η hbx
  have HX3 := η (HX2.out.trans' hEA)
  clear HX2 HE0 hEA hbx
  have HX2 := HX3
  clear HX3
  have hstr := HER.out.ctx.run_str (P := Tryz.prog) Tryz.underlying23 Tryz.underlying5 Tryz.underlying9
  have b0 := cO (i := 0) HBX.out
  simp only [gA, gB, gC] at b0
  go_upto_region 4 with fail
  clear b0 hstr
  have HS3 : Hid (∀ w' : World, Ext wA w' → w'.cell? ⟨w2.heap.size, 0, none⟩ = some (.slice xa xn xc) ∧ w'.cell? ⟨w2.heap.size, 1, none⟩ = some (.slice ya yn yc) ∧ w'.cell? ⟨w2.heap.size, 2, none⟩ = some (.slice za zn zc) ∧ w'.cell? ⟨w2.heap.size, 3, none⟩ = some (.slice ta tn tc)) := η (fun w' he => by have b0 := cO (i := 0) (he.obj HBX.out); have b1 := cO (i := 1) (he.obj HBX.out); have b2 := cO (i := 2) (he.obj HBX.out); have b3 := cO (i := 3) (he.obj HBX.out); simp only [gA, gB, gC] at b0 b1 b2 b3; exact ⟨b0, b1, b2, b3⟩)
  go_cut [10, 11] from 24 to 31 (fun vm vf wx => vm = .pointer none ∧ vf = .int .i64 1 ∧ Hid (Ext wA wx))
  case first =>
   obtain ⟨b0, b1, b2, b3⟩ := HS3.out wA (Ext.rfl' _)
   go_region_held3 (fun w' => w'.cell? ⟨w2.heap.size, 0, none⟩ = some (.slice xa xn xc) ∧ w'.cell? ⟨w2.heap.size, 1, none⟩ = some (.slice ya yn yc) ∧ w'.cell? ⟨w2.heap.size, 2, none⟩ = some (.slice za zn zc) ∧ w'.cell? ⟨w2.heap.size, 3, none⟩ = some (.slice ta tn tc))
    ((refine HS3.out _ ?_; (repeat (first|exact xE0 _|assumption|refine xE1 ?_ _|refine xE2 ?_|refine xE3 ?_ _|refine xE4 ?_ (by assumption)))))
    ((first
     | (go_at_call 23; refine (HFR.out.few _ (Ext.trans' HX2.out (by (repeat (first|exact xE0 _|assumption|refine xE1 ?_ _|refine xE2 ?_|refine xE3 ?_ _|refine xE4 ?_ (by assumption)))))).mono ?_; rintro e wF ⟨vF, rfl, hRF, hEF⟩; have HRF := η hRF; have hxF : Ext wA wF := (by (repeat (first|exact xE0 _|assumption|refine xE1 ?_ _|refine xE2 ?_|refine xE3 ?_ _|refine xE4 ?_ (by assumption)))); clear hRF)
     | (go_at_call 22; refine (HFR.out.new _ _ _ _ _ _ _ (HRF.out.ext (by (repeat (first|exact xE0 _|assumption|refine xE1 ?_ _|refine xE2 ?_|refine xE3 ?_ _|refine xE4 ?_ (by assumption))))) (HER.out.ext (by (repeat (first|exact xE0 _|assumption|refine xE1 ?_ _|refine xE2 ?_|refine xE3 ?_ _|refine xE4 ?_ (by assumption)))))).mono ?_; rintro e wN hN; rw [hσ.out] at hN; obtain ⟨rfl, hN⟩ := hN; have hxN : Ext wA wN := (by (repeat (first|exact xE0 _|assumption|refine xE1 ?_ _|refine xE2 ?_|refine xE3 ?_ _|refine xE4 ?_ (by assumption)))); clear hN)))
   all_goals
    go_wp2_with fail
    go_meet
    exact ⟨rfl, rfl, η (by (repeat (first|exact xE0 _|assumption|refine xE1 ?_ _|refine xE2 ?_|refine xE3 ?_ _|refine xE4 ?_ (by assumption))))⟩
  case rest =>
   obtain ⟨rfl, rfl, HC⟩ := hcut
   go_wp2_with fail
   go_returns
   exact ⟨rfl, HX2.out.trans' HC.out⟩
 | some σ =>
  have hσ := η hσ0
  have HNF := η (new_facts hσ0 HOK.out HU.out HDS.out.1 HU8.out.1 HU8.out.2)
  clear hσ0
  go_enter Tryz.func7, Tryz.ntmps7
  go_wp2_with fail
  have HBX0 := η (obj_top w (envObj (.slice ca cn cc) (.slice da dn dc) (.slice ia inn ic) (.slice ra rn rc)) rfl)
  have HX0 : Hid (Ext w (w.alloc (envObj (.slice ca cn cc) (.slice da dn dc) (.slice ia inn ic) (.slice ra rn rc)))) := η (by (repeat (first|exact xE0 _|assumption|refine xE1 ?_ _|refine xE2 ?_|refine xE3 ?_ _|refine xE4 ?_ (by assumption))))
  refine (l11_shown _).mono ?_
  rintro e w1 ⟨rfl, hE⟩
  have HX1 := η (HX0.out.trans' hE)
  have HBX := η (hE.obj HBX0.out)
  clear hE HBX0 HX0
  (have b0 := cO (i := 0) (HBX.out); have b1 := cO (i := 1) (HBX.out); have b2 := cO (i := 2) (HBX.out); have b3 := cO (i := 3) (HBX.out); have bf := fun i => frozen_obj (i := i) (HBX.out); simp only [gA, gB, gC] at b0 b1 b2 b3)
  go_wp2_with fail
  clear b0 b1 b2 b3 bf
  refine (HFR.out.env _ HX1.out).mono ?_
  rintro e w2 ⟨ve1, ve2, ve3, ve4, rowsE, rfl, hRE, hEE⟩
  obtain ⟨xa, xn, xc, rfl, -, -⟩ := hRE.ctx.val
  obtain ⟨ya, yn, yc, rfl, -, hYN⟩ := hRE.defs.val
  obtain ⟨za, zn, zc, rfl, -, -⟩ := hRE.rowsR.val
  obtain ⟨ta, tn, tc, rfl, htn, hTN⟩ := hRE.draws.val
  have HX2 := η (HX1.out.trans' hEE)
  have HE0 := η hRE
  clear hRE hEE HX1 HBX
  go_upto_region 3 with fail
  obtain ⟨wA, hwA⟩ : ∃ u, w2.alloc (envObj (.slice xa xn xc) (.slice ya yn yc) (.slice za zn zc) (.slice ta tn tc)) = u := ⟨_, rfl⟩
  have hEA : Ext w2 wA := by rw [← hwA]; (repeat (first|exact xE0 _|assumption|refine xE1 ?_ _|refine xE2 ?_|refine xE3 ?_ _|refine xE4 ?_ (by assumption)))
  have hbx : wA.heap[w2.heap.size]? = some (envObj (.slice xa xn xc) (.slice ya yn yc) (.slice za zn zc) (.slice ta tn tc)) := by rw [← hwA]; exact obj_top _ _ rfl
  rw [hwA]
  clear hwA
  have HER := η (HE0.out.ext hEA)
  have HBX := η hbx
  have HX3 := η (HX2.out.trans' hEA)
  clear HX2 HE0 hEA hbx
  have HX2 := HX3
  clear HX3
  have hstr := HER.out.ctx.run_str (P := Tryz.prog) Tryz.underlying23 Tryz.underlying5 Tryz.underlying9
  have HST := η (fun W (he : Ext wA W) => (HER.out.ctx.ext he).run_str (P := Tryz.prog) Tryz.underlying23 Tryz.underlying5 Tryz.underlying9)
  generalize strOfNums E.ctx = sk at hstr HST
  have b0 := cO (i := 0) HBX.out
  simp only [gA, gB, gC] at b0
  go_upto_region 4 with fail
  clear b0 hstr
  have HS3 : Hid (∀ w' : World, Ext wA w' → w'.cell? ⟨w2.heap.size, 0, none⟩ = some (.slice xa xn xc) ∧ w'.cell? ⟨w2.heap.size, 1, none⟩ = some (.slice ya yn yc) ∧ w'.cell? ⟨w2.heap.size, 2, none⟩ = some (.slice za zn zc) ∧ w'.cell? ⟨w2.heap.size, 3, none⟩ = some (.slice ta tn tc)) := η (fun w' he => by have b0 := cO (i := 0) (he.obj HBX.out); have b1 := cO (i := 1) (he.obj HBX.out); have b2 := cO (i := 2) (he.obj HBX.out); have b3 := cO (i := 3) (he.obj HBX.out); simp only [gA, gB, gC] at b0 b1 b2 b3; exact ⟨b0, b1, b2, b3⟩)
  go_cut [10, 11] from 24 to 31 (fun vm vf wx => ∃ mb, vm = .pointer (some ⟨mb, 0, none⟩) ∧ vf = .int .i64 0 ∧ Hid (∃ wB, Ext wA wB ∧ PS [] [] wB wB.heap.size wx mb σ))
  case first =>
   obtain ⟨b0, b1, b2, b3⟩ := HS3.out wA (Ext.rfl' _)
   go_region_held3 (fun w' => w'.cell? ⟨w2.heap.size, 0, none⟩ = some (.slice xa xn xc) ∧ w'.cell? ⟨w2.heap.size, 1, none⟩ = some (.slice ya yn yc) ∧ w'.cell? ⟨w2.heap.size, 2, none⟩ = some (.slice za zn zc) ∧ w'.cell? ⟨w2.heap.size, 3, none⟩ = some (.slice ta tn tc))
    ((refine HS3.out _ ?_; (repeat (first|exact xE0 _|assumption|refine xE1 ?_ _|refine xE2 ?_|refine xE3 ?_ _|refine xE4 ?_ (by assumption)))))
    ((first
     | (go_at_call 23; refine (HFR.out.few _ (Ext.trans' HX2.out (by (repeat (first|exact xE0 _|assumption|refine xE1 ?_ _|refine xE2 ?_|refine xE3 ?_ _|refine xE4 ?_ (by assumption)))))).mono ?_; rintro e wF ⟨vF, rfl, hRF, hEF⟩; have HRF := η hRF; have hxF : Ext wA wF := (by (repeat (first|exact xE0 _|assumption|refine xE1 ?_ _|refine xE2 ?_|refine xE3 ?_ _|refine xE4 ?_ (by assumption)))); clear hRF)
     | (go_at_call 22; refine (HFR.out.new _ _ _ _ _ _ _ (HRF.out.ext (by (repeat (first|exact xE0 _|assumption|refine xE1 ?_ _|refine xE2 ?_|refine xE3 ?_ _|refine xE4 ?_ (by assumption))))) (HER.out.ext (by (repeat (first|exact xE0 _|assumption|refine xE1 ?_ _|refine xE2 ?_|refine xE3 ?_ _|refine xE4 ?_ (by assumption)))))).mono ?_; rintro e wN hN; rw [hσ.out] at hN; obtain ⟨mb, rfl, hN⟩ := hN; have HN := η hN; have hxN : Ext wA wN := (by refine Ext.trans' ?_ (hN.keep.ext (fun _ h => by cases h)); (repeat (first|exact xE0 _|assumption|refine xE1 ?_ _|refine xE2 ?_|refine xE3 ?_ _|refine xE4 ?_ (by assumption)))); clear hN)))
   all_goals
    go_wp2_with fail
    go_meet
    exact ⟨_, rfl, rfl, η ⟨_, by (repeat (first|exact xE0 _|assumption|refine xE1 ?_ _|refine xE2 ?_|refine xE3 ?_ _|refine xE4 ?_ (by assumption))), HN.out⟩⟩
  case rest =>
   obtain ⟨mb, rfl, rfl, HC⟩ := hcut
   obtain ⟨wB, hE1, hP⟩ := HC.out
   have HPS := η hP
   have HEB := η hE1
   clear hE1 hP HC HS3
   obtain ⟨n, hn⟩ : ∃ n : Int, n2.tmod 1001 = n := ⟨_, rfl⟩
   have hn0 : 0 ≤ n ∧ n ≤ 1000 := by rw [← hn, Int.tmod_eq_emod_of_nonneg r2.1]; omega
   have hnm : n ≤ 1000000 := by omega
   have HSTAY := η (HNF.out.stay.run HU.out HNF.out.inv HNF.out.u8 n)
   obtain ⟨-, -, -, hDD⟩ := run_inv HNF.out.inv HNF.out.u8 n
   have HDL : Hid ((σ.run n).D.length = E.defs.length) := η (by rw [hDD, HNF.out.D])
   clear hDD
   go_wp2_with fail
   refine (p_Run n HPS.out HNF.out.inv HNF.out.defs HNF.out.sm (by rw [HNF.out.steps]; decide) hnm HNF.out.dl).mono ?_
   rintro e w5 ⟨lo, cv5, mv5, rfl, hR⟩
   obtain ⟨cs, c1, c2, -⟩ := hR.cs
   obtain ⟨rows5, m1, m2, -⟩ := hR.mp
   obtain ⟨pa, pn, pc, rfl, hpn, hPN⟩ := (c1.rd enc_cb).val
   obtain ⟨qa, qn, qc, rfl, -, hQN⟩ := (m1.rd enc_w).val
   have HCS := η (c1.rd enc_cb)
   have HCL := η c2
   have hqn : qn = yn := by rw [hQN.out, hYN.out, m2, HDL.out]
   subst hqn
   have HE5 := η (HEB.out.trans' (hR.keep.ext (fun _ h => by cases h)))
   have HP5 := η (hR.ps (Nat.le_refl _))
   have hr0 : (σ.run n).endV.code = 0 ∨ (σ.run n).endV.r0 = 0 := by
    by_cases h0 : (σ.run n).endV.code = 0
    ·exact .inl h0
    ·exact .inr (show (if (σ.run n).codeV = 0 then (σ.run n).R 0 else 0) = 0 from if_neg h0)
   generalize (σ.run n).endV.code = ec at hr0 ⊢
   generalize (σ.run n).endV.r0 = er at hr0 ⊢
   generalize (σ.run n).endV.at_ = ea
   generalize (σ.run n).endV.steps = es
   clear c1 c2 m1 m2 hR HPS HEB
   go_upto_region 8 with fail
   obtain ⟨w6, hw6⟩ : ∃ u, w5.alloc (endOb ec ea er es (.slice pa pn pc) (.slice qa qn qc)) = u := ⟨_, rfl⟩
   have hE6 : Ext w5 w6 := by rw [← hw6]; (repeat (first|exact xE0 _|assumption|refine xE1 ?_ _|refine xE2 ?_|refine xE3 ?_ _|refine xE4 ?_ (by assumption)))
   have ho6 : w6.heap[w5.heap.size]? = some (endOb ec ea er es (.slice pa pn pc) (.slice qa qn qc)) := by rw [← hw6]; exact obj_top _ _ rfl
   rw [hw6]
   clear hw6
   obtain ⟨T6, vr6, pr6⟩ := HP5.out
   have HP6 := η (⟨T6, vr6, pr6.go hE6⟩ : PS [] [] wB wB.heap.size w6 mb (σ.run n))
   clear vr6 pr6
   have HO6 := η ho6
   have HE6 := η (HE5.out.trans' hE6)
   have HC6 := η (HCS.out.ext hE6)
   clear hE6 ho6 HE5 HP5 HCS
   go_wp2_with fail
   refine (st_reg10 HP6.out HSTAY.out).mono ?_
   rintro e w7 ⟨rfl, hE7⟩
   have HE7 := η (HE6.out.trans' hE7)
   have HO7 := η (hE7.obj HO6.out)
   have HC7 := η (HC6.out.ext hE7)
   clear hE7 HE6 HO6 HC6 HP6
   (have b0 := cO (i := 0) (HO7.out); have b1 := cO (i := 1) (HO7.out); have b2 := cO (i := 2) (HO7.out); have b3 := cO (i := 3) (HO7.out); have b4 := cO (i := 4) (HO7.out); have b5 := cO (i := 5) (HO7.out); have bf := fun i => frozen_obj (i := i) (HO7.out); simp only [gA, gB, gC] at b0 b1 b2 b3 b4 b5)
   go_wp2_with fail
   clear b0 b1 b2 b3 b4 b5 bf
   go_loopw [15, 51] (fun d i wr => ∃ j : Nat, j ≤ pn ∧ i = .int .i64 j ∧ d = .int .i64 (cntD ((σ.run n).calls.take j) : Nat) ∧ Hid (Ext w7 wr)) (fun _ i _ => pn - (intOf i).toNat)
   case atStart => exact ⟨0, Nat.zero_le _, rfl, rfl, η (Ext.rfl' _)⟩
   case round =>
    obtain ⟨j, hj, rfl, rfl, HW⟩ := hrel
    have HEW := η (HE7.out.trans' HW.out)
    by_cases hlt : (j : Int) < pn
    ·obtain ⟨x, hx⟩ := at_of_lt (xs := cs) (k := j) (by have := hPN.out; omega)
     have ix := fun W => HC7.out.run_at (P := Tryz.prog) el_called.under el_called.size .i64 (j : Int) (by omega) (by omega) W
     obtain ⟨c0, c1, c2, c3, c4, c5⟩ := cb_at (HC7.out.ext HW.out) hx
     simp only [Int.toNat_natCast] at ix
     have hcj : (σ.run n).calls[j]? = some x.c := by rw [← HCL.out, List.getElem?_map, hx]; rfl
     have hnext := cntD_take hcj
     have hdr := HSTAY.out.ok j x.c hcj
     obtain ⟨⟨id, map, key, val, N, ret⟩, ka, kc, va, vc, na, nc⟩ := x
     simp only at c0 c1 c2 c3 c4 c5 hnext hdr
     obtain ⟨q, hq⟩ : ∃ q, cntD ((σ.run n).calls.take j) = q := ⟨_, rfl⟩
     rw [hq] at hdr hnext ⊢
     have HNX := η hnext
     clear hx hcj hnext hq
     go_upto_region 13 with fail
     obtain ⟨wc, hwc⟩ : ∃ u, wr.alloc (cbOb id map (.slice ka key.length kc) (.slice va val.length vc) (.slice na N.length nc) ret) = u := ⟨_, rfl⟩
     have hEc : Ext wr wc := by rw [← hwc]; (repeat (first|exact xE0 _|assumption|refine xE1 ?_ _|refine xE2 ?_|refine xE3 ?_ _|refine xE4 ?_ (by assumption)))
     have o1 : wc.heap[wr.heap.size]? = some (cbOb id map (.slice ka key.length kc) (.slice va val.length vc) (.slice na N.length nc) ret) := by rw [← hwc]; exact obj_top _ _ rfl
     rw [hwc]
     clear hwc ix c0 c1 c2 c3 c4 c5
     have HEC := η (HEW.out.trans' hEc)
     have HW2 := η (HW.out.trans' hEc)
     have b0 := cO (i := 0) o1
     have b5 := cO (i := 5) o1
     have hbx := HEC.out.obj HBX.out
     have d3 := cO (i := 3) hbx
     simp only [gA, gB, gC] at b0 b5 d3
     clear hEc hbx o1
     by_cases h5 : id = 5
     ·subst h5
      obtain ⟨hq, hd⟩ := hdr rfl
      have hd := hd rfl
      have jx := fun W => HER.out.draws.run_at (P := Tryz.prog) el_u64.under el_u64.size .i64 (q : Int) (by omega) (by have := hTN.out; omega) W
      have g1 := (HER.out.draws.ext HEC.out).cell hd (j := 0) rfl
      simp only [Nat.mul_one, Nat.add_zero, Int.toNat_natCast] at jx g1
      have hqt : ¬ (tn ≤ q) := by have := hTN.out; omega
      have hrr : (ret != ret) = false := by simp
      clear hd hdr hq
      go_wp2_with fail
      go_quiet (fail)
      go_wp2_with fail
      go_roundw
      case rel => exact ⟨j + 1, by omega, by go_num, by rw [HNX.out]; go_num, η (HW2.out.trans' (by (repeat (first|exact xE0 _|assumption|refine xE1 ?_ _|refine xE2 ?_|refine xE3 ?_ _|refine xE4 ?_ (by assumption)))))⟩
      case measure => simp [intOf]; omega
     by_cases h7 : id = 7
     ·subst h7
      obtain ⟨hq, -⟩ := hdr rfl
      have hqt : ¬ (tn ≤ q) := by have := hTN.out; omega
      clear hdr hq h5
      go_wp2_with fail
      go_quiet (fail)
      go_wp2_with fail
      go_roundw
      case rel => exact ⟨j + 1, by omega, by go_num, by rw [HNX.out]; go_num, η (HW2.out.trans' (by (repeat (first|exact xE0 _|assumption|refine xE1 ?_ _|refine xE2 ?_|refine xE3 ?_ _|refine xE4 ?_ (by assumption)))))⟩
      case measure => simp [intOf]; omega
     by_cases h8 : id = 8
     ·subst h8
      obtain ⟨hq, -⟩ := hdr rfl
      have hqt : ¬ (tn ≤ q) := by have := hTN.out; omega
      clear hdr hq h5 h7
      go_wp2_with fail
      go_quiet (fail)
      go_wp2_with fail
      go_roundw
      case rel => exact ⟨j + 1, by omega, by go_num, by rw [HNX.out]; go_num, η (HW2.out.trans' (by (repeat (first|exact xE0 _|assumption|refine xE1 ?_ _|refine xE2 ?_|refine xE3 ?_ _|refine xE4 ?_ (by assumption)))))⟩
      case measure => simp [intOf]; omega
     have hb5 : (id == 5) = false := by simpa using h5
     have hb7 : (id == 7) = false := by simpa using h7
     have hb8 : (id == 8) = false := by simpa using h8
     have hnd : isD id = false := by unfold isD; rw [hb5, hb7, hb8]; rfl
     rw [hnd] at HNX
     clear hdr h5 h7 h8 d3 b5 hnd
     go_wp2_with fail
     go_roundw
     case rel => exact ⟨j + 1, by omega, by go_num, by rw [HNX.out]; go_num, η (HW2.out.trans' (by (repeat (first|exact xE0 _|assumption|refine xE1 ?_ _|refine xE2 ?_|refine xE3 ?_ _|refine xE4 ?_ (by assumption)))))⟩
     case measure => simp [intOf]; omega
    ·have hbx := HEW.out.obj HBX.out
     (have d0 := cO (i := 0) (hbx); have d1 := cO (i := 1) (hbx); have d2 := cO (i := 2) (hbx); have d3 := cO (i := 3) (hbx); have df := fun i => frozen_obj (i := i) (hbx); simp only [gA, gB, gC] at d0 d1 d2 d3)
     have hob := HW.out.obj HO7.out
     (have b0 := cO (i := 0) (hob); have b1 := cO (i := 1) (hob); have b2 := cO (i := 2) (hob); have b3 := cO (i := 3) (hob); have b4 := cO (i := 4) (hob); have b5 := cO (i := 5) (hob); have bf := fun i => frozen_obj (i := i) (hob); simp only [gA, gB, gC] at b0 b1 b2 b3 b4 b5)
     have HX9 := η (HX2.out.trans' HEW.out)
     have hsk : (sk == sk) = true := bytes_beq sk
     have s9 := HST.out wr HEW.out
     clear hbx hob HC7 HO7 HBX HCL
     have HAT : Hid (∀ W, Calls Tryz.prog 29 #[.int .i64 2, .int .i64 512] W fun e w' => e = .returned (.int .u64 8589935104) ∧ w' = W) := η (fun W => (mem_at 2 512 W).mono (fun e w' h => ⟨by rw [h.1]; rfl, h.2⟩))
     by_cases h0 : ec = 0
     ·subst h0
      go_wp2_with fail
      refine (HAT.out _).mono ?_
      rintro e w9 ⟨rfl, rfl⟩
      go_wp2_with fail
      go_returns
      exact ⟨rfl, HX9.out⟩
     ·obtain rfl := hr0.resolve_left h0
      have hbc : (ec == 0) = false := by simpa using h0
      clear h0
      go_wp2_with fail
      refine (HAT.out _).mono ?_
      rintro e w9 ⟨rfl, rfl⟩
      go_wp2_with fail
      go_returns
      exact ⟨rfl, HX9.out⟩
end Go.Proofs.YtppefchjoodgnaaGreat
