/- What the claim leans on: Mtwi. -/
import Derived.Test.YtppefchjoodgnaaGreatPN45
namespace Go.Proofs.YtppefchjoodgnaaGreat
open Go.RowKit
set_option linter.unusedVariables false
set_option linter.unusedSimpArgs false
theorem keep_below {F : List Nat} {w0 w u : World} (he : Ext w0 w) (k : Keep F w u) (h : ∀ q ∈ F, w0.heap.size ≤ q) : Ext w0 u := k.below he he.size h
set_option maxRecDepth 20000 in
set_option maxHeartbeats 8000000 in
theorem mtwice_any (v cv dv iv rv : Value) (L0 : List Ins) (e0 : EnvD) (rows : List SV) (n2 : Int) (w : World) (h : Rd w 5 Ins.enc v L0) (hok0 : InsOk L0) (he : EnvR w e0 cv dv iv rv rows) (hu : U64s e0.draws) (r2 : 0 ≤ n2 ∧ n2 ≤ 65535) : Calls Tryz.prog 9 #[v, .agg #[cv, dv, iv, rv], .int .u16 n2] w fun e w' => e = .returned (.bool true) ∧ Ext w w' := by
 obtain ⟨ca, cn, cc, rfl, -, -⟩ := he.ctx.val
 obtain ⟨da, dn, dc, rfl, -, -⟩ := he.defs.val
 obtain ⟨ia, inn, ic, rfl, -, -⟩ := he.rowsR.val
 obtain ⟨ra, rn, rc, rfl, -, -⟩ := he.draws.val
 have HFR := η (front h hok0 he)
 have HOK := η (ins_take hok0).1
 have HLN := η (ins_take hok0).2
 have HU := η (envS_u64 hu)
 have HDS := η (envS_small e0)
 have HCTX : Hid ((envS e0).ctx.length ≤ 100) := η (by show (List.take _ _).length ≤ _; rw [List.length_take]; omega)
 have HU8 := η (And.intro (fun x hx => he.u8 x (List.mem_of_mem_take hx) : ∀ x ∈ (envS e0).ctx, 0 ≤ x ∧ x ≤ 255) (envS_ib he.ib))
 obtain ⟨L, hL⟩ : ∃ L, L0.take 520 = L := ⟨_, rfl⟩
 obtain ⟨E, hE⟩ : ∃ E, envS e0 = E := ⟨_, rfl⟩
 rw [hL, hE] at HFR
 rw [hL] at HOK HLN
 rw [hE] at HU HDS HU8 HCTX
 clear h hok0 he hu hL hE
 cases hσ0 : RS.new L E with
 | none =>
  have hσ := η hσ0
  clear hσ0
  go_enter Tryz.func9, Tryz.ntmps9
  go_wp2_with fail
  have HBX0 := η (obj_top w (envObj (.slice ca cn cc) (.slice da dn dc) (.slice ia inn ic) (.slice ra rn rc)) rfl)
  have HX0 : Hid (Ext w (w.alloc (envObj (.slice ca cn cc) (.slice da dn dc) (.slice ia inn ic) (.slice ra rn rc)))) := η (by (repeat (first|exact xE0 _|assumption|refine xE1 ?_ _|refine xE2 ?_|refine xE3 ?_ _|refine xE4 ?_ (by assumption))))
  refine (l11_shown _).mono ?_
  rintro e w1 ⟨rfl, hE⟩
  have HX1 := η (HX0.out.trans' hE)
  have HBX := η (hE.obj HBX0.out)
  clear hE HBX0 HX0
  (have b0 := cO (i := 0) (HBX.out); have b1 := cO (i := 1) (HBX.out); have b2 := cO (i := 2) (HBX.out); have b3 := cO (i := 3) (HBX.out); have bf := fun i => frozen_obj (i := i) (HBX.out); simp only [gA, gB, gC] at b0 b1 b2 b3)
  go_wp2_with fail
  clear b0 b1 b2 b3 bf
  refine (HFR.out.env _ HX1.out).mono ?_
  rintro e w2 ⟨ve1, ve2, ve3, ve4, rowsE, rfl, hRE, hEE⟩
  obtain ⟨xa, xn, xc, rfl, -, -⟩ := hRE.ctx.val
  obtain ⟨ya, yn, yc, rfl, -, hYN⟩ := hRE.defs.val
  obtain ⟨za, zn, zc, rfl, -, -⟩ := hRE.rowsR.val
  obtain ⟨ta, tn, tc, rfl, htn, hTN⟩ := hRE.draws.val
  have HX2 := η (HX1.out.trans' hEE)
  have HE0 := η hRE
  clear hRE hEE HX1 HBX
  go_upto_region 3 with fail
  obtain ⟨wA, hwA⟩ : ∃ u, w2.alloc (envObj (.slice xa xn xc) (.slice ya yn yc) (.slice za zn zc) (.slice ta tn tc)) = u := ⟨_, rfl⟩
  have hEA : Ext w2 wA := by rw [← hwA]; (repeat (first|exact xE0 _|assumption|refine xE1 ?_ _|refine xE2 ?_|refine xE3 ?_ _|refine xE4 ?_ (by assumption)))
  have hbx : wA.heap[w2.heap.size]? = some (envObj (.slice xa xn xc) (.slice ya yn yc) (.slice za zn zc) (.slice ta tn tc)) := by rw [← hwA]; exact obj_top _ _ rfl
  rw [hwA]
  clear hwA
  have HER := η (HE0.out.ext hEA)
  have HBX := η hbx
  have HX3 := η (HX2.out.trans' hEA)
  clear HX2 HE0 hEA hbx
  have HX2 := HX3
  clear HX3
  have HCB : Hid (E.ctx.length ≤ 100) := HCTX
  have HXA := η HX2.out.size
  have HCX := η HER.out.ctx
  have hcl : E.ctx.length = xn := by obtain ⟨a', n', c', hv, _, hn⟩ := HCX.out.val; cases hv; exact hn.out.symm
  have hxn : xn ≤ 9223372036854775807 := by obtain ⟨a', n', c', hv, hle, hn⟩ := HCX.out.val; cases hv; exact hle
  have b0 := fun o => cO (i := 0) (obj_old o HBX.out)
  simp only [gA, gB, gC] at b0
  go_wp2_with (at_builtin; refine app_own el_u8 (enc_int .u8) rfl _ _ rfl rfl (Own.made wA wA.heap.size _ _ _ rfl (Nat.le_refl _)) rfl (ys := E.ctx) ?q1 ?q2 ?q3 ?q4)
  case q1 => exact HCX.out.ext ((Ext.rfl' _).alloc' _)
  case q2 => exact ⟨by have := HCB.out; simp; omega, by have := HCB.out; simp; omega⟩
  case q3 => simp
  intro v3 w3 hown hgrow hbel
  have hE3 : Ext wA w3 := hbel _ _ ((Ext.rfl' _).alloc' _) (Nat.le_refl _)
  obtain ⟨fa, fn, fc, rfl, hfn, hFN⟩ := (hown.rd (enc_int .u8)).val
  have HF3 := η hown
  have HX3 := η (HX2.out.trans' hE3)
  have HB3 := η (hE3.obj HBX.out)
  have HR3 := η (HER.out.ext hE3)
  clear hown hgrow hbel hE3 b0 HCX
  (have b0 := cO (i := 0) (HB3.out); have b1 := cO (i := 1) (HB3.out); have b2 := cO (i := 2) (HB3.out); have b3 := cO (i := 3) (HB3.out); have bf := fun i => frozen_obj (i := i) (HB3.out); simp only [gA, gB, gC] at b0 b1 b2 b3)
  go_upto_region 6 with fail
  clear b0 b1 b2 b3 bf
  obtain ⟨w4, hw4⟩ : ∃ u, w3.alloc (envObj (.slice fa fn fc) (.slice ya yn yc) (.slice za zn zc) (.slice ta tn tc)) = u := ⟨_, rfl⟩
  have hE4 : Ext w3 w4 := by rw [← hw4]; (repeat (first|exact xE0 _|assumption|refine xE1 ?_ _|refine xE2 ?_|refine xE3 ?_ _|refine xE4 ?_ (by assumption)))
  have hy4 : w4.heap[w3.heap.size]? = some (envObj (.slice fa fn fc) (.slice ya yn yc) (.slice za zn zc) (.slice ta tn tc)) := by rw [← hw4]; exact obj_top _ _ rfl
  rw [hw4]
  clear hw4
  have HX4 := η (HX3.out.trans' hE4)
  have HB4 := η (hE4.obj HB3.out)
  have HR4 := η (HR3.out.ext hE4)
  have HF4 := η (HF3.out.ext hE4)
  have HY4 := η hy4
  have HX40 := η HX4.out.size
  clear hE4 hy4 HX2 HX3 HB3 HR3 HF3 HER HBX
  go_wp2_with fail
  refine (HFR.out.few _ (HX4.out.trans' ((Ext.rfl' _).alloc' _))).mono ?_
  rintro e w5 ⟨vF, rfl, hRF, hEF⟩
  obtain ⟨la, ln, lc, rfl, hln, hLN⟩ := hRF.val
  have HE5 := η ((show Ext w4 _ from ((Ext.rfl' w4).alloc' _)).trans' hEF)
  have HO5 := η ((Own.made w4 w4.heap.size 58 5 Ins.enc rfl (Nat.le_refl _)).ext hEF)
  have HRF := η hRF
  have hs5 := HE5.out.size
  clear hRF hEF
  go_wp2_with (at_builtin; refine app_own el_ins enc_ins rfl _ _ rfl rfl HO5.out rfl (ys := L) ?p1 ?p2 ?p3 ?p4)
  case p1 => exact HRF.out
  case p2 => exact ⟨by have := HLN.out; simp; omega, by have := HLN.out; simp; omega⟩
  case p3 => exact hs5
  intro v6 w6 hown hgrow hbel
  have hE6 : Ext w4 w6 := hbel _ _ HE5.out (Nat.le_refl _)
  obtain ⟨ga, gn, gc, rfl, hgn, hGN⟩ := (hown.rd enc_ins).val
  have HG6 := η (show Own w6 w4.heap.size 58 5 Ins.enc (.slice ga gn gc) L by simpa using hown)
  have HX6 := η (HX4.out.trans' hE6)
  have HB6 := η (hE6.obj HB4.out)
  have HY6 := η (hE6.obj HY4.out)
  have HR6 := η (HR4.out.ext hE6)
  have HF6 := η (show Own w6 wA.heap.size 5 1 (fun x => [Value.int .u8 x]) (.slice fa fn fc) E.ctx by simpa using HF4.out.ext hE6)
  have HF40 := η (show ∀ j ∈ (Value.slice fa fn fc).ownBlock.toList, j < w4.heap.size from fun j hj => (HF4.out.lt (by simpa using hj)).2)
  have HRY : Hid (EnvR w6 E (.slice fa fn fc) (.slice ya yn yc) (.slice za zn zc) (.slice ta tn tc) rowsE) := η { HR6.out with ctx := HF6.out.rd (enc_int .u8) }
  clear hown hgrow hbel hE6 HX4 HB4 HY4 HR4 HF4 HE5 HO5 HRF hs5
  (have b0 := cO (i := 0) (HY6.out); have b1 := cO (i := 1) (HY6.out); have b2 := cO (i := 2) (HY6.out); have b3 := cO (i := 3) (HY6.out); have bf := fun i => frozen_obj (i := i) (HY6.out); simp only [gA, gB, gC] at b0 b1 b2 b3)
  go_wp2_with fail
  refine (HFR.out.new _ _ _ _ _ _ _ (HG6.out.rd enc_ins) HRY.out).mono ?_
  clear b0 b1 b2 b3 bf
  rintro e w7 hN
  rw [hσ.out] at hN
  obtain ⟨rfl, hE7⟩ := hN
  have HX2 := η (HX6.out.trans' hE7)
  have HBX := η (hE7.obj HB6.out)
  have HER := η (HR6.out.ext hE7)
  clear hE7 HX6 HB6 HY6 HR6 HRY
  go_upto_region 8 with fail
  have HS3 : Hid (∀ w' : World, Ext w7 w' → w'.cell? ⟨w2.heap.size, 0, none⟩ = some (.slice xa xn xc) ∧ w'.cell? ⟨w2.heap.size, 1, none⟩ = some (.slice ya yn yc) ∧ w'.cell? ⟨w2.heap.size, 2, none⟩ = some (.slice za zn zc) ∧ w'.cell? ⟨w2.heap.size, 3, none⟩ = some (.slice ta tn tc)) := η (fun w' he => by have b0 := cO (i := 0) (he.obj HBX.out); have b1 := cO (i := 1) (he.obj HBX.out); have b2 := cO (i := 2) (he.obj HBX.out); have b3 := cO (i := 3) (he.obj HBX.out); simp only [gA, gB, gC] at b0 b1 b2 b3; exact ⟨b0, b1, b2, b3⟩)
  go_cut [14, 15] from 43 to 50 (fun vm vf wx => vm = .pointer none ∧ vf = .int .i64 1 ∧ Hid (Ext w7 wx))
  case first =>
   obtain ⟨b0, b1, b2, b3⟩ := HS3.out w7 (Ext.rfl' _)
   go_region_held3 (fun w' => w'.cell? ⟨w2.heap.size, 0, none⟩ = some (.slice xa xn xc) ∧ w'.cell? ⟨w2.heap.size, 1, none⟩ = some (.slice ya yn yc) ∧ w'.cell? ⟨w2.heap.size, 2, none⟩ = some (.slice za zn zc) ∧ w'.cell? ⟨w2.heap.size, 3, none⟩ = some (.slice ta tn tc))
    ((refine HS3.out _ ?_; (repeat (first|exact xE0 _|assumption|refine xE1 ?_ _|refine xE2 ?_|refine xE3 ?_ _|refine xE4 ?_ (by assumption)))))
    ((first
     | (go_at_call 23; refine (HFR.out.few _ (Ext.trans' HX2.out (by (repeat (first|exact xE0 _|assumption|refine xE1 ?_ _|refine xE2 ?_|refine xE3 ?_ _|refine xE4 ?_ (by assumption)))))).mono ?_; rintro e wF ⟨vF, rfl, hRF, hEF⟩; have HRF := η hRF; have hxF : Ext w7 wF := (by (repeat (first|exact xE0 _|assumption|refine xE1 ?_ _|refine xE2 ?_|refine xE3 ?_ _|refine xE4 ?_ (by assumption)))); clear hRF)
     | (go_at_call 22; refine (HFR.out.new _ _ _ _ _ _ _ (HRF.out.ext (by (repeat (first|exact xE0 _|assumption|refine xE1 ?_ _|refine xE2 ?_|refine xE3 ?_ _|refine xE4 ?_ (by assumption))))) (HER.out.ext (by (repeat (first|exact xE0 _|assumption|refine xE1 ?_ _|refine xE2 ?_|refine xE3 ?_ _|refine xE4 ?_ (by assumption)))))).mono ?_; rintro e wN hN; rw [hσ.out] at hN; obtain ⟨rfl, hN⟩ := hN; have hxN : Ext w7 wN := (by (repeat (first|exact xE0 _|assumption|refine xE1 ?_ _|refine xE2 ?_|refine xE3 ?_ _|refine xE4 ?_ (by assumption)))); clear hN)))
   all_goals
    go_wp2_with fail
    go_meet
    exact ⟨rfl, rfl, η (by (repeat (first|exact xE0 _|assumption|refine xE1 ?_ _|refine xE2 ?_|refine xE3 ?_ _|refine xE4 ?_ (by assumption))))⟩
  case rest =>
   obtain ⟨rfl, rfl, HC⟩ := hcut
   go_wp2_with fail
   go_returns
   exact ⟨rfl, HX2.out.trans' HC.out⟩
 | some σ =>
  have hσ := η hσ0
  have HNF := η (new_facts hσ0 HOK.out HU.out HDS.out.1 HU8.out.1 HU8.out.2)
  clear hσ0
  go_enter Tryz.func9, Tryz.ntmps9
  go_wp2_with fail
  have HBX0 := η (obj_top w (envObj (.slice ca cn cc) (.slice da dn dc) (.slice ia inn ic) (.slice ra rn rc)) rfl)
  have HX0 : Hid (Ext w (w.alloc (envObj (.slice ca cn cc) (.slice da dn dc) (.slice ia inn ic) (.slice ra rn rc)))) := η (by (repeat (first|exact xE0 _|assumption|refine xE1 ?_ _|refine xE2 ?_|refine xE3 ?_ _|refine xE4 ?_ (by assumption))))
  refine (l11_shown _).mono ?_
  rintro e w1 ⟨rfl, hE⟩
  have HX1 := η (HX0.out.trans' hE)
  have HBX := η (hE.obj HBX0.out)
  clear hE HBX0 HX0
  (have b0 := cO (i := 0) (HBX.out); have b1 := cO (i := 1) (HBX.out); have b2 := cO (i := 2) (HBX.out); have b3 := cO (i := 3) (HBX.out); have bf := fun i => frozen_obj (i := i) (HBX.out); simp only [gA, gB, gC] at b0 b1 b2 b3)
  go_wp2_with fail
  clear b0 b1 b2 b3 bf
  refine (HFR.out.env _ HX1.out).mono ?_
  rintro e w2 ⟨ve1, ve2, ve3, ve4, rowsE, rfl, hRE, hEE⟩
  obtain ⟨xa, xn, xc, rfl, -, -⟩ := hRE.ctx.val
  obtain ⟨ya, yn, yc, rfl, -, hYN⟩ := hRE.defs.val
  obtain ⟨za, zn, zc, rfl, -, -⟩ := hRE.rowsR.val
  obtain ⟨ta, tn, tc, rfl, htn, hTN⟩ := hRE.draws.val
  have HX2 := η (HX1.out.trans' hEE)
  have HE0 := η hRE
  clear hRE hEE HX1 HBX
  go_upto_region 3 with fail
  obtain ⟨wA, hwA⟩ : ∃ u, w2.alloc (envObj (.slice xa xn xc) (.slice ya yn yc) (.slice za zn zc) (.slice ta tn tc)) = u := ⟨_, rfl⟩
  have hEA : Ext w2 wA := by rw [← hwA]; (repeat (first|exact xE0 _|assumption|refine xE1 ?_ _|refine xE2 ?_|refine xE3 ?_ _|refine xE4 ?_ (by assumption)))
  have hbx : wA.heap[w2.heap.size]? = some (envObj (.slice xa xn xc) (.slice ya yn yc) (.slice za zn zc) (.slice ta tn tc)) := by rw [← hwA]; exact obj_top _ _ rfl
  rw [hwA]
  clear hwA
  have HER := η (HE0.out.ext hEA)
  have HBX := η hbx
  have HX3 := η (HX2.out.trans' hEA)
  clear HX2 HE0 hEA hbx
  have HX2 := HX3
  clear HX3
  have HCB : Hid (E.ctx.length ≤ 100) := HCTX
  have HXA := η HX2.out.size
  have HCX := η HER.out.ctx
  have hcl : E.ctx.length = xn := by obtain ⟨a', n', c', hv, _, hn⟩ := HCX.out.val; cases hv; exact hn.out.symm
  have hxn : xn ≤ 9223372036854775807 := by obtain ⟨a', n', c', hv, hle, hn⟩ := HCX.out.val; cases hv; exact hle
  have b0 := fun o => cO (i := 0) (obj_old o HBX.out)
  simp only [gA, gB, gC] at b0
  go_wp2_with (at_builtin; refine app_own el_u8 (enc_int .u8) rfl _ _ rfl rfl (Own.made wA wA.heap.size _ _ _ rfl (Nat.le_refl _)) rfl (ys := E.ctx) ?q1s ?q2s ?q3s ?q4s)
  case q1s => exact HCX.out.ext ((Ext.rfl' _).alloc' _)
  case q2s => exact ⟨by have := HCB.out; simp; omega, by have := HCB.out; simp; omega⟩
  case q3s => simp
  intro v3 w3 hown hgrow hbel
  have hE3 : Ext wA w3 := hbel _ _ ((Ext.rfl' _).alloc' _) (Nat.le_refl _)
  obtain ⟨fa, fn, fc, rfl, hfn, hFN⟩ := (hown.rd (enc_int .u8)).val
  have HF3 := η hown
  have HX3 := η (HX2.out.trans' hE3)
  have HB3 := η (hE3.obj HBX.out)
  have HR3 := η (HER.out.ext hE3)
  clear hown hgrow hbel hE3 b0 HCX
  (have b0 := cO (i := 0) (HB3.out); have b1 := cO (i := 1) (HB3.out); have b2 := cO (i := 2) (HB3.out); have b3 := cO (i := 3) (HB3.out); have bf := fun i => frozen_obj (i := i) (HB3.out); simp only [gA, gB, gC] at b0 b1 b2 b3)
  go_upto_region 6 with fail
  clear b0 b1 b2 b3 bf
  obtain ⟨w4, hw4⟩ : ∃ u, w3.alloc (envObj (.slice fa fn fc) (.slice ya yn yc) (.slice za zn zc) (.slice ta tn tc)) = u := ⟨_, rfl⟩
  have hE4 : Ext w3 w4 := by rw [← hw4]; (repeat (first|exact xE0 _|assumption|refine xE1 ?_ _|refine xE2 ?_|refine xE3 ?_ _|refine xE4 ?_ (by assumption)))
  have hy4 : w4.heap[w3.heap.size]? = some (envObj (.slice fa fn fc) (.slice ya yn yc) (.slice za zn zc) (.slice ta tn tc)) := by rw [← hw4]; exact obj_top _ _ rfl
  rw [hw4]
  clear hw4
  have HX4 := η (HX3.out.trans' hE4)
  have HB4 := η (hE4.obj HB3.out)
  have HR4 := η (HR3.out.ext hE4)
  have HF4 := η (HF3.out.ext hE4)
  have HY4 := η hy4
  have HX40 := η HX4.out.size
  clear hE4 hy4 HX2 HX3 HB3 HR3 HF3 HER HBX
  go_wp2_with fail
  refine (HFR.out.few _ (HX4.out.trans' ((Ext.rfl' _).alloc' _))).mono ?_
  rintro e w5 ⟨vF, rfl, hRF, hEF⟩
  obtain ⟨la, ln, lc, rfl, hln, hLN⟩ := hRF.val
  have HE5 := η ((show Ext w4 _ from ((Ext.rfl' w4).alloc' _)).trans' hEF)
  have HO5 := η ((Own.made w4 w4.heap.size 58 5 Ins.enc rfl (Nat.le_refl _)).ext hEF)
  have HRF := η hRF
  have hs5 := HE5.out.size
  clear hRF hEF
  go_wp2_with (at_builtin; refine app_own el_ins enc_ins rfl _ _ rfl rfl HO5.out rfl (ys := L) ?p1s ?p2s ?p3s ?p4s)
  case p1s => exact HRF.out
  case p2s => exact ⟨by have := HLN.out; simp; omega, by have := HLN.out; simp; omega⟩
  case p3s => exact hs5
  intro v6 w6 hown hgrow hbel
  have hE6 : Ext w4 w6 := hbel _ _ HE5.out (Nat.le_refl _)
  obtain ⟨ga, gn, gc, rfl, hgn, hGN⟩ := (hown.rd enc_ins).val
  have HG6 := η (show Own w6 w4.heap.size 58 5 Ins.enc (.slice ga gn gc) L by simpa using hown)
  have HX6 := η (HX4.out.trans' hE6)
  have HB6 := η (hE6.obj HB4.out)
  have HY6 := η (hE6.obj HY4.out)
  have HR6 := η (HR4.out.ext hE6)
  have HF6 := η (show Own w6 wA.heap.size 5 1 (fun x => [Value.int .u8 x]) (.slice fa fn fc) E.ctx by simpa using HF4.out.ext hE6)
  have HF40 := η (show ∀ j ∈ (Value.slice fa fn fc).ownBlock.toList, j < w4.heap.size from fun j hj => (HF4.out.lt (by simpa using hj)).2)
  have HRY : Hid (EnvR w6 E (.slice fa fn fc) (.slice ya yn yc) (.slice za zn zc) (.slice ta tn tc) rowsE) := η { HR6.out with ctx := HF6.out.rd (enc_int .u8) }
  clear hown hgrow hbel hE6 HX4 HB4 HY4 HR4 HF4 HE5 HO5 HRF hs5
  (have b0 := cO (i := 0) (HY6.out); have b1 := cO (i := 1) (HY6.out); have b2 := cO (i := 2) (HY6.out); have b3 := cO (i := 3) (HY6.out); have bf := fun i => frozen_obj (i := i) (HY6.out); simp only [gA, gB, gC] at b0 b1 b2 b3)
  go_wp2_with fail
  refine (HFR.out.new _ _ _ _ _ _ _ (HG6.out.rd enc_ins) HRY.out).mono ?_
  clear b0 b1 b2 b3 bf
  rintro e w7 hN
  rw [hσ.out] at hN
  obtain ⟨a, rfl, hPA⟩ := hN
  have hE7 : Ext w6 w7 := hPA.keep.ext (fun _ h => by cases h)
  have HPA := η hPA
  have HE67 := η hE7
  have HX2 := η (HX6.out.trans' hE7)
  have HBX := η (hE7.obj HB6.out)
  have HER := η (HR6.out.ext hE7)
  clear hPA hE7 HB6 HY6 HR6 HRY
  go_upto_region 8 with fail
  have HS3 : Hid (∀ w' : World, Ext w7 w' → w'.cell? ⟨w2.heap.size, 0, none⟩ = some (.slice xa xn xc) ∧ w'.cell? ⟨w2.heap.size, 1, none⟩ = some (.slice ya yn yc) ∧ w'.cell? ⟨w2.heap.size, 2, none⟩ = some (.slice za zn zc) ∧ w'.cell? ⟨w2.heap.size, 3, none⟩ = some (.slice ta tn tc)) := η (fun w' he => by have b0 := cO (i := 0) (he.obj HBX.out); have b1 := cO (i := 1) (he.obj HBX.out); have b2 := cO (i := 2) (he.obj HBX.out); have b3 := cO (i := 3) (he.obj HBX.out); simp only [gA, gB, gC] at b0 b1 b2 b3; exact ⟨b0, b1, b2, b3⟩)
  go_cut [14, 15] from 43 to 50 (fun vm vf wx => ∃ mb, vm = .pointer (some ⟨mb, 0, none⟩) ∧ vf = .int .i64 0 ∧ Hid (∃ wB, Ext w7 wB ∧ PS [] [] wB wB.heap.size wx mb σ))
  case first =>
   obtain ⟨b0, b1, b2, b3⟩ := HS3.out w7 (Ext.rfl' _)
   go_region_held3 (fun w' => w'.cell? ⟨w2.heap.size, 0, none⟩ = some (.slice xa xn xc) ∧ w'.cell? ⟨w2.heap.size, 1, none⟩ = some (.slice ya yn yc) ∧ w'.cell? ⟨w2.heap.size, 2, none⟩ = some (.slice za zn zc) ∧ w'.cell? ⟨w2.heap.size, 3, none⟩ = some (.slice ta tn tc))
    ((refine HS3.out _ ?_; (repeat (first|exact xE0 _|assumption|refine xE1 ?_ _|refine xE2 ?_|refine xE3 ?_ _|refine xE4 ?_ (by assumption)))))
    ((first
     | (go_at_call 23; refine (HFR.out.few _ (Ext.trans' HX2.out (by (repeat (first|exact xE0 _|assumption|refine xE1 ?_ _|refine xE2 ?_|refine xE3 ?_ _|refine xE4 ?_ (by assumption)))))).mono ?_; rintro e wF ⟨vF, rfl, hRF, hEF⟩; have HRF := η hRF; have hxF : Ext w7 wF := (by (repeat (first|exact xE0 _|assumption|refine xE1 ?_ _|refine xE2 ?_|refine xE3 ?_ _|refine xE4 ?_ (by assumption)))); clear hRF)
     | (go_at_call 22; refine (HFR.out.new _ _ _ _ _ _ _ (HRF.out.ext (by (repeat (first|exact xE0 _|assumption|refine xE1 ?_ _|refine xE2 ?_|refine xE3 ?_ _|refine xE4 ?_ (by assumption))))) (HER.out.ext (by (repeat (first|exact xE0 _|assumption|refine xE1 ?_ _|refine xE2 ?_|refine xE3 ?_ _|refine xE4 ?_ (by assumption)))))).mono ?_; rintro e wN hN; rw [hσ.out] at hN; obtain ⟨mb, rfl, hN⟩ := hN; have HN := η hN; have hxN : Ext w7 wN := (by refine Ext.trans' ?_ (hN.keep.ext (fun _ h => by cases h)); (repeat (first|exact xE0 _|assumption|refine xE1 ?_ _|refine xE2 ?_|refine xE3 ?_ _|refine xE4 ?_ (by assumption)))); clear hN)))
   all_goals
    go_wp2_with fail
    go_meet
    exact ⟨_, rfl, rfl, η ⟨_, by (repeat (first|exact xE0 _|assumption|refine xE1 ?_ _|refine xE2 ?_|refine xE3 ?_ _|refine xE4 ?_ (by assumption))), HN.out⟩⟩
  case rest =>
   obtain ⟨b, rfl, rfl, HC⟩ := hcut
   obtain ⟨wb, hE1, hPB⟩ := HC.out
   have hEB : Ext wb wc := hPB.keep.ext (fun _ h => by cases h)
   have HT0 := η (Two3.made PM.kept PM.kept HPA.out.relT hE1 hPB.relT)
   have HEC := η ((HE67.out.trans' hE1).trans' hEB)
   have HXC := η (HX6.out.trans' HEC.out)
   have HWF := η ((show Wr w6 5 1 (.slice fa fn fc) fn by have := HF6.out.wr; rwa [← hFN.out] at this).ext HEC.out)
   have HWG := η ((show Wr w6 58 5 (.slice ga gn gc) gn by have := HG6.out.wr; rwa [← hGN.out] at this).ext HEC.out)
   have hQ6 : ∀ j, j < w6.heap.size → j ∈ List.range w6.heap.size := fun j hj => List.mem_range.2 hj
   have HQW := η (show ∀ q, q < w.heap.size → q ∈ List.range w6.heap.size from fun q hq => hQ6 q (by have := HX6.out.size; omega))
   have HFB := η (show ∀ j ∈ (Value.slice fa fn fc).ownBlock.toList, w.heap.size ≤ j ∧ j ∈ List.range w6.heap.size ∧ j < w4.heap.size from fun j hj => by
    have h1 := HF6.out.lt (by simpa using hj)
    exact ⟨Nat.le_trans HXA.out h1.1, hQ6 j h1.2, HF40.out j hj⟩)
   have HGB := η (show ∀ j ∈ (Value.slice ga gn gc).ownBlock.toList, w.heap.size ≤ j ∧ j ∈ List.range w6.heap.size ∧ w4.heap.size ≤ j from fun j hj => by
    have h1 := HG6.out.lt (by simpa using hj)
    exact ⟨Nat.le_trans HX40.out h1.1, hQ6 j h1.2, h1.1⟩)
   have hba : w6.heap.size ≤ wc.heap.size := HEC.out.size
   have hbb : wb.heap.size ≤ wc.heap.size := hEB.size
   have HRF := η (HF6.out.rd (enc_int .u8))
   have HRG := η (HG6.out.rd enc_ins)
   clear hE1 hPB hEB HC HPA HX6 HX2 HBX HER HE67 HEC HFR HDS HU8 HOK HS3 HF6 HG6 HF40 HXA HX40 hQ6
   generalize List.range w6.heap.size = Q at HT0 HQW HFB HGB
   generalize w6.heap.size = ba at HT0 hba
   generalize wb.heap.size = bb at HT0 hbb
   go_wp2_with fail
   go_loopw [68] (fun q wr => ∃ k : Nat, k ≤ fn ∧ q = .int .i64 k ∧ Hid (Wr wr 5 1 (.slice fa fn fc) fn) ∧ Hid (Keep (Value.slice fa fn fc).ownBlock.toList wc wr)) (fun q _ => fn - (intOf q).toNat)
   case atStart => exact ⟨0, Nat.zero_le _, rfl, HWF, η (Keep.rfl' _ _)⟩
   case round =>
    obtain ⟨k, hk, rfl, HW1, HK1⟩ := hrel
    by_cases hlt : (k : Int) < fn
    ·have ix := fun W => HRF.out.run_at (P := Tryz.prog) el_u8.under el_u8.size .i64 (k : Int) (by omega) (by omega) W
     obtain ⟨g, hg1, hg2, hg3, ⟨u, c0⟩, f0⟩ := HW1.out.at (i := k) (by omega)
     simp only [Nat.mul_one, Int.toNat_natCast, hg2] at ix
     have HN1 := η (HW1.out.set g k (.int .u8 7))
     have HN2 := η (HK1.out.setCell (a := ⟨g, k, none⟩) (by simp [hg1]) (.int .u8 7))
     clear hg1 hg2 hg3
     go_wp2_with fail
     go_roundw
     case rel => exact ⟨k + 1, by omega, by go_num, HN1, HN2⟩
     case measure => simp [intOf]; omega
    ·have HT1 := η (HT0.out.keep PM.kept PM.kept HK1.out (fun j hj => (HFB.out j hj).2.1))
     have HXD := η (keep_below HXC.out HK1.out (fun j hj => (HFB.out j hj).1))
     have HWG1 := η (HWG.out.keep HK1.out (fun j hj hj' => by have := (HGB.out j hj).2.2; have := (HFB.out j hj').2.2; omega))
     have hba1 := Nat.le_trans hba HK1.out.size
     have hbb1 := Nat.le_trans hbb HK1.out.size
     clear HW1 HK1 HT0 HXC HWG
     obtain ⟨wd, rfl⟩ : ∃ u, u = wr := ⟨_, rfl⟩
     go_wp2_with fail
     go_loopw [77] (fun q wr => ∃ k : Nat, k ≤ gn ∧ q = .int .i64 k ∧ Hid (Wr wr 58 5 (.slice ga gn gc) gn) ∧ Hid (Keep (Value.slice ga gn gc).ownBlock.toList wd wr)) (fun q _ => gn - (intOf q).toNat)
     case atStart => exact ⟨0, Nat.zero_le _, rfl, HWG1, η (Keep.rfl' _ _)⟩
     case round =>
      obtain ⟨k, hk, rfl, HW1, HK1⟩ := hrel
      by_cases hlt : (k : Int) < gn
      ·have ix := fun W => HRG.out.run_at (P := Tryz.prog) el_ins.under el_ins.size .i64 (k : Int) (by omega) (by omega) W
       obtain ⟨g, hg1, hg2, hg3, ⟨u0, c0⟩, f0⟩ := HW1.out.at (i := k * 5) (by omega)
       obtain ⟨g', hg1', -, -, ⟨u1, c1⟩, f1⟩ := HW1.out.at (i := k * 5 + 1) (by omega)
       obtain rfl : g = g' := by rw [hg1] at hg1'; injection hg1'
       obtain ⟨g', hg1', -, -, ⟨u2, c2⟩, f2⟩ := HW1.out.at (i := k * 5 + 2) (by omega)
       obtain rfl : g = g' := by rw [hg1] at hg1'; injection hg1'
       obtain ⟨g', hg1', -, -, ⟨u3, c3⟩, f3⟩ := HW1.out.at (i := k * 5 + 3) (by omega)
       obtain rfl : g = g' := by rw [hg1] at hg1'; injection hg1'
       obtain ⟨g', hg1', -, -, ⟨u4, c4⟩, f4⟩ := HW1.out.at (i := k * 5 + 4) (by omega)
       obtain rfl : g = g' := by rw [hg1] at hg1'; injection hg1'
       simp only [Int.toNat_natCast, hg2] at ix
       have HN1 := η (((((HW1.out.set g (k * 5) (.int .u8 149)).set g (k * 5 + 1) (.int .u8 0)).set g (k * 5 + 2) (.int .u8 0)).set g (k * 5 + 3) (.int .i16 0)).set g (k * 5 + 4) (.int .i32 0))
       have HN2 := η (((((HK1.out.setCell (a := ⟨g, k * 5, none⟩) (by simp [hg1]) (.int .u8 149)).setCell (a := ⟨g, k * 5 + 1, none⟩) (by simp [hg1]) (.int .u8 0)).setCell (a := ⟨g, k * 5 + 2, none⟩) (by simp [hg1]) (.int .u8 0)).setCell (a := ⟨g, k * 5 + 3, none⟩) (by simp [hg1]) (.int .i16 0)).setCell (a := ⟨g, k * 5 + 4, none⟩) (by simp [hg1]) (.int .i32 0))
       clear hg1 hg2 hg3 hg1'
       go_wp2_with fail
       go_roundw
       case rel => exact ⟨k + 1, by omega, by go_num, HN1, HN2⟩
       case measure => simp [intOf]; omega
      ·have HT2 := η (HT1.out.keep PM.kept PM.kept HK1.out (fun j hj => (HGB.out j hj).2.1))
       have HXE := η (keep_below HXD.out HK1.out (fun j hj => (HGB.out j hj).1))
       have hba2 := Nat.le_trans hba1 HK1.out.size
       have hbb2 := Nat.le_trans hbb1 HK1.out.size
       clear HW1 HK1 HT1 HXD HWG1 hba1 hbb1 HFB HGB HRF HRG
       obtain ⟨n, hn⟩ : ∃ n : Int, n2.tmod 501 = n := ⟨_, rfl⟩
       have hn0 : 0 ≤ n ∧ n ≤ 500 := by rw [← hn, Int.tmod_eq_emod_of_nonneg r2.1]; omega
       have HINV := η (⟨HNF.out.inv, HNF.out.u8, HNF.out.defs, HNF.out.sm, HNF.out.dl, HNF.out.steps⟩ : σ.Inv ∧ BytesOk σ.V.1 ∧ DefsOk σ.D ∧ CallsSm σ ∧ σ.D.length ≤ 1000000 ∧ σ.steps = 0)
       have HNN := η (run_two _ σ n n rfl HNF.out.inv HNF.out.u8 (Int.le_refl _))
       have hnm : n ≤ 1000000 := by omega
       go_wp2_with fail
       go_loopw [89] (fun q wr => ∃ (k : Nat) (τ : RS), (k : Int) ≤ n ∧ q = .int .i64 k ∧ Hid (Two3 (PM ba a τ) (PM bb b σ) Q wr) ∧ Hid (τ.Inv ∧ BytesOk τ.V.1 ∧ DefsOk τ.D ∧ CallsSm τ ∧ τ.D.length ≤ 1000000 ∧ τ.steps ≤ (k : Int) ∧ τ.run n = σ.run n) ∧ ba ≤ wr.heap.size ∧ bb ≤ wr.heap.size ∧ Hid (Ext w wr)) (fun q _ => n.toNat - (intOf q).toNat)
       case atStart => exact ⟨0, σ, hn0.1, rfl, HT2, η ⟨HINV.out.1, HINV.out.2.1, HINV.out.2.2.1, HINV.out.2.2.2.1, HINV.out.2.2.2.2.1, by rw [HINV.out.2.2.2.2.2]; decide, rfl⟩, hba2, hbb2, HXE⟩
       case round =>
        obtain ⟨k, τ, hk, rfl, HT, HI, hca, hcb, HX⟩ := hrel
        have hsk : τ.steps ≤ 1000000 := by have := HI.out.2.2.2.2.2.1; omega
        by_cases hlt : (k : Int) < n
        ·go_wp2_with fail
         refine (three_over PM.kept HT.out hca).mono ?_
         cases hov : τ.over with
         | true =>
          rintro e w8 ⟨rfl, hT, hE⟩
          have HT3 := η hT
          have HX8 := η (HX.out.trans' hE)
          have hc8 := Nat.le_trans hca hE.size
          have hd8 := Nat.le_trans hcb hE.size
          clear hT hE HT HX hov
          have HI8 := HI
          clear HI
          go_wp2_with fail
          refine (three_run n PM.kept HT3.out hc8 HI8.out.1 HI8.out.2.2.1 HI8.out.2.2.2.1 hsk hnm HI8.out.2.2.2.2.1).mono ?_
          rw [HI8.out.2.2.2.2.2.2]
          rintro e w9 ⟨lo, ca, cn, cc, ma, mn, mc, rfl, hT, hlo, hU, F1, Z1, hR1⟩
          have HX9 := η (hU.ext HQW.out HX8.out)
          have hc9 := Nat.le_trans hc8 hU.size
          have hd9 := Nat.le_trans hd8 hU.size
          have hw8 : w.heap.size ≤ lo := Nat.le_trans HX8.out.size hlo
          obtain ⟨cs, c1, c2, c3⟩ := hR1.cs
          have HCN : Hid (cn = cs.length) := by obtain ⟨a', n', c', hv, _, hn⟩ := (c1.rd enc_cb).val; cases hv; exact hn
          have hcm : cn ≤ 9223372036854775807 := by obtain ⟨a', n', c', hv, hle, hn⟩ := (c1.rd enc_cb).val; cases hv; exact hle
          obtain ⟨cb, hcb9⟩ : ∃ cb, cb = blk lo w9.heap.size := ⟨_, rfl⟩
          have HCB9 := η hcb9
          have HCC := η c1
          have HKY := η (show ∀ c ∈ cs, Wr w9 5 1 c.kv c.c.key.length ∧ ∀ j ∈ c.kv.ownBlock.toList, j ∈ cb from fun c hc => ⟨(c3 c hc).key.wr, fun j hj => by rw [hcb9]; exact mem_blk.2 ((c3 c hc).key.lt (by simpa using hj))⟩)
          have HRD := η (show ∀ c ∈ cs, Rd w9 1 encB c.kv c.c.key from fun c hc => (c3 c hc).key.rd (enc_int .u8))
          rw [← hcb9] at hT
          have HT9 := η hT
          obtain ⟨ev, hEV⟩ : ∃ ev, (σ.run n).endV = ev := ⟨_, rfl⟩
          rw [hEV]
          obtain ⟨ec, ea, er, es, el, em⟩ := ev
          have HEV := η hEV
          simp only
          clear hT hU hlo hR1 c1 c2 c3 hcb9 HT3 HX8 hEV
          go_upto_region 30 with fail
          obtain ⟨w10, hw10⟩ : ∃ u, w9.alloc (endOb ec ea er es (.slice ca cn cc) (.slice ma mn mc)) = u := ⟨_, rfl⟩
          have hE10 : Ext w9 w10 := by rw [← hw10]; (repeat (first|exact xE0 _|assumption|refine xE1 ?_ _|refine xE2 ?_|refine xE3 ?_ _|refine xE4 ?_ (by assumption)))
          have ho10 : w10.heap[w9.heap.size]? = some (endOb ec ea er es (.slice ca cn cc) (.slice ma mn mc)) := by rw [← hw10]; exact obj_top _ _ rfl
          rw [hw10]
          clear hw10
          have b4 := cO (i := 4) ho10
          simp only [gA, gB, gC] at b4
          have HT10 := η (HT9.out.ext PM.kept PM.kept hE10)
          have HX10 := η (HX9.out.trans' hE10)
          have hc10 := Nat.le_trans hc9 hE10.size
          have hd10 := Nat.le_trans hd9 hE10.size
          have HCC10 := η (HCC.out.ext hE10)
          have HKW := η (show ∀ c ∈ cs, Wr w10 5 1 c.kv c.c.key.length from fun c hc => (HKY.out c hc).1.ext hE10)
          have HCBL := η (show ∀ j ∈ cb, lo ≤ j ∧ j < w10.heap.size from fun j hj => by rw [HCB9.out] at hj; have := mem_blk.1 hj; have := hE10.size; omega)
          clear hE10 ho10 HT9 HX9 HCC
          go_wp2_with fail
          clear b4
          go_loopw [106] (fun q wr => ∃ j : Nat, j ≤ cn ∧ q = .int .i64 j ∧ Hid (Own wr lo 76 6 CB.enc (.slice ca cn cc) cs) ∧ Hid (∀ c ∈ cs, Wr wr 5 1 c.kv c.c.key.length) ∧ Hid (∃ F, Keep F w10 wr ∧ ∀ q ∈ F, q ∈ cb)) (fun q _ => cn - (intOf q).toNat)
          case atStart => exact ⟨0, Nat.zero_le _, rfl, HCC10, HKW, η ⟨[], Keep.rfl' _ _, fun _ h => by cases h⟩⟩
          case round =>
           obtain ⟨j, hj, rfl, HOW, HWW, HKK⟩ := hrel
           by_cases hjl : (j : Int) < cn
           ·obtain ⟨x, hx⟩ := at_of_lt (xs := cs) (k := j) (by have := HCN.out; omega)
            have ix := fun W => (HOW.out.rd enc_cb).run_at (P := Tryz.prog) el_called.under el_called.size .i64 (j : Int) (by omega) (by omega) W
            obtain ⟨c0, c1, c2, c3, c4, c5⟩ := cb_at (HOW.out.rd enc_cb) hx
            simp only [Int.toNat_natCast] at ix
            have hmem := List.mem_of_getElem? hx
            have HXR := η (HRD.out x hmem)
            have HXB := η (HKY.out x hmem).2
            have HXM := η hmem
            obtain ⟨⟨id, map, key, val, N, ret⟩, ka, kc, va, vc, na, nc⟩ := x
            simp only [CB.kv] at c0 c1 c2 c3 c4 c5 HXR HXB
            clear hx hmem
            go_upto_region 33 with fail
            obtain ⟨wk, hwk⟩ : ∃ u, wr.alloc (cbOb id map (.slice ka key.length kc) (.slice va val.length vc) (.slice na N.length nc) ret) = u := ⟨_, rfl⟩
            have hEk : Ext wr wk := by rw [← hwk]; (repeat (first|exact xE0 _|assumption|refine xE1 ?_ _|refine xE2 ?_|refine xE3 ?_ _|refine xE4 ?_ (by assumption)))
            have o1 : wk.heap[wr.heap.size]? = some (cbOb id map (.slice ka key.length kc) (.slice va val.length vc) (.slice na N.length nc) ret) := by rw [← hwk]; exact obj_top _ _ rfl
            rw [hwk]
            clear hwk ix c0 c1 c2 c3 c4 c5
            have hkl : key.length ≤ 9223372036854775807 := by obtain ⟨a', n', c', hv, hle, hn⟩ := HXR.out.val; cases hv; exact hle
            have HO1 := η o1
            have HOW1 := η (HOW.out.ext hEk)
            have HWW1 := η (show ∀ c ∈ cs, Wr wk 5 1 c.kv c.c.key.length from fun c hc => (HWW.out c hc).ext hEk)
            have HKK1 : Hid (∃ F, Keep F w10 wk ∧ ∀ q ∈ F, q ∈ cb) := η (by obtain ⟨F, k, hF⟩ := HKK.out; exact ⟨F, k.trans (Keep.of_ext hEk), hF⟩)
            have hzr : w10.heap.size ≤ wr.heap.size := by obtain ⟨F, k, hF⟩ := HKK.out; exact k.size
            have b2 := cO (i := 2) o1
            simp only [gA, gB, gC] at b2
            generalize wr.heap.size = bx at HO1 hzr b2 ⊢
            clear o1 hEk HOW HWW HKK
            go_wp2_with fail
            clear b2
            go_loopw [113] (fun q wr => ∃ i : Nat, i ≤ key.length ∧ q = .int .i64 i ∧ Hid (wr.heap[bx]? = some (cbOb id map (.slice ka key.length kc) (.slice va val.length vc) (.slice na N.length nc) ret)) ∧ Hid (Own wr lo 76 6 CB.enc (.slice ca cn cc) cs) ∧ Hid (∀ c ∈ cs, Wr wr 5 1 c.kv c.c.key.length) ∧ Hid (∃ F, Keep F w10 wr ∧ ∀ q ∈ F, q ∈ cb)) (fun q _ => key.length - (intOf q).toNat)
            case atStart => exact ⟨0, Nat.zero_le _, rfl, HO1, HOW1, HWW1, HKK1⟩
            case round =>
             obtain ⟨i, hi, rfl, HO2, HOW, HWW, HKK⟩ := hrel
             by_cases hil : (i : Int) < key.length
             ·have iy := fun W => HXR.out.run_at (P := Tryz.prog) el_u8.under el_u8.size .i64 (i : Int) (by omega) (by omega) W
              obtain ⟨g, hg1, hg2, ⟨cur, hg3⟩, ⟨u, k0⟩, f0⟩ := (show Wr wr 5 1 (.slice ka key.length kc) key.length from HWW.out _ HXM.out).at (i := i) (by omega)
              simp only [Nat.mul_one, Int.toNat_natCast, hg2] at iy
              have hgb : g ∈ cb := HXB.out g (by rw [hg1]; simp)
              have hgx : bx ≠ g := by have := HCBL.out g hgb; omega
              have b2 := cO (i := 2) HO2.out
              simp only [gA, gB, gC] at b2
              have HM1 := η (show (wr.setCell ⟨g, i, none⟩ (.int .u8 9)).heap[bx]? = some (cbOb id map (.slice ka key.length kc) (.slice va val.length vc) (.slice na N.length nc) ret) from (heap_setCell_other wr _ _ _ hgx).trans HO2.out)
              have HM2 := η (HOW.out.keep ((Keep.rfl' [g] wr).setCell (a := ⟨g, i, none⟩) (by simp) (.int .u8 9)) (fun j hj hj' => by rw [List.mem_singleton] at hj'; subst hj'; exact HOW.out.type_ne' hg3 (by decide) (by simpa using hj)))
              have HM3 := η (show ∀ c ∈ cs, Wr (wr.setCell ⟨g, i, none⟩ (.int .u8 9)) 5 1 c.kv c.c.key.length from fun c hc => (HWW.out c hc).set g i _)
              have HM4 : Hid (∃ F, Keep F w10 (wr.setCell ⟨g, i, none⟩ (.int .u8 9)) ∧ ∀ q ∈ F, q ∈ cb) := η (by obtain ⟨F, k, hF⟩ := HKK.out; exact ⟨g :: F, (k.mono (fun q hq => .inl (List.mem_cons_of_mem _ hq))).setCell (by simp) _, fun q hq => by rcases List.mem_cons.1 hq with rfl | hq; exact hgb; exact hF q hq⟩)
              clear hg1 hg2 hg3 hgb hgx HO2 HOW HWW HKK
              go_wp2_with fail
              go_roundw
              case rel => exact ⟨i + 1, by omega, by go_num, HM1, HM2, HM3, HM4⟩
              case measure => simp [intOf]; omega
             ·go_wp2_with fail
              go_roundw
              case rel => exact ⟨j + 1, by omega, by go_num, HOW, HWW, HKK⟩
              case measure => simp [intOf]; omega
           ·obtain ⟨F, hk, hF⟩ := HKK.out
            have HT11 := η (HT10.out.keep PM.kept PM.kept hk (fun q hq => List.mem_append_left _ (hF q hq)))
            have HX11 := η (keep_below HX10.out hk (fun q hq => Nat.le_trans hw8 (HCBL.out q (hF q hq)).1))
            have hc11 := Nat.le_trans hc10 hk.size
            have hd11 := Nat.le_trans hd10 hk.size
            obtain ⟨l1, l2, l3, l4⟩ := run_inv HINV.out.1 HINV.out.2.1 n
            have hln := run_le _ σ n rfl HINV.out.1 HINV.out.2.1 (by have := HINV.out.2.2.2.2.2; omega)
            have HSN : Hid ((σ.run n).Inv ∧ DefsOk (σ.run n).D ∧ CallsSm (σ.run n) ∧ (σ.run n).D.length ≤ 1000000 ∧ (σ.run n).steps ≤ 1000000) := η ⟨l1, by rw [l4]; exact HINV.out.2.2.1, run_sm HINV.out.2.2.2.1 _, by rw [l4]; exact HINV.out.2.2.2.2.1, by omega⟩
            clear hk hF HOW HWW HKK HT10 HX10 l1 l2 l3 l4 hln HCC10 HKW HKY HRD
            obtain ⟨w11, rfl⟩ : ∃ u, u = wr := ⟨_, rfl⟩
            go_wp2_with fail
            refine (three_run n PM.kept HT11.out hc11 HSN.out.1 HSN.out.2.1 HSN.out.2.2.1 HSN.out.2.2.2.2 hnm HSN.out.2.2.2.1).mono ?_
            rw [HNN.out]
            rintro e w12 ⟨lo1, ca1, cn1, cc1, ma1, mn1, mc1, rfl, hT, hlo, hU, F1, Z1, hR1⟩
            have HT12 := η hT
            have HX12 := η (hU.ext (fun q hq => List.mem_append_right _ (HQW.out q hq)) HX11.out)
            have hd12 := Nat.le_trans hd11 hU.size
            have HR1 := η hR1
            clear hT hlo hU HT11 HX11 hR1
            go_wp2_with fail
            refine (three_run n PM.kept HT12.out.symm hd12 HINV.out.1 HINV.out.2.2.1 HINV.out.2.2.2.1 (by have := HINV.out.2.2.2.2.2; omega) hnm HINV.out.2.2.2.2.1).mono ?_
            rintro e w13 ⟨lo2, ca2, cn2, cc2, ma2, mn2, mc2, rfl, hT, hlo, hU, F2, Z2, hR2⟩
            have HX13 := η (hU.ext (fun q hq => List.mem_append_right _ (List.mem_append_right _ (HQW.out q hq))) HX12.out)
            have HE1 := η (Turn.erd HR1.out (fun q hq => List.mem_append_left _ hq) hU)
            have HE2 := η (Hold.rfl'.erd hR2)
            rw [HEV.out] at HE1 HE2 ⊢
            clear hT hlo hU HT12 HX12 hR2 HR1
            simp only
            go_wp2_with fail
            refine (same_end ⟨ec, ea, er, es, el, em⟩ _ _ _ _ _ HE1.out HE2.out).mono ?_
            rintro e w14 ⟨rfl, hE14⟩
            go_wp2_with fail
            go_returns
            exact ⟨rfl, HX13.out.trans' hE14⟩
         | false =>
          obtain ⟨i1, i2, i3, i4, i5, i6, i7⟩ := HI.out
          obtain ⟨j1, -, j3⟩ := i1.step i2
          have j4 := step_le1 i1
          have hgood := i1.good hsk
          have hon : τ.over = false → ∃ p x, τ.On p x := fun _ => by obtain ⟨x, hx⟩ := i1.on; exact ⟨_, x, hx⟩
          have HJ := η (⟨j1, step_bytes i2, by rw [j3]; exact i3, step_sm i4, by rw [j3]; exact i5, by omega, by rw [run_step hov (by omega) i1]; exact i7⟩ : τ.step.1.Inv ∧ BytesOk τ.step.1.V.1 ∧ DefsOk τ.step.1.D ∧ CallsSm τ.step.1 ∧ τ.step.1.D.length ≤ 1000000 ∧ τ.step.1.steps ≤ ((k + 1 : Nat) : Int) ∧ τ.step.1.run n = σ.run n)
          rintro e w8 ⟨rfl, hT, hE⟩
          have HT3 := η hT
          have HX8 := η (HX.out.trans' hE)
          have hc8 := Nat.le_trans hca hE.size
          have hd8 := Nat.le_trans hcb hE.size
          have HST := η (three_step PM.kept hT hc8 hgood i3 hon)
          clear hT hE HT HX hov i1 i2 i3 i4 i5 i6 i7 j1 j3 j4 hgood hon HI
          go_wp2_with fail
          refine HST.out.mono ?_
          generalize τ.step.1 = τ' at HJ
          generalize τ.step.2 = r
          rintro e w9 ⟨rfl, hT, hU⟩
          have HT9 := η hT
          have HX9 := η (hU.ext HQW.out HX8.out)
          have hc9 := Nat.le_trans hc8 hU.size
          have hd9 := Nat.le_trans hd8 hU.size
          clear hT hU HST HT3 HX8
          go_wp2_with fail
          refine (show Calls Tryz.prog 28 #[.pointer (some ⟨a, 0, none⟩), .int .i64 0] w9 _ from three_reg PM.kept HT9.out hc9 0 (by decide)).mono ?_
          rintro e w10 ⟨rfl, hT, hE⟩
          have HT10 := η hT
          have HX10 := η (HX9.out.trans' hE)
          have hc10 := Nat.le_trans hc9 hE.size
          have hd10 := Nat.le_trans hd9 hE.size
          clear hT hE HT9 HX9
          go_wp2_with fail
          refine (three_at PM.kept HT10.out hc10).mono ?_
          rintro e w11 ⟨rfl, hT, hE⟩
          have HT11 := η hT
          have HX11 := η (HX10.out.trans' hE)
          have hc11 := Nat.le_trans hc10 hE.size
          have hd11 := Nat.le_trans hd10 hE.size
          clear hT hE HT10 HX10
          go_wp2_with fail
          go_roundw
          case rel => exact ⟨k + 1, τ', by omega, by go_num, HT11, HJ, hc11, hd11, HX11⟩
          case measure => simp [intOf]; omega
        ·have HT3 := HT
         have HX8 := HX
         have hc8 := hca
         have hd8 := hcb
         clear HT HX
         obtain ⟨w8, rfl⟩ : ∃ u, u = wr := ⟨_, rfl⟩
         have HI8 := HI
         clear HI
         go_wp2_with fail
         refine (three_run n PM.kept HT3.out hc8 HI8.out.1 HI8.out.2.2.1 HI8.out.2.2.2.1 hsk hnm HI8.out.2.2.2.2.1).mono ?_
         rw [HI8.out.2.2.2.2.2.2]
         rintro e w9 ⟨lo, ca, cn, cc, ma, mn, mc, rfl, hT, hlo, hU, F1, Z1, hR1⟩
         have HX9 := η (hU.ext HQW.out HX8.out)
         have hc9 := Nat.le_trans hc8 hU.size
         have hd9 := Nat.le_trans hd8 hU.size
         have hw8 : w.heap.size ≤ lo := Nat.le_trans HX8.out.size hlo
         obtain ⟨cs, c1, c2, c3⟩ := hR1.cs
         have HCN : Hid (cn = cs.length) := by obtain ⟨a', n', c', hv, _, hn⟩ := (c1.rd enc_cb).val; cases hv; exact hn
         have hcm : cn ≤ 9223372036854775807 := by obtain ⟨a', n', c', hv, hle, hn⟩ := (c1.rd enc_cb).val; cases hv; exact hle
         obtain ⟨cb, hcb9⟩ : ∃ cb, cb = blk lo w9.heap.size := ⟨_, rfl⟩
         have HCB9 := η hcb9
         have HCC := η c1
         have HKY := η (show ∀ c ∈ cs, Wr w9 5 1 c.kv c.c.key.length ∧ ∀ j ∈ c.kv.ownBlock.toList, j ∈ cb from fun c hc => ⟨(c3 c hc).key.wr, fun j hj => by rw [hcb9]; exact mem_blk.2 ((c3 c hc).key.lt (by simpa using hj))⟩)
         have HRD := η (show ∀ c ∈ cs, Rd w9 1 encB c.kv c.c.key from fun c hc => (c3 c hc).key.rd (enc_int .u8))
         rw [← hcb9] at hT
         have HT9 := η hT
         obtain ⟨ev, hEV⟩ : ∃ ev, (σ.run n).endV = ev := ⟨_, rfl⟩
         rw [hEV]
         obtain ⟨ec, ea, er, es, el, em⟩ := ev
         have HEV := η hEV
         simp only
         clear hT hU hlo hR1 c1 c2 c3 hcb9 HT3 HX8 hEV
         go_upto_region 30 with fail
         obtain ⟨w10, hw10⟩ : ∃ u, w9.alloc (endOb ec ea er es (.slice ca cn cc) (.slice ma mn mc)) = u := ⟨_, rfl⟩
         have hE10 : Ext w9 w10 := by rw [← hw10]; (repeat (first|exact xE0 _|assumption|refine xE1 ?_ _|refine xE2 ?_|refine xE3 ?_ _|refine xE4 ?_ (by assumption)))
         have ho10 : w10.heap[w9.heap.size]? = some (endOb ec ea er es (.slice ca cn cc) (.slice ma mn mc)) := by rw [← hw10]; exact obj_top _ _ rfl
         rw [hw10]
         clear hw10
         have b4 := cO (i := 4) ho10
         simp only [gA, gB, gC] at b4
         have HT10 := η (HT9.out.ext PM.kept PM.kept hE10)
         have HX10 := η (HX9.out.trans' hE10)
         have hc10 := Nat.le_trans hc9 hE10.size
         have hd10 := Nat.le_trans hd9 hE10.size
         have HCC10 := η (HCC.out.ext hE10)
         have HKW := η (show ∀ c ∈ cs, Wr w10 5 1 c.kv c.c.key.length from fun c hc => (HKY.out c hc).1.ext hE10)
         have HCBL := η (show ∀ j ∈ cb, lo ≤ j ∧ j < w10.heap.size from fun j hj => by rw [HCB9.out] at hj; have := mem_blk.1 hj; have := hE10.size; omega)
         clear hE10 ho10 HT9 HX9 HCC
         go_wp2_with fail
         clear b4
         go_loopw [106] (fun q wr => ∃ j : Nat, j ≤ cn ∧ q = .int .i64 j ∧ Hid (Own wr lo 76 6 CB.enc (.slice ca cn cc) cs) ∧ Hid (∀ c ∈ cs, Wr wr 5 1 c.kv c.c.key.length) ∧ Hid (∃ F, Keep F w10 wr ∧ ∀ q ∈ F, q ∈ cb)) (fun q _ => cn - (intOf q).toNat)
         case atStart => exact ⟨0, Nat.zero_le _, rfl, HCC10, HKW, η ⟨[], Keep.rfl' _ _, fun _ h => by cases h⟩⟩
         case round =>
          obtain ⟨j, hj, rfl, HOW, HWW, HKK⟩ := hrel
          by_cases hjl : (j : Int) < cn
          ·obtain ⟨x, hx⟩ := at_of_lt (xs := cs) (k := j) (by have := HCN.out; omega)
           have ix := fun W => (HOW.out.rd enc_cb).run_at (P := Tryz.prog) el_called.under el_called.size .i64 (j : Int) (by omega) (by omega) W
           obtain ⟨c0, c1, c2, c3, c4, c5⟩ := cb_at (HOW.out.rd enc_cb) hx
           simp only [Int.toNat_natCast] at ix
           have hmem := List.mem_of_getElem? hx
           have HXR := η (HRD.out x hmem)
           have HXB := η (HKY.out x hmem).2
           have HXM := η hmem
           obtain ⟨⟨id, map, key, val, N, ret⟩, ka, kc, va, vc, na, nc⟩ := x
           simp only [CB.kv] at c0 c1 c2 c3 c4 c5 HXR HXB
           clear hx hmem
           go_upto_region 33 with fail
           obtain ⟨wk, hwk⟩ : ∃ u, wr.alloc (cbOb id map (.slice ka key.length kc) (.slice va val.length vc) (.slice na N.length nc) ret) = u := ⟨_, rfl⟩
           have hEk : Ext wr wk := by rw [← hwk]; (repeat (first|exact xE0 _|assumption|refine xE1 ?_ _|refine xE2 ?_|refine xE3 ?_ _|refine xE4 ?_ (by assumption)))
           have o1 : wk.heap[wr.heap.size]? = some (cbOb id map (.slice ka key.length kc) (.slice va val.length vc) (.slice na N.length nc) ret) := by rw [← hwk]; exact obj_top _ _ rfl
           rw [hwk]
           clear hwk ix c0 c1 c2 c3 c4 c5
           have hkl : key.length ≤ 9223372036854775807 := by obtain ⟨a', n', c', hv, hle, hn⟩ := HXR.out.val; cases hv; exact hle
           have HO1 := η o1
           have HOW1 := η (HOW.out.ext hEk)
           have HWW1 := η (show ∀ c ∈ cs, Wr wk 5 1 c.kv c.c.key.length from fun c hc => (HWW.out c hc).ext hEk)
           have HKK1 : Hid (∃ F, Keep F w10 wk ∧ ∀ q ∈ F, q ∈ cb) := η (by obtain ⟨F, k, hF⟩ := HKK.out; exact ⟨F, k.trans (Keep.of_ext hEk), hF⟩)
           have hzr : w10.heap.size ≤ wr.heap.size := by obtain ⟨F, k, hF⟩ := HKK.out; exact k.size
           have b2 := cO (i := 2) o1
           simp only [gA, gB, gC] at b2
           generalize wr.heap.size = bx at HO1 hzr b2 ⊢
           clear o1 hEk HOW HWW HKK
           go_wp2_with fail
           clear b2
           go_loopw [113] (fun q wr => ∃ i : Nat, i ≤ key.length ∧ q = .int .i64 i ∧ Hid (wr.heap[bx]? = some (cbOb id map (.slice ka key.length kc) (.slice va val.length vc) (.slice na N.length nc) ret)) ∧ Hid (Own wr lo 76 6 CB.enc (.slice ca cn cc) cs) ∧ Hid (∀ c ∈ cs, Wr wr 5 1 c.kv c.c.key.length) ∧ Hid (∃ F, Keep F w10 wr ∧ ∀ q ∈ F, q ∈ cb)) (fun q _ => key.length - (intOf q).toNat)
           case atStart => exact ⟨0, Nat.zero_le _, rfl, HO1, HOW1, HWW1, HKK1⟩
           case round =>
            obtain ⟨i, hi, rfl, HO2, HOW, HWW, HKK⟩ := hrel
            by_cases hil : (i : Int) < key.length
            ·have iy := fun W => HXR.out.run_at (P := Tryz.prog) el_u8.under el_u8.size .i64 (i : Int) (by omega) (by omega) W
             obtain ⟨g, hg1, hg2, ⟨cur, hg3⟩, ⟨u, k0⟩, f0⟩ := (show Wr wr 5 1 (.slice ka key.length kc) key.length from HWW.out _ HXM.out).at (i := i) (by omega)
             simp only [Nat.mul_one, Int.toNat_natCast, hg2] at iy
             have hgb : g ∈ cb := HXB.out g (by rw [hg1]; simp)
             have hgx : bx ≠ g := by have := HCBL.out g hgb; omega
             have b2 := cO (i := 2) HO2.out
             simp only [gA, gB, gC] at b2
             have HM1 := η (show (wr.setCell ⟨g, i, none⟩ (.int .u8 9)).heap[bx]? = some (cbOb id map (.slice ka key.length kc) (.slice va val.length vc) (.slice na N.length nc) ret) from (heap_setCell_other wr _ _ _ hgx).trans HO2.out)
             have HM2 := η (HOW.out.keep ((Keep.rfl' [g] wr).setCell (a := ⟨g, i, none⟩) (by simp) (.int .u8 9)) (fun j hj hj' => by rw [List.mem_singleton] at hj'; subst hj'; exact HOW.out.type_ne' hg3 (by decide) (by simpa using hj)))
             have HM3 := η (show ∀ c ∈ cs, Wr (wr.setCell ⟨g, i, none⟩ (.int .u8 9)) 5 1 c.kv c.c.key.length from fun c hc => (HWW.out c hc).set g i _)
             have HM4 : Hid (∃ F, Keep F w10 (wr.setCell ⟨g, i, none⟩ (.int .u8 9)) ∧ ∀ q ∈ F, q ∈ cb) := η (by obtain ⟨F, k, hF⟩ := HKK.out; exact ⟨g :: F, (k.mono (fun q hq => .inl (List.mem_cons_of_mem _ hq))).setCell (by simp) _, fun q hq => by rcases List.mem_cons.1 hq with rfl | hq; exact hgb; exact hF q hq⟩)
             clear hg1 hg2 hg3 hgb hgx HO2 HOW HWW HKK
             go_wp2_with fail
             go_roundw
             case rel => exact ⟨i + 1, by omega, by go_num, HM1, HM2, HM3, HM4⟩
             case measure => simp [intOf]; omega
            ·go_wp2_with fail
             go_roundw
             case rel => exact ⟨j + 1, by omega, by go_num, HOW, HWW, HKK⟩
             case measure => simp [intOf]; omega
          ·obtain ⟨F, hk, hF⟩ := HKK.out
           have HT11 := η (HT10.out.keep PM.kept PM.kept hk (fun q hq => List.mem_append_left _ (hF q hq)))
           have HX11 := η (keep_below HX10.out hk (fun q hq => Nat.le_trans hw8 (HCBL.out q (hF q hq)).1))
           have hc11 := Nat.le_trans hc10 hk.size
           have hd11 := Nat.le_trans hd10 hk.size
           obtain ⟨l1, l2, l3, l4⟩ := run_inv HINV.out.1 HINV.out.2.1 n
           have hln := run_le _ σ n rfl HINV.out.1 HINV.out.2.1 (by have := HINV.out.2.2.2.2.2; omega)
           have HSN : Hid ((σ.run n).Inv ∧ DefsOk (σ.run n).D ∧ CallsSm (σ.run n) ∧ (σ.run n).D.length ≤ 1000000 ∧ (σ.run n).steps ≤ 1000000) := η ⟨l1, by rw [l4]; exact HINV.out.2.2.1, run_sm HINV.out.2.2.2.1 _, by rw [l4]; exact HINV.out.2.2.2.2.1, by omega⟩
           clear hk hF HOW HWW HKK HT10 HX10 l1 l2 l3 l4 hln HCC10 HKW HKY HRD
           obtain ⟨w11, rfl⟩ : ∃ u, u = wr := ⟨_, rfl⟩
           go_wp2_with fail
           refine (three_run n PM.kept HT11.out hc11 HSN.out.1 HSN.out.2.1 HSN.out.2.2.1 HSN.out.2.2.2.2 hnm HSN.out.2.2.2.1).mono ?_
           rw [HNN.out]
           rintro e w12 ⟨lo1, ca1, cn1, cc1, ma1, mn1, mc1, rfl, hT, hlo, hU, F1, Z1, hR1⟩
           have HT12 := η hT
           have HX12 := η (hU.ext (fun q hq => List.mem_append_right _ (HQW.out q hq)) HX11.out)
           have hd12 := Nat.le_trans hd11 hU.size
           have HR1 := η hR1
           clear hT hlo hU HT11 HX11 hR1
           go_wp2_with fail
           refine (three_run n PM.kept HT12.out.symm hd12 HINV.out.1 HINV.out.2.2.1 HINV.out.2.2.2.1 (by have := HINV.out.2.2.2.2.2; omega) hnm HINV.out.2.2.2.2.1).mono ?_
           rintro e w13 ⟨lo2, ca2, cn2, cc2, ma2, mn2, mc2, rfl, hT, hlo, hU, F2, Z2, hR2⟩
           have HX13 := η (hU.ext (fun q hq => List.mem_append_right _ (List.mem_append_right _ (HQW.out q hq))) HX12.out)
           have HE1 := η (Turn.erd HR1.out (fun q hq => List.mem_append_left _ hq) hU)
           have HE2 := η (Hold.rfl'.erd hR2)
           rw [HEV.out] at HE1 HE2 ⊢
           clear hT hlo hU HT12 HX12 hR2 HR1
           simp only
           go_wp2_with fail
           refine (same_end ⟨ec, ea, er, es, el, em⟩ _ _ _ _ _ HE1.out HE2.out).mono ?_
           rintro e w14 ⟨rfl, hE14⟩
           go_wp2_with fail
           go_returns
           exact ⟨rfl, HX13.out.trans' hE14⟩
end Go.Proofs.YtppefchjoodgnaaGreat
