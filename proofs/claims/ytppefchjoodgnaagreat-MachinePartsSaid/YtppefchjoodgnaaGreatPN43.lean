/- What the claim leans on: Mpts. -/
import Derived.Test.YtppefchjoodgnaaGreatPN41
namespace Go.Proofs.YtppefchjoodgnaaGreat
open Go.RowKit
set_option linter.unusedVariables false
set_option linter.unusedSimpArgs false
set_option maxRecDepth 20000 in
set_option maxHeartbeats 8000000 in
theorem mparts_any (v cv dv iv rv : Value) (L0 : List Ins) (e0 : EnvD) (rows : List SV) (n2 n3 : Int) (w : World) (h : Rd w 5 Ins.enc v L0) (hok0 : InsOk L0) (he : EnvR w e0 cv dv iv rv rows) (hu : U64s e0.draws) (r2 : 0 ≤ n2 ∧ n2 ≤ 65535) (r3 : 0 ≤ n3 ∧ n3 ≤ 65535) : Calls Tryz.prog 6 #[v, .agg #[cv, dv, iv, rv], .int .u16 n2, .int .u16 n3] w fun e w' => e = .returned (.bool true) ∧ Ext w w' := by
 obtain ⟨ca, cn, cc, rfl, -, -⟩ := he.ctx.val
 obtain ⟨da, dn, dc, rfl, -, -⟩ := he.defs.val
 obtain ⟨ia, inn, ic, rfl, -, -⟩ := he.rowsR.val
 obtain ⟨ra, rn, rc, rfl, -, -⟩ := he.draws.val
 have HFR := η (front h hok0 he)
 have HOK := η (ins_take hok0).1
 have HU := η (envS_u64 hu)
 have HDS := η (envS_small e0)
 have HU8 := η (And.intro (fun x hx => he.u8 x (List.mem_of_mem_take hx) : ∀ x ∈ (envS e0).ctx, 0 ≤ x ∧ x ≤ 255) (envS_ib he.ib))
 obtain ⟨L, hL⟩ : ∃ L, L0.take 520 = L := ⟨_, rfl⟩
 obtain ⟨E, hE⟩ : ∃ E, envS e0 = E := ⟨_, rfl⟩
 rw [hL, hE] at HFR
 rw [hL] at HOK
 rw [hE] at HU HDS HU8
 clear h hok0 he hu hL hE
 cases hσ0 : RS.new L E with
 | none =>
  have hσ := η hσ0
  clear hσ0
  go_enter Tryz.func6, Tryz.ntmps6
  go_wp2_with fail
  have HBX0 := η (obj_top w (envObj (.slice ca cn cc) (.slice da dn dc) (.slice ia inn ic) (.slice ra rn rc)) rfl)
  have HX0 : Hid (Ext w (w.alloc (envObj (.slice ca cn cc) (.slice da dn dc) (.slice ia inn ic) (.slice ra rn rc)))) := η (by (repeat (first|exact xE0 _|assumption|refine xE1 ?_ _|refine xE2 ?_|refine xE3 ?_ _|refine xE4 ?_ (by assumption))))
  refine (l11_shown _).mono ?_
  rintro e w1 ⟨rfl, hE⟩
  have HX1 := η (HX0.out.trans' hE)
  have HBX := η (hE.obj HBX0.out)
  clear hE HBX0 HX0
  go_upto_region 2 with fail
  have HS1 : Hid (∀ w' : World, Ext w1 w' → w'.cell? ⟨w.heap.size, 0, none⟩ = some (.slice ca cn cc) ∧ w'.cell? ⟨w.heap.size, 1, none⟩ = some (.slice da dn dc) ∧ w'.cell? ⟨w.heap.size, 2, none⟩ = some (.slice ia inn ic) ∧ w'.cell? ⟨w.heap.size, 3, none⟩ = some (.slice ra rn rc)) := η (fun w' he => by have b0 := cO (i := 0) (he.obj HBX.out); have b1 := cO (i := 1) (he.obj HBX.out); have b2 := cO (i := 2) (he.obj HBX.out); have b3 := cO (i := 3) (he.obj HBX.out); simp only [gA, gB, gC] at b0 b1 b2 b3; exact ⟨b0, b1, b2, b3⟩)
  go_cut [10, 11] from 18 to 26 (fun vm vf wx => vm = .pointer none ∧ vf = .int .i64 1 ∧ Hid (Ext w1 wx))
  case first =>
   obtain ⟨b0, b1, b2, b3⟩ := HS1.out w1 (Ext.rfl' _)
   go_region_held3 (fun w' => w'.cell? ⟨w.heap.size, 0, none⟩ = some (.slice ca cn cc) ∧ w'.cell? ⟨w.heap.size, 1, none⟩ = some (.slice da dn dc) ∧ w'.cell? ⟨w.heap.size, 2, none⟩ = some (.slice ia inn ic) ∧ w'.cell? ⟨w.heap.size, 3, none⟩ = some (.slice ra rn rc))
    ((refine HS1.out _ ?_; (repeat (first|exact xE0 _|assumption|refine xE1 ?_ _|refine xE2 ?_|refine xE3 ?_ _|refine xE4 ?_ (by assumption)))))
    ((first
     | (go_at_call 23; refine (HFR.out.few _ (Ext.trans' HX1.out (by (repeat (first|exact xE0 _|assumption|refine xE1 ?_ _|refine xE2 ?_|refine xE3 ?_ _|refine xE4 ?_ (by assumption)))))).mono ?_; rintro e wF ⟨vF, rfl, hRF, hEF⟩; have HRF := η hRF; have hxF : Ext w1 wF := (by (repeat (first|exact xE0 _|assumption|refine xE1 ?_ _|refine xE2 ?_|refine xE3 ?_ _|refine xE4 ?_ (by assumption)))); clear hRF)
     | (go_at_call 24; refine (HFR.out.env _ (Ext.trans' HX1.out (by (repeat (first|exact xE0 _|assumption|refine xE1 ?_ _|refine xE2 ?_|refine xE3 ?_ _|refine xE4 ?_ (by assumption)))))).mono ?_; rintro e wE ⟨ve1, ve2, ve3, ve4, rowsE, rfl, hRE, hEE⟩; have HRE := η hRE; have hxE : Ext w1 wE := (by (repeat (first|exact xE0 _|assumption|refine xE1 ?_ _|refine xE2 ?_|refine xE3 ?_ _|refine xE4 ?_ (by assumption)))); clear hRE)
     | (go_at_call 22; refine (HFR.out.new _ _ _ _ _ _ _ (HRF.out.ext (by (repeat (first|exact xE0 _|assumption|refine xE1 ?_ _|refine xE2 ?_|refine xE3 ?_ _|refine xE4 ?_ (by assumption))))) (HRE.out.ext (by (repeat (first|exact xE0 _|assumption|refine xE1 ?_ _|refine xE2 ?_|refine xE3 ?_ _|refine xE4 ?_ (by assumption)))))).mono ?_; rintro e wN hN; rw [hσ.out] at hN; obtain ⟨rfl, hN⟩ := hN; have hxN : Ext w1 wN := (by (repeat (first|exact xE0 _|assumption|refine xE1 ?_ _|refine xE2 ?_|refine xE3 ?_ _|refine xE4 ?_ (by assumption)))); clear hN)))
   all_goals
    go_wp2_with fail
    go_meet
    exact ⟨rfl, rfl, η (by (repeat (first|exact xE0 _|assumption|refine xE1 ?_ _|refine xE2 ?_|refine xE3 ?_ _|refine xE4 ?_ (by assumption))))⟩
  case rest =>
   obtain ⟨rfl, rfl, HC⟩ := hcut
   have HX2 := η (HX1.out.trans' HC.out)
   have HBY := η (HC.out.obj HBX.out)
   clear HX1 HBX HS1 HC
   have HBX := HBY
   clear HBY
   go_upto_region 3 with fail
   have HS2 : Hid (∀ w' : World, Ext wc w' → w'.cell? ⟨w.heap.size, 0, none⟩ = some (.slice ca cn cc) ∧ w'.cell? ⟨w.heap.size, 1, none⟩ = some (.slice da dn dc) ∧ w'.cell? ⟨w.heap.size, 2, none⟩ = some (.slice ia inn ic) ∧ w'.cell? ⟨w.heap.size, 3, none⟩ = some (.slice ra rn rc)) := η (fun w' he => by have b0 := cO (i := 0) (he.obj HBX.out); have b1 := cO (i := 1) (he.obj HBX.out); have b2 := cO (i := 2) (he.obj HBX.out); have b3 := cO (i := 3) (he.obj HBX.out); simp only [gA, gB, gC] at b0 b1 b2 b3; exact ⟨b0, b1, b2, b3⟩)
   go_cut [12, 13] from 26 to 34 (fun vm vf wx => vm = .pointer none ∧ vf = .int .i64 1 ∧ Hid (Ext wc wx))
   case first =>
    obtain ⟨b0, b1, b2, b3⟩ := HS2.out wc (Ext.rfl' _)
    go_region_held3 (fun w' => w'.cell? ⟨w.heap.size, 0, none⟩ = some (.slice ca cn cc) ∧ w'.cell? ⟨w.heap.size, 1, none⟩ = some (.slice da dn dc) ∧ w'.cell? ⟨w.heap.size, 2, none⟩ = some (.slice ia inn ic) ∧ w'.cell? ⟨w.heap.size, 3, none⟩ = some (.slice ra rn rc))
     ((refine HS2.out _ ?_; (repeat (first|exact xE0 _|assumption|refine xE1 ?_ _|refine xE2 ?_|refine xE3 ?_ _|refine xE4 ?_ (by assumption)))))
     ((first
      | (go_at_call 23; refine (HFR.out.few _ (Ext.trans' HX2.out (by (repeat (first|exact xE0 _|assumption|refine xE1 ?_ _|refine xE2 ?_|refine xE3 ?_ _|refine xE4 ?_ (by assumption)))))).mono ?_; rintro e wF ⟨vF, rfl, hRF, hEF⟩; have HRF := η hRF; have hxF : Ext wc wF := (by (repeat (first|exact xE0 _|assumption|refine xE1 ?_ _|refine xE2 ?_|refine xE3 ?_ _|refine xE4 ?_ (by assumption)))); clear hRF)
      | (go_at_call 24; refine (HFR.out.env _ (Ext.trans' HX2.out (by (repeat (first|exact xE0 _|assumption|refine xE1 ?_ _|refine xE2 ?_|refine xE3 ?_ _|refine xE4 ?_ (by assumption)))))).mono ?_; rintro e wE ⟨ve1, ve2, ve3, ve4, rowsE, rfl, hRE, hEE⟩; have HRE := η hRE; have hxE : Ext wc wE := (by (repeat (first|exact xE0 _|assumption|refine xE1 ?_ _|refine xE2 ?_|refine xE3 ?_ _|refine xE4 ?_ (by assumption)))); clear hRE)
      | (go_at_call 22; refine (HFR.out.new _ _ _ _ _ _ _ (HRF.out.ext (by (repeat (first|exact xE0 _|assumption|refine xE1 ?_ _|refine xE2 ?_|refine xE3 ?_ _|refine xE4 ?_ (by assumption))))) (HRE.out.ext (by (repeat (first|exact xE0 _|assumption|refine xE1 ?_ _|refine xE2 ?_|refine xE3 ?_ _|refine xE4 ?_ (by assumption)))))).mono ?_; rintro e wN hN; rw [hσ.out] at hN; obtain ⟨rfl, hN⟩ := hN; have hxN : Ext wc wN := (by (repeat (first|exact xE0 _|assumption|refine xE1 ?_ _|refine xE2 ?_|refine xE3 ?_ _|refine xE4 ?_ (by assumption)))); clear hN)))
    all_goals
     go_wp2_with fail
     go_meet
     exact ⟨rfl, rfl, η (by (repeat (first|exact xE0 _|assumption|refine xE1 ?_ _|refine xE2 ?_|refine xE3 ?_ _|refine xE4 ?_ (by assumption))))⟩
   case rest =>
    obtain ⟨rfl, rfl, HC⟩ := hcut
    go_wp2_with fail
    go_returns
    exact ⟨rfl, HX2.out.trans' HC.out⟩
 | some σ =>
  have hσ := η hσ0
  have HNF := η (new_facts hσ0 HOK.out HU.out HDS.out.1 HU8.out.1 HU8.out.2)
  clear hσ0
  go_enter Tryz.func6, Tryz.ntmps6
  go_wp2_with fail
  have HBX0 := η (obj_top w (envObj (.slice ca cn cc) (.slice da dn dc) (.slice ia inn ic) (.slice ra rn rc)) rfl)
  have HX0 : Hid (Ext w (w.alloc (envObj (.slice ca cn cc) (.slice da dn dc) (.slice ia inn ic) (.slice ra rn rc)))) := η (by (repeat (first|exact xE0 _|assumption|refine xE1 ?_ _|refine xE2 ?_|refine xE3 ?_ _|refine xE4 ?_ (by assumption))))
  refine (l11_shown _).mono ?_
  rintro e w1 ⟨rfl, hE⟩
  have HX1 := η (HX0.out.trans' hE)
  have HBX := η (hE.obj HBX0.out)
  clear hE HBX0 HX0
  go_upto_region 2 with fail
  have HS1 : Hid (∀ w' : World, Ext w1 w' → w'.cell? ⟨w.heap.size, 0, none⟩ = some (.slice ca cn cc) ∧ w'.cell? ⟨w.heap.size, 1, none⟩ = some (.slice da dn dc) ∧ w'.cell? ⟨w.heap.size, 2, none⟩ = some (.slice ia inn ic) ∧ w'.cell? ⟨w.heap.size, 3, none⟩ = some (.slice ra rn rc)) := η (fun w' he => by have b0 := cO (i := 0) (he.obj HBX.out); have b1 := cO (i := 1) (he.obj HBX.out); have b2 := cO (i := 2) (he.obj HBX.out); have b3 := cO (i := 3) (he.obj HBX.out); simp only [gA, gB, gC] at b0 b1 b2 b3; exact ⟨b0, b1, b2, b3⟩)
  go_cut [10, 11] from 18 to 26 (fun vm vf wx => ∃ mb, vm = .pointer (some ⟨mb, 0, none⟩) ∧ vf = .int .i64 0 ∧ Hid (∃ wB, Ext w1 wB ∧ PS [] [] wB wB.heap.size wx mb σ))
  case first =>
   obtain ⟨b0, b1, b2, b3⟩ := HS1.out w1 (Ext.rfl' _)
   go_region_held3 (fun w' => w'.cell? ⟨w.heap.size, 0, none⟩ = some (.slice ca cn cc) ∧ w'.cell? ⟨w.heap.size, 1, none⟩ = some (.slice da dn dc) ∧ w'.cell? ⟨w.heap.size, 2, none⟩ = some (.slice ia inn ic) ∧ w'.cell? ⟨w.heap.size, 3, none⟩ = some (.slice ra rn rc))
    ((refine HS1.out _ ?_; (repeat (first|exact xE0 _|assumption|refine xE1 ?_ _|refine xE2 ?_|refine xE3 ?_ _|refine xE4 ?_ (by assumption)))))
    ((first
     | (go_at_call 23; refine (HFR.out.few _ (Ext.trans' HX1.out (by (repeat (first|exact xE0 _|assumption|refine xE1 ?_ _|refine xE2 ?_|refine xE3 ?_ _|refine xE4 ?_ (by assumption)))))).mono ?_; rintro e wF ⟨vF, rfl, hRF, hEF⟩; have HRF := η hRF; have hxF : Ext w1 wF := (by (repeat (first|exact xE0 _|assumption|refine xE1 ?_ _|refine xE2 ?_|refine xE3 ?_ _|refine xE4 ?_ (by assumption)))); clear hRF)
     | (go_at_call 24; refine (HFR.out.env _ (Ext.trans' HX1.out (by (repeat (first|exact xE0 _|assumption|refine xE1 ?_ _|refine xE2 ?_|refine xE3 ?_ _|refine xE4 ?_ (by assumption)))))).mono ?_; rintro e wE ⟨ve1, ve2, ve3, ve4, rowsE, rfl, hRE, hEE⟩; have HRE := η hRE; have hxE : Ext w1 wE := (by (repeat (first|exact xE0 _|assumption|refine xE1 ?_ _|refine xE2 ?_|refine xE3 ?_ _|refine xE4 ?_ (by assumption)))); clear hRE)
     | (go_at_call 22; refine (HFR.out.new _ _ _ _ _ _ _ (HRF.out.ext (by (repeat (first|exact xE0 _|assumption|refine xE1 ?_ _|refine xE2 ?_|refine xE3 ?_ _|refine xE4 ?_ (by assumption))))) (HRE.out.ext (by (repeat (first|exact xE0 _|assumption|refine xE1 ?_ _|refine xE2 ?_|refine xE3 ?_ _|refine xE4 ?_ (by assumption)))))).mono ?_; rintro e wN hN; rw [hσ.out] at hN; obtain ⟨mb, rfl, hN⟩ := hN; have HN := η hN; have hxN : Ext w1 wN := (by refine Ext.trans' ?_ (hN.keep.ext (fun _ h => by cases h)); (repeat (first|exact xE0 _|assumption|refine xE1 ?_ _|refine xE2 ?_|refine xE3 ?_ _|refine xE4 ?_ (by assumption)))); clear hN)))
   all_goals
    go_wp2_with fail
    go_meet
    exact ⟨_, rfl, rfl, η ⟨_, by (repeat (first|exact xE0 _|assumption|refine xE1 ?_ _|refine xE2 ?_|refine xE3 ?_ _|refine xE4 ?_ (by assumption))), HN.out⟩⟩
  case rest =>
   obtain ⟨a, rfl, rfl, HC⟩ := hcut
   obtain ⟨wB, hE1, hPA⟩ := HC.out
   have hEA : Ext wB wc := hPA.keep.ext (fun _ h => by cases h)
   have HPA := η hPA
   have HQW := η (show ∀ q, q < w.heap.size → q ∈ List.range wB.heap.size from fun q hq => List.mem_range.2 (by have := HX1.out.size; have := hE1.size; omega))
   have HX2 := η ((HX1.out.trans' hE1).trans' hEA)
   have HBY := η ((hE1.trans' hEA).obj HBX.out)
   clear HX1 HBX HS1 HC hE1 hPA hEA
   have HBX := HBY
   clear HBY
   obtain ⟨wA, hwA⟩ : ∃ u, u = wc := ⟨_, rfl⟩
   rw [← hwA] at HPA HX2 HBX ⊢
   clear hwA
   go_upto_region 3 with fail
   have HS2 : Hid (∀ w' : World, Ext wA w' → w'.cell? ⟨w.heap.size, 0, none⟩ = some (.slice ca cn cc) ∧ w'.cell? ⟨w.heap.size, 1, none⟩ = some (.slice da dn dc) ∧ w'.cell? ⟨w.heap.size, 2, none⟩ = some (.slice ia inn ic) ∧ w'.cell? ⟨w.heap.size, 3, none⟩ = some (.slice ra rn rc)) := η (fun w' he => by have b0 := cO (i := 0) (he.obj HBX.out); have b1 := cO (i := 1) (he.obj HBX.out); have b2 := cO (i := 2) (he.obj HBX.out); have b3 := cO (i := 3) (he.obj HBX.out); simp only [gA, gB, gC] at b0 b1 b2 b3; exact ⟨b0, b1, b2, b3⟩)
   go_cut [12, 13] from 26 to 34 (fun vm vf wx => ∃ mb, vm = .pointer (some ⟨mb, 0, none⟩) ∧ vf = .int .i64 0 ∧ Hid (∃ wB, Ext wA wB ∧ PS [] [] wB wB.heap.size wx mb σ))
   case first =>
    obtain ⟨b0, b1, b2, b3⟩ := HS2.out wA (Ext.rfl' _)
    go_region_held3 (fun w' => w'.cell? ⟨w.heap.size, 0, none⟩ = some (.slice ca cn cc) ∧ w'.cell? ⟨w.heap.size, 1, none⟩ = some (.slice da dn dc) ∧ w'.cell? ⟨w.heap.size, 2, none⟩ = some (.slice ia inn ic) ∧ w'.cell? ⟨w.heap.size, 3, none⟩ = some (.slice ra rn rc))
     ((refine HS2.out _ ?_; (repeat (first|exact xE0 _|assumption|refine xE1 ?_ _|refine xE2 ?_|refine xE3 ?_ _|refine xE4 ?_ (by assumption)))))
     ((first
      | (go_at_call 23; refine (HFR.out.few _ (Ext.trans' HX2.out (by (repeat (first|exact xE0 _|assumption|refine xE1 ?_ _|refine xE2 ?_|refine xE3 ?_ _|refine xE4 ?_ (by assumption)))))).mono ?_; rintro e wF ⟨vF, rfl, hRF, hEF⟩; have HRF := η hRF; have hxF : Ext wA wF := (by (repeat (first|exact xE0 _|assumption|refine xE1 ?_ _|refine xE2 ?_|refine xE3 ?_ _|refine xE4 ?_ (by assumption)))); clear hRF)
      | (go_at_call 24; refine (HFR.out.env _ (Ext.trans' HX2.out (by (repeat (first|exact xE0 _|assumption|refine xE1 ?_ _|refine xE2 ?_|refine xE3 ?_ _|refine xE4 ?_ (by assumption)))))).mono ?_; rintro e wE ⟨ve1, ve2, ve3, ve4, rowsE, rfl, hRE, hEE⟩; have HRE := η hRE; have hxE : Ext wA wE := (by (repeat (first|exact xE0 _|assumption|refine xE1 ?_ _|refine xE2 ?_|refine xE3 ?_ _|refine xE4 ?_ (by assumption)))); clear hRE)
      | (go_at_call 22; refine (HFR.out.new _ _ _ _ _ _ _ (HRF.out.ext (by (repeat (first|exact xE0 _|assumption|refine xE1 ?_ _|refine xE2 ?_|refine xE3 ?_ _|refine xE4 ?_ (by assumption))))) (HRE.out.ext (by (repeat (first|exact xE0 _|assumption|refine xE1 ?_ _|refine xE2 ?_|refine xE3 ?_ _|refine xE4 ?_ (by assumption)))))).mono ?_; rintro e wN hN; rw [hσ.out] at hN; obtain ⟨mb, rfl, hN⟩ := hN; have HN := η hN; have hxN : Ext wA wN := (by refine Ext.trans' ?_ (hN.keep.ext (fun _ h => by cases h)); (repeat (first|exact xE0 _|assumption|refine xE1 ?_ _|refine xE2 ?_|refine xE3 ?_ _|refine xE4 ?_ (by assumption)))); clear hN)))
    all_goals
     go_wp2_with fail
     go_meet
     exact ⟨_, rfl, rfl, η ⟨_, by (repeat (first|exact xE0 _|assumption|refine xE1 ?_ _|refine xE2 ?_|refine xE3 ?_ _|refine xE4 ?_ (by assumption))), HN.out⟩⟩
   case rest =>
    obtain ⟨b, rfl, rfl, HC⟩ := hcut
    obtain ⟨wb, hE1, hPB⟩ := HC.out
    have hEB : Ext wb wc := hPB.keep.ext (fun _ h => by cases h)
    have HT0 := η (Two2.made (B := PM wb.heap.size b σ) PM.kept HPA.out.relT hE1 hPB.relT (fun j hj => by cases hj))
    have HX3 := η ((HX2.out.trans' hE1).trans' hEB)
    have hba : wB.heap.size ≤ wc.heap.size := by have := HPA.out.keep.size; have := hE1.size; have := hEB.size; omega
    have hbb : wb.heap.size ≤ wc.heap.size := hEB.size
    clear HX2 HBX HS2 HC hE1 hPB hEB HPA HFR HDS HU8 HOK
    generalize hQ : List.range wB.heap.size = Q at HT0 HQW
    generalize hBA : wB.heap.size = ba at HT0 hba
    generalize hBB : wb.heap.size = bb at HT0 hbb
    clear hQ hBA hBB
    have HINV := η (⟨HNF.out.inv, HNF.out.u8, HNF.out.defs, HNF.out.sm, HNF.out.dl, HNF.out.steps⟩ : σ.Inv ∧ BytesOk σ.V.1 ∧ DefsOk σ.D ∧ CallsSm σ ∧ σ.D.length ≤ 1000000 ∧ σ.steps = 0)
    obtain ⟨n, hn⟩ : ∃ n : Int, n2.tmod 1001 = n := ⟨_, rfl⟩
    have hn0 : 0 ≤ n ∧ n ≤ 1000 := by rw [← hn, Int.tmod_eq_emod_of_nonneg r2.1]; omega
    go_upto_region 7 with fail
    obtain ⟨k, hk⟩ : ∃ k : Int, n3.tmod (n + 1) = k := ⟨_, rfl⟩
    have hk0 : 0 ≤ k ∧ k ≤ n := by rw [← hk, Int.tmod_eq_emod_of_nonneg r3.1]; have := Int.emod_nonneg n3 (show n + 1 ≠ 0 by omega); have := Int.emod_lt_of_pos n3 (show 0 < n + 1 by omega); omega
    obtain ⟨i1, i2, i3, i4, i5, i6⟩ := HINV.out
    obtain ⟨j1, j2, j3, j4⟩ := run_inv i1 i2 k
    have hkk := run_two _ σ k n rfl i1 i2 hk0.2
    have hle := run_le _ σ k rfl i1 i2 (by omega)
    have hln := run_le _ σ n rfl i1 i2 (by omega)
    have HSK : Hid ((σ.run k).Inv ∧ DefsOk (σ.run k).D ∧ CallsSm (σ.run k) ∧ (σ.run k).D.length ≤ 1000000 ∧ (σ.run k).steps ≤ 1000000) := η ⟨j1, by rw [j4]; exact i3, run_sm i4 _, by rw [j4]; exact i5, by omega⟩
    obtain ⟨l1, l2, l3, l4⟩ := run_inv i1 i2 n
    have HSN : Hid ((σ.run n).Inv ∧ DefsOk (σ.run n).D ∧ CallsSm (σ.run n) ∧ (σ.run n).D.length ≤ 1000000 ∧ (σ.run n).steps ≤ 1000000) := η ⟨l1, by rw [l4]; exact i3, run_sm i4 _, by rw [l4]; exact i5, by omega⟩
    have HCODE := η (HNF.out.stay.run HU.out i1 i2 n).codeV
    have HKK := η hkk
    have HNN := η (run_two _ σ n n rfl i1 i2 (Int.le_refl _))
    have hst : (σ.run n).endV.steps ≤ n := hln
    have hkm : k ≤ 1000000 := by omega
    have hnm : n ≤ 1000000 := by omega
    clear i1 i2 i3 i4 i5 i6 j1 j2 j3 j4 l1 l2 l3 l4 hkk hle hln
    go_wp2_with fail
    refine (two_run2 k PM.kept HT0.out hba HINV.out.1 HINV.out.2.2.1 HINV.out.2.2.2.1 (by have := HINV.out.2.2.2.2.2; omega) hkm HINV.out.2.2.2.2.1).mono ?_
    rintro e w4 ⟨lo, ca0, cn0, cc0, ma0, mn0, mc0, rfl, hT, hlo, hU, -⟩
    have HT1 := η (hT.sub (Q' := Q) (fun q hq => List.mem_append_right _ hq))
    have HX4 := η (hU.ext HQW.out HX3.out)
    have hs4 := hU.size
    clear hT hlo hU HT0 HX3
    go_wp2_with fail
    refine (two_run2 n PM.kept HT1.out (Nat.le_trans hba hs4) HSK.out.1 HSK.out.2.1 HSK.out.2.2.1 HSK.out.2.2.2.2 hnm HSK.out.2.2.2.1).mono ?_
    rw [HKK.out]
    rintro e w5 ⟨lo1, ca1, cn1, cc1, ma1, mn1, mc1, rfl, hT, hlo, hU, F1, Z1, hR1⟩
    have HT2 := η hT
    have HX5 := η (hU.ext HQW.out HX4.out)
    have hs5 := Nat.le_trans hs4 hU.size
    have HR1 := η hR1
    clear hT hlo hU HT1 HX4 hR1
    go_wp2_with fail
    refine (two_run2 n PM.kept HT2.out.symm (Nat.le_trans hbb hs5) HINV.out.1 HINV.out.2.2.1 HINV.out.2.2.2.1 (by have := HINV.out.2.2.2.2.2; omega) hnm HINV.out.2.2.2.2.1).mono ?_
    rintro e w6 ⟨lo2, ca2, cn2, cc2, ma2, mn2, mc2, rfl, hT, hlo, hU, F2, Z2, hR2⟩
    have HT3 := η hT.symm
    have HX6 := η (hU.ext (fun q hq => List.mem_append_right _ (HQW.out q hq)) HX5.out)
    have hs6 := Nat.le_trans hs5 hU.size
    have HR2 := η hR2
    have HE1 := η (Turn.erd HR1.out (fun q hq => List.mem_append_left _ hq) hU)
    have HE2 := η (Hold.rfl'.erd hR2)
    clear hT hlo hU HT2 HX5 hR2 HR1
    have hcd := HCODE.out
    obtain ⟨ev, hev⟩ : ∃ ev, (σ.run n).endV = ev := ⟨_, rfl⟩
    rw [hev] at hst hcd HE1 HE2 ⊢
    have HEV := η hev
    clear hev HCODE
    obtain ⟨ec, ea, er, es, el, em⟩ := ev
    simp only at hst hcd HE1 HE2 ⊢
    have hstb : decide (n < es) = false := by simpa using hst
    go_upto_region 9 with fail
    obtain ⟨w7, hw7⟩ : ∃ u, (w6.alloc (endOb ec ea er es (.slice ca1 cn1 cc1) (.slice ma1 mn1 mc1))).alloc (endOb ec ea er es (.slice ca2 cn2 cc2) (.slice ma2 mn2 mc2)) = u := ⟨_, rfl⟩
    have hE7 : Ext w6 w7 := by rw [← hw7]; (repeat (first|exact xE0 _|assumption|refine xE1 ?_ _|refine xE2 ?_|refine xE3 ?_ _|refine xE4 ?_ (by assumption)))
    have o1 : w7.heap[w6.heap.size]? = some (endOb ec ea er es (.slice ca1 cn1 cc1) (.slice ma1 mn1 mc1)) := by rw [← hw7]; exact obj_old _ (obj_top _ _ rfl)
    have o2 : w7.heap[w6.heap.size + 1]? = some (endOb ec ea er es (.slice ca2 cn2 cc2) (.slice ma2 mn2 mc2)) := by rw [← hw7]; exact obj_top _ _ (by simp)
    have hz7 : w6.heap.size + 2 ≤ w7.heap.size := by rw [← hw7]; simp
    rw [hw7]
    clear hw7
    have HT4 := η (HT3.out.more PM.kept PM.kept hE7 (Q' := [w6.heap.size, w6.heap.size + 1]) (fun q hq => by simp only [List.mem_cons, List.not_mem_nil, or_false] at hq; omega))
    have HX7 := η (HX6.out.trans' hE7)
    have HX68 := η hE7
    have hs7 := Nat.le_trans hs6 hE7.size
    have HE3 := η (And.intro (HE1.out.ext hE7) (HE2.out.ext hE7))
    have HO1 := η o1
    have HO2 := η o2
    clear HT3 HX6 HE1 HE2 hE7 o1 o2 hz7
    (have b0 := cO (i := 0) (HO1.out); have b1 := cO (i := 1) (HO1.out); have b2 := cO (i := 2) (HO1.out); have b3 := cO (i := 3) (HO1.out); have b4 := cO (i := 4) (HO1.out); have b5 := cO (i := 5) (HO1.out); have bf := fun i => frozen_obj (i := i) (HO1.out); simp only [gA, gB, gC] at b0 b1 b2 b3 b4 b5)
    (have d0 := cO (i := 0) (HO2.out); have d1 := cO (i := 1) (HO2.out); have d2 := cO (i := 2) (HO2.out); have d3 := cO (i := 3) (HO2.out); have d4 := cO (i := 4) (HO2.out); have d5 := cO (i := 5) (HO2.out); have df := fun i => frozen_obj (i := i) (HO2.out); simp only [gA, gB, gC] at d0 d1 d2 d3 d4 d5)
    go_wp2_with fail
    refine (same_end ⟨ec, ea, er, es, el, em⟩ _ _ _ _ _ HE3.out.1 HE3.out.2).mono ?_
    rintro e w8 ⟨rfl, hE8⟩
    have HH := η (Hold.rfl'.ext (lo := lo2) (hi := w6.heap.size) (HX68.out.trans' hE8))
    have HT5 := η (HT4.out.ext PM.kept PM.kept hE8)
    have HX8 := η (HX7.out.trans' hE8)
    have hs8 := Nat.le_trans hs7 hE8.size
    have h68 := (HX68.out.trans' hE8).size
    have HP1 := η (hE8.obj HO1.out)
    have HP2 := η (hE8.obj HO2.out)
    clear b0 b1 b2 b3 b4 b5 bf d0 d1 d2 d3 d4 d5 df hE8 HT4 HX7 HX68 HO1 HO2 HE3
    (have b0 := cO (i := 0) (HP1.out); have b1 := cO (i := 1) (HP1.out); have b2 := cO (i := 2) (HP1.out); have b3 := cO (i := 3) (HP1.out); have b4 := cO (i := 4) (HP1.out); have b5 := cO (i := 5) (HP1.out); have bf := fun i => frozen_obj (i := i) (HP1.out); simp only [gA, gB, gC] at b0 b1 b2 b3 b4 b5)
    go_wp2_with fail
    refine (two_over PM.kept HT5.out (Nat.le_trans hba hs8)).mono ?_
    cases hov : (σ.run n).over with
    | false =>
     obtain rfl := hcd.2 hov
     have HOV := η hov
     rintro e w9 ⟨rfl, hT, hE⟩
     have HT9 := η hT
     have HX9 := η (HX8.out.trans' hE)
     have HH9 := η (HH.out.ext hE)
     have hs9 := Nat.le_trans hs8 hE.size
     have h69 := Nat.le_trans h68 hE.size
     have HQ1 := η (hE.obj HP1.out)
     have HQ2 := η (hE.obj HP2.out)
     clear b0 b1 b2 b3 b4 b5 bf hov hcd hT hE HT5 HX8 HH HP1 HP2
     go_upto_region 13 with fail
     obtain ⟨wx9, hwx⟩ : ∃ u, u = w9 := ⟨_, rfl⟩
     have HS : Hid (∀ w' : World, (∀ q ∈ [w6.heap.size, w6.heap.size + 1], ∀ o, w9.heap[q]? = some o → w'.heap[q]? = some o) → w'.cell? ⟨w6.heap.size, 0, none⟩ = some (.int .i64 111) ∧ w'.cell? ⟨w6.heap.size + 1, 0, none⟩ = some (.int .i64 111) ∧ w'.cell? ⟨w6.heap.size + 1, 1, none⟩ = some (.int .i64 ea) ∧ w'.cell? ⟨w6.heap.size + 1, 2, none⟩ = some (.int .u64 er) ∧ w'.cell? ⟨w6.heap.size + 1, 3, none⟩ = some (.int .i64 es) ∧ w'.cell? ⟨w6.heap.size + 1, 4, none⟩ = some (.slice ca2 cn2 cc2) ∧ w'.cell? ⟨w6.heap.size + 1, 5, none⟩ = some (.slice ma2 mn2 mc2)) := η (fun w' hk => by
      have p1 := hk _ (by simp) _ HQ1.out
      have p2 := hk _ (by simp) _ HQ2.out
      have b0 := cO (i := 0) p1; have d0 := cO (i := 0) p2; have d1 := cO (i := 1) p2; have d2 := cO (i := 2) p2; have d3 := cO (i := 3) p2; have d4 := cO (i := 4) p2; have d5 := cO (i := 5) p2
      simp only [gA, gB, gC] at b0 d0 d1 d2 d3 d4 d5
      exact ⟨b0, d0, d1, d2, d3, d4, d5⟩)
     obtain ⟨s1, s2, s3, s4, s5, s6, s7⟩ := HS.out w9 (fun _ _ _ h => h)
     clear hwx HQ1 HQ2
     go_region_held3 (fun w' => w'.cell? ⟨w6.heap.size, 0, none⟩ = some (.int .i64 111) ∧ w'.cell? ⟨w6.heap.size + 1, 0, none⟩ = some (.int .i64 111) ∧ w'.cell? ⟨w6.heap.size + 1, 1, none⟩ = some (.int .i64 ea) ∧ w'.cell? ⟨w6.heap.size + 1, 2, none⟩ = some (.int .u64 er) ∧ w'.cell? ⟨w6.heap.size + 1, 3, none⟩ = some (.int .i64 es) ∧ w'.cell? ⟨w6.heap.size + 1, 4, none⟩ = some (.slice ca2 cn2 cc2) ∧ w'.cell? ⟨w6.heap.size + 1, 5, none⟩ = some (.slice ma2 mn2 mc2))
      ((first | exact HS.out _ HKR.out | exact HS.out _ (fun q hq o ho => Ext.obj (by (repeat (first|exact xE0 _|assumption|refine xE1 ?_ _|refine xE2 ?_|refine xE3 ?_ _|refine xE4 ?_ (by assumption)))) (HKR.out q hq o ho)) | exact HS.out _ (fun q hq o ho => Ext.obj (by (repeat (first|exact xE0 _|assumption|refine xE1 ?_ _|refine xE2 ?_|refine xE3 ?_ _|refine xE4 ?_ (by assumption)))) ho)))
      ((first
       | (go_at_call 25; refine (two_run2 n PM.kept (HT9.out.ext PM.kept PM.kept (by (repeat (first|exact xE0 _|assumption|refine xE1 ?_ _|refine xE2 ?_|refine xE3 ?_ _|refine xE4 ?_ (by assumption))))) (Nat.le_trans (Nat.le_trans hba hs9) (show Ext w9 _ from (by (repeat (first|exact xE0 _|assumption|refine xE1 ?_ _|refine xE2 ?_|refine xE3 ?_ _|refine xE4 ?_ (by assumption))))).size) HSN.out.1 HSN.out.2.1 HSN.out.2.2.1 HSN.out.2.2.2.2 hnm HSN.out.2.2.2.1).mono ?_; rw [HNN.out]; simp only [HEV.out]; rintro e wR ⟨lo3, ca3, cn3, cc3, ma3, mn3, mc3, rfl, hT, hlo, hU, F3, Z3, hR⟩; have HTR := η hT; have HKR : Hid (∀ q ∈ [w6.heap.size, w6.heap.size + 1], ∀ o, w9.heap[q]? = some o → wR.heap[q]? = some o) := η (fun q hq o ho => hU.obj (List.mem_append_left _ hq) (Ext.obj (by (repeat (first|exact xE0 _|assumption|refine xE1 ?_ _|refine xE2 ?_|refine xE3 ?_ _|refine xE4 ?_ (by assumption)))) ho)); have HXR := η (hU.ext (fun q hq => List.mem_append_right _ (List.mem_append_right _ (List.mem_append_right _ (HQW.out q hq)))) (HX9.out.trans' (by (repeat (first|exact xE0 _|assumption|refine xE1 ?_ _|refine xE2 ?_|refine xE3 ?_ _|refine xE4 ?_ (by assumption)))))); have HER1 := η (Hold.rfl'.erd hR); have HER2 := η (((HH9.out.ext (by (repeat (first|exact xE0 _|assumption|refine xE1 ?_ _|refine xE2 ?_|refine xE3 ?_ _|refine xE4 ?_ (by assumption))))).turn (Nat.le_trans h69 (show Ext w9 _ from (by (repeat (first|exact xE0 _|assumption|refine xE1 ?_ _|refine xE2 ?_|refine xE3 ?_ _|refine xE4 ?_ (by assumption))))).size) hU (fun q hq => List.mem_append_right _ (List.mem_append_left _ hq))).erd HR2.out); rw [HEV.out] at HER1 HER2; have hsR := Nat.le_trans (Nat.le_trans hs9 (show Ext w9 _ from (by (repeat (first|exact xE0 _|assumption|refine xE1 ?_ _|refine xE2 ?_|refine xE3 ?_ _|refine xE4 ?_ (by assumption))))).size) hU.size; clear hT hlo hU hR)
       | (go_at_call 15; refine (same_end ⟨111, ea, er, es, el, em⟩ _ _ _ _ _ (HER1.out.ext (by (repeat (first|exact xE0 _|assumption|refine xE1 ?_ _|refine xE2 ?_|refine xE3 ?_ _|refine xE4 ?_ (by assumption))))) (HER2.out.ext (by (repeat (first|exact xE0 _|assumption|refine xE1 ?_ _|refine xE2 ?_|refine xE3 ?_ _|refine xE4 ?_ (by assumption)))))).mono ?_; rintro e wS ⟨rfl, hES⟩; have hxS : Ext wR wS := (by (repeat (first|exact xE0 _|assumption|refine xE1 ?_ _|refine xE2 ?_|refine xE3 ?_ _|refine xE4 ?_ (by assumption)))))
       | (go_at_call 26; refine (two_over PM.kept (HTR.out.ext PM.kept PM.kept (by (repeat (first|exact xE0 _|assumption|refine xE1 ?_ _|refine xE2 ?_|refine xE3 ?_ _|refine xE4 ?_ (by assumption))))) (Nat.le_trans (Nat.le_trans hba hsR) (show Ext wR _ from (by (repeat (first|exact xE0 _|assumption|refine xE1 ?_ _|refine xE2 ?_|refine xE3 ?_ _|refine xE4 ?_ (by assumption))))).size)).mono ?_; rw [HOV.out]; rintro e wO ⟨rfl, hTO, hEO⟩; clear hTO; have hxO : Ext wR wO := (by (repeat (first|exact xE0 _|assumption|refine xE1 ?_ _|refine xE2 ?_|refine xE3 ?_ _|refine xE4 ?_ (by assumption)))))))
     all_goals
      go_wp2_with fail
      go_returns
      exact ⟨rfl, HXR.out.trans' (by (repeat (first|exact xE0 _|assumption|refine xE1 ?_ _|refine xE2 ?_|refine xE3 ?_ _|refine xE4 ?_ (by assumption))))⟩
    | true =>
     have hcb : (ec == 111) = false := by
      cases hb : (ec == 111)
      ·rfl
      ·have := hcd.1 (by simpa using hb); rw [hov] at this; cases this
     have HOV := η hov
     rintro e wo ⟨rfl, hT, hE⟩
     have HT6 := η hT
     have HXo := η (HX8.out.trans' hE)
     have HHo := η (HH.out.ext hE)
     have hso := Nat.le_trans hs8 hE.size
     have h6o := Nat.le_trans h68 hE.size
     have HO1 := η (hE.obj HP1.out)
     have HO2 := η (hE.obj HP2.out)
     clear b0 b1 b2 b3 b4 b5 bf hov hcd hT hE HT5 HX8 HH HP1 HP2
     go_wp2_with fail
     refine (two_step PM.kept HT6.out (Nat.le_trans hba hso) (HSN.out.1.good HSN.out.2.2.2.2) HSN.out.2.1 (fun h => by rw [HOV.out] at h; cases h)).mono ?_
     rw [step_over HOV.out]
     rintro e w9 ⟨rfl, hT, hU⟩
     have HT9 := η hT
     have HX9 := η (hU.ext (fun q hq => List.mem_append_right _ (List.mem_append_right _ (List.mem_append_right _ (HQW.out q hq)))) HXo.out)
     have HH9 := η (HHo.out.turn h6o hU (fun q hq => List.mem_append_right _ (List.mem_append_left _ hq)))
     have hs9 := Nat.le_trans hso hU.size
     have h69 := Nat.le_trans h6o hU.size
     have HQ1 := η (hU.obj (List.mem_append_left _ (by simp)) HO1.out)
     have HQ2 := η (hU.obj (List.mem_append_left _ (by simp)) HO2.out)
     clear hT hU HT6 HXo HHo HO1 HO2
     go_upto_region 13 with fail
     obtain ⟨wx9, hwx⟩ : ∃ u, u = w9 := ⟨_, rfl⟩
     have HS : Hid (∀ w' : World, (∀ q ∈ [w6.heap.size, w6.heap.size + 1], ∀ o, w9.heap[q]? = some o → w'.heap[q]? = some o) → w'.cell? ⟨w6.heap.size, 0, none⟩ = some (.int .i64 ec) ∧ w'.cell? ⟨w6.heap.size + 1, 0, none⟩ = some (.int .i64 ec) ∧ w'.cell? ⟨w6.heap.size + 1, 1, none⟩ = some (.int .i64 ea) ∧ w'.cell? ⟨w6.heap.size + 1, 2, none⟩ = some (.int .u64 er) ∧ w'.cell? ⟨w6.heap.size + 1, 3, none⟩ = some (.int .i64 es) ∧ w'.cell? ⟨w6.heap.size + 1, 4, none⟩ = some (.slice ca2 cn2 cc2) ∧ w'.cell? ⟨w6.heap.size + 1, 5, none⟩ = some (.slice ma2 mn2 mc2)) := η (fun w' hk => by
      have p1 := hk _ (by simp) _ HQ1.out
      have p2 := hk _ (by simp) _ HQ2.out
      have b0 := cO (i := 0) p1; have d0 := cO (i := 0) p2; have d1 := cO (i := 1) p2; have d2 := cO (i := 2) p2; have d3 := cO (i := 3) p2; have d4 := cO (i := 4) p2; have d5 := cO (i := 5) p2
      simp only [gA, gB, gC] at b0 d0 d1 d2 d3 d4 d5
      exact ⟨b0, d0, d1, d2, d3, d4, d5⟩)
     obtain ⟨s1, s2, s3, s4, s5, s6, s7⟩ := HS.out w9 (fun _ _ _ h => h)
     clear hwx HQ1 HQ2
     go_region_held3 (fun w' => w'.cell? ⟨w6.heap.size, 0, none⟩ = some (.int .i64 ec) ∧ w'.cell? ⟨w6.heap.size + 1, 0, none⟩ = some (.int .i64 ec) ∧ w'.cell? ⟨w6.heap.size + 1, 1, none⟩ = some (.int .i64 ea) ∧ w'.cell? ⟨w6.heap.size + 1, 2, none⟩ = some (.int .u64 er) ∧ w'.cell? ⟨w6.heap.size + 1, 3, none⟩ = some (.int .i64 es) ∧ w'.cell? ⟨w6.heap.size + 1, 4, none⟩ = some (.slice ca2 cn2 cc2) ∧ w'.cell? ⟨w6.heap.size + 1, 5, none⟩ = some (.slice ma2 mn2 mc2))
      ((first | exact HS.out _ HKR.out | exact HS.out _ (fun q hq o ho => Ext.obj (by (repeat (first|exact xE0 _|assumption|refine xE1 ?_ _|refine xE2 ?_|refine xE3 ?_ _|refine xE4 ?_ (by assumption)))) (HKR.out q hq o ho)) | exact HS.out _ (fun q hq o ho => Ext.obj (by (repeat (first|exact xE0 _|assumption|refine xE1 ?_ _|refine xE2 ?_|refine xE3 ?_ _|refine xE4 ?_ (by assumption)))) ho)))
      ((first
       | (go_at_call 25; refine (two_run2 n PM.kept (HT9.out.ext PM.kept PM.kept (by (repeat (first|exact xE0 _|assumption|refine xE1 ?_ _|refine xE2 ?_|refine xE3 ?_ _|refine xE4 ?_ (by assumption))))) (Nat.le_trans (Nat.le_trans hba hs9) (show Ext w9 _ from (by (repeat (first|exact xE0 _|assumption|refine xE1 ?_ _|refine xE2 ?_|refine xE3 ?_ _|refine xE4 ?_ (by assumption))))).size) HSN.out.1 HSN.out.2.1 HSN.out.2.2.1 HSN.out.2.2.2.2 hnm HSN.out.2.2.2.1).mono ?_; rw [HNN.out]; simp only [HEV.out]; rintro e wR ⟨lo3, ca3, cn3, cc3, ma3, mn3, mc3, rfl, hT, hlo, hU, F3, Z3, hR⟩; have HTR := η hT; have HKR : Hid (∀ q ∈ [w6.heap.size, w6.heap.size + 1], ∀ o, w9.heap[q]? = some o → wR.heap[q]? = some o) := η (fun q hq o ho => hU.obj (List.mem_append_left _ hq) (Ext.obj (by (repeat (first|exact xE0 _|assumption|refine xE1 ?_ _|refine xE2 ?_|refine xE3 ?_ _|refine xE4 ?_ (by assumption)))) ho)); have HXR := η (hU.ext (fun q hq => List.mem_append_right _ (List.mem_append_right _ (List.mem_append_right _ (HQW.out q hq)))) (HX9.out.trans' (by (repeat (first|exact xE0 _|assumption|refine xE1 ?_ _|refine xE2 ?_|refine xE3 ?_ _|refine xE4 ?_ (by assumption)))))); have HER1 := η (Hold.rfl'.erd hR); have HER2 := η (((HH9.out.ext (by (repeat (first|exact xE0 _|assumption|refine xE1 ?_ _|refine xE2 ?_|refine xE3 ?_ _|refine xE4 ?_ (by assumption))))).turn (Nat.le_trans h69 (show Ext w9 _ from (by (repeat (first|exact xE0 _|assumption|refine xE1 ?_ _|refine xE2 ?_|refine xE3 ?_ _|refine xE4 ?_ (by assumption))))).size) hU (fun q hq => List.mem_append_right _ (List.mem_append_left _ hq))).erd HR2.out); rw [HEV.out] at HER1 HER2; have hsR := Nat.le_trans (Nat.le_trans hs9 (show Ext w9 _ from (by (repeat (first|exact xE0 _|assumption|refine xE1 ?_ _|refine xE2 ?_|refine xE3 ?_ _|refine xE4 ?_ (by assumption))))).size) hU.size; clear hT hlo hU hR)
       | (go_at_call 15; refine (same_end ⟨ec, ea, er, es, el, em⟩ _ _ _ _ _ (HER1.out.ext (by (repeat (first|exact xE0 _|assumption|refine xE1 ?_ _|refine xE2 ?_|refine xE3 ?_ _|refine xE4 ?_ (by assumption))))) (HER2.out.ext (by (repeat (first|exact xE0 _|assumption|refine xE1 ?_ _|refine xE2 ?_|refine xE3 ?_ _|refine xE4 ?_ (by assumption)))))).mono ?_; rintro e wS ⟨rfl, hES⟩; have hxS : Ext wR wS := (by (repeat (first|exact xE0 _|assumption|refine xE1 ?_ _|refine xE2 ?_|refine xE3 ?_ _|refine xE4 ?_ (by assumption)))))
       | (go_at_call 26; refine (two_over PM.kept (HTR.out.ext PM.kept PM.kept (by (repeat (first|exact xE0 _|assumption|refine xE1 ?_ _|refine xE2 ?_|refine xE3 ?_ _|refine xE4 ?_ (by assumption))))) (Nat.le_trans (Nat.le_trans hba hsR) (show Ext wR _ from (by (repeat (first|exact xE0 _|assumption|refine xE1 ?_ _|refine xE2 ?_|refine xE3 ?_ _|refine xE4 ?_ (by assumption))))).size)).mono ?_; rw [HOV.out]; rintro e wO ⟨rfl, hTO, hEO⟩; clear hTO; have hxO : Ext wR wO := (by (repeat (first|exact xE0 _|assumption|refine xE1 ?_ _|refine xE2 ?_|refine xE3 ?_ _|refine xE4 ?_ (by assumption)))))))
     all_goals
      go_wp2_with fail
      go_returns
      exact ⟨rfl, HXR.out.trans' (by (repeat (first|exact xE0 _|assumption|refine xE1 ?_ _|refine xE2 ?_|refine xE3 ?_ _|refine xE4 ?_ (by assumption))))⟩
end Go.Proofs.YtppefchjoodgnaaGreat
