/- What the claim leans on: PmT · Le · Lf · GrD · GrS. -/
import Derived.Test.YtppefchjoodgnaaGreatPN37
import Derived.Test.YtppefchjoodgnaaGreatPN36
import Derived.Test.YtppefchjoodgnaaGreatPN34
import Derived.Test.YtppefchjoodgnaaGreatPN29
import Derived.Test.YtppefchjoodgnaaGreatPN03
import Derived.BigQuiet
namespace Go.Proofs.YtppefchjoodgnaaGreat
open Go.RowKit
set_option linter.unusedVariables false
set_option linter.unusedSimpArgs false
section
theorem own_ne {α : Type} {w : World} {base b r sz : Nat} {e : TypeId} {enc : α → List Value} {v : Value} {xs : List α} (ho : Own w base e sz enc v xs) (hm : MemAt w b r []) (he : e ≠ 147) : ∀ j, v.ownBlock = some j → j ≠ b ∧ j ≠ r := by
 intro j hj
 rcases ho.2 with ⟨h0, _⟩ | ⟨g, cap, cur, hv, _, hg, _⟩
 ·rw [h0] at hj; cases hj
 ·rw [hv] at hj
  cases hj
  refine ⟨fun e1 => ?_, fun e1 => ?_⟩
  ·subst e1
   rw [hm.head] at hg
   injection hg with hg
   injection hg with _ hg
   exact he hg.symm
  ·subst e1
   obtain ⟨es, cl, hr, -⟩ := hm.map
   rw [hr] at hg
   cases hg
set_option maxRecDepth 20000 in
set_option maxHeartbeats 8000000 in
theorem p_New (lv cv dv iv rv : Value) (rows : List SV) (L : List Ins) (e : EnvD) (w : World) (h : Rd w 5 Ins.enc lv L) (hl : L.length ≤ 1000000) (hok : InsOk L) (he : EnvR w e cv dv iv rv rows) (hdl : e.defs.length ≤ 1000000) (hd : e.draws.length ≤ 1000000) :
  Calls Tryz.prog 22 #[lv, .agg #[cv, dv, iv, rv]] w (NewPA (RS.new L e) w) := by
 have HD := η h
 have HL := η hl
 have HOK := η hok
 have HE := η he
 obtain ⟨ca, cn, cc, rfl, hcn, hCN⟩ := he.ctx.val
 obtain ⟨da, dn, dc, rfl, hdn, hDN⟩ := he.defs.val
 obtain ⟨ia, inn, ic, rfl, hin, hIN⟩ := he.rowsR.val
 obtain ⟨ra, rn, rc, rfl, hrn, hRN⟩ := he.draws.val
 obtain ⟨la, ln, lc, rfl, hln, hLN⟩ := h.val
 have hlen := η he.len
 have HCI := η (fun W (hW : Ext w W) => clone_ins _ L W (HD.out.ext hW) (by omega))
 have HCD := η (fun W (hW : Ext w W) => clone_def _ e.defs W (HE.out.defs.ext hW) (by omega))
 have HCR := η (fun W (hW : Ext w W) => clone_u64 _ e.draws W (HE.out.draws.ext hW) (by omega))
 clear h hl hok he
 obtain ⟨res, hres⟩ : ∃ r, RS.new L e = r := ⟨_, rfl⟩
 rw [hres]
 have HRES := η hres
 clear hres
 go_enter Tryz.func22, Tryz.ntmps22
 go_upto_region 1 with fail
 go_cut [7] from 17 to 22 (fun v wx => ∃ er : Int, v = .int .i64 er ∧ Hid (decide (er = 0) = progS L ∧ Ext w wx ∧ wx.heap[w.heap.size]? = some (envObj (.slice ca cn cc) (.slice da dn dc) (.slice ia inn ic) (.slice ra rn rc))))
 case first =>
  go_wp2_with fail
  refine (p_Check _ L _ (HD.out.ext (by (repeat (first|exact xE0 _|assumption|refine xE1 ?_ _|refine xE2 ?_|refine xE3 ?_ _|refine xE4 ?_ (by assumption))))) HL.out HOK.out).mono ?_
  rintro e1 w5 ⟨at_, er, rfl, her, hE⟩
  have HER := η her
  clear her
  go_wp2_with fail
  go_meet
  exact ⟨er, rfl, η ⟨HER.out, Ext.trans' ((Ext.rfl' _).alloc' _) hE, hE.obj (obj_top w _ rfl)⟩⟩
 case rest =>
  obtain ⟨er, rfl, HC⟩ := hcut
  have HE1 := η HC.out.2.1
  have HBX := η HC.out.2.2
  have HER := η HC.out.1
  clear HC
  (have x0 := cO (i := 0) (HBX.out); have x1 := cO (i := 1) (HBX.out); have x2 := cO (i := 2) (HBX.out); have x3 := cO (i := 3) (HBX.out); have xf := fun i => frozen_obj (i := i) (HBX.out); simp only [gA, gB, gC] at x0 x1 x2 x3)
  by_cases hbad : progS L = false ∨ 64 < e.ctx.length ∨ e.defs.length < e.items.length
  ·have HN : Hid (res = none) := η (by rw [← HRES.out, RS.new, if_pos hbad])
   obtain ⟨z1, hz1⟩ : ∃ b, (er != 0) = b := ⟨_, rfl⟩
   have HB3 : Hid ((er != 0) = true ∨ (cn : Int) > 64 ∨ (inn : Int) > dn) := η (by
    rcases hbad with h1 | h1 | h1
    ·left; have := HER.out; rw [h1] at this; simpa using this
    ·right; left; rw [hCN.out]; omega
    ·right; right; have := hlen.out; rw [hIN.out, hDN.out]; omega)
   have hret : NewPA res w (.returned (.tuple #[.pointer none, .int .i64 1])) wc := by rw [HN.out]; exact ⟨rfl, HE1.out⟩
   have HRET := η hret
   clear hbad hret HN HRES
   cases z1
   ·by_cases hc : (cn : Int) > 64
    ·go_wp2_with fail
     go_returns
     exact HRET.out
    ·have hi : (inn : Int) > dn := by
      rcases HB3.out with h1 | h1 | h1
      ·rw [hz1] at h1; cases h1
      ·exact absurd h1 hc
      ·exact h1
     go_wp2_with fail
     go_returns
     exact HRET.out
   ·go_wp2_with fail
    go_returns
    exact HRET.out
  ·have hp : progS L = true := by cases hq : progS L; exact absurd (.inl hq) hbad; rfl
   have hc : (cn : Int) ≤ 64 := by rw [hCN.out]; have := fun h => hbad (.inr (.inl h)); omega
   have hi : (inn : Int) ≤ dn := by have := hlen.out; rw [hIN.out, hDN.out]; have := fun h => hbad (.inr (.inr h)); omega
   obtain rfl : er = 0 := by have := HER.out; rw [hp] at this; simpa using this
   have HG : Hid (res = (rnew (areas0 e.ctx) e.defs).bind fun V => (putAll V 0 e.items).map fun V' => ((RS.zero L e.defs e.draws V').setR 1 4294967296).setR 10 8589935104) := η (by rw [← HRES.out, RS.new, if_neg hbad])
   clear hbad hp HRES HER
   have e1 : decide ((64 : Int) < (cn : Int)) = false := by simp; omega
   have e2 : decide (dn < inn) = false := by simp; omega
   have e3 : decide ((dn : Int) < (inn : Int)) = false := by simp; omega
   have hlw := heap_lt HBX.out
   have HSS : Hid (∀ w', Ext wc w' → w'.cell? ⟨w.heap.size, 1, none⟩ = some (.slice da dn dc) ∧ w'.cell? ⟨w.heap.size, 3, none⟩ = some (.slice ra rn rc)) := η (fun w' he => ⟨he.cellOf x1, he.cellOf x3⟩)
   go_upto_region 4 with fail
   go_cut [8] from 39 to 50 (fun v8 wx => ∃ (B b : Nat) (lv2 dv2 xv2 : Value), v8 = .pointer (some ⟨B, 0, none⟩) ∧ Hid (NewUP w B b [] (mzP lv2 dv2 xv2 (.pointer none) b) (envObj (.slice ca cn cc) (.slice da dn dc) (.slice ia inn ic) (.slice ra rn rc)) lv2 dv2 xv2 L e.defs e.draws wx) ∧ Hid (w.heap.size < B ∧ ∀ j ∈ lv2.ownBlock.toList ++ (dv2.ownBlock.toList ++ xv2.ownBlock.toList), j ≠ B))
   case first =>
    go_region_held3 (fun w' => w'.cell? ⟨w.heap.size, 1, none⟩ = some (.slice da dn dc) ∧ w'.cell? ⟨w.heap.size, 3, none⟩ = some (.slice ra rn rc))
     ((refine HSS.out _ ?_; (repeat (first|exact xE0 _|assumption|refine xE1 ?_ _|refine xE2 ?_|refine xE3 ?_ _|refine xE4 ?_ (by assumption)))))
     ((first
      | (go_at_call 48; refine (HCI.out _ (HE1.out.trans' (by (repeat (first|exact xE0 _|assumption|refine xE1 ?_ _|refine xE2 ?_|refine xE3 ?_ _|refine xE4 ?_ (by assumption)))))).mono ?_; rintro e1 wA ⟨vA, rfl, hOA, hEA⟩; obtain ⟨la2, ln2, lc2, rfl, hln2, hLN2⟩ := (hOA.rd enc_ins).val; have OA := η hOA; have hxA : Ext wc wA := (by (repeat (first|exact xE0 _|assumption|refine xE1 ?_ _|refine xE2 ?_|refine xE3 ?_ _|refine xE4 ?_ (by assumption)))); clear hOA)
      | (go_at_call 49; refine (mem_new _).mono ?_; rintro e1 wM ⟨b, r, rfl, hMM, hbM, hrM, hEM⟩; have MM := η hMM; have hxM : Ext wc wM := (by (repeat (first|exact xE0 _|assumption|refine xE1 ?_ _|refine xE2 ?_|refine xE3 ?_ _|refine xE4 ?_ (by assumption)))); clear hMM)
      | (go_at_call 50; refine (HCD.out _ (HE1.out.trans' (by (repeat (first|exact xE0 _|assumption|refine xE1 ?_ _|refine xE2 ?_|refine xE3 ?_ _|refine xE4 ?_ (by assumption)))))).mono ?_; rintro e1 wD ⟨vD, rfl, hOD, hED⟩; obtain ⟨da2, dn2, dc2, rfl, hdn2, hDN2⟩ := (hOD.rd enc_def).val; have OD := η hOD; have hxD : Ext wc wD := (by (repeat (first|exact xE0 _|assumption|refine xE1 ?_ _|refine xE2 ?_|refine xE3 ?_ _|refine xE4 ?_ (by assumption)))); clear hOD)
      | (go_at_call 51; refine (HCR.out _ (HE1.out.trans' (by (repeat (first|exact xE0 _|assumption|refine xE1 ?_ _|refine xE2 ?_|refine xE3 ?_ _|refine xE4 ?_ (by assumption)))))).mono ?_; rintro e1 wR ⟨vR, rfl, hOR, hER⟩; obtain ⟨ra2, rn2, rc2, rfl, hrn2, hRN2⟩ := (hOR.rd (enc_int .u64)).val; have OR := η hOR; have hxR : Ext wc wR := (by (repeat (first|exact xE0 _|assumption|refine xE1 ?_ _|refine xE2 ?_|refine xE3 ?_ _|refine xE4 ?_ (by assumption)))); clear hOR)))
    all_goals
     have hMD : Ext wM wD := by (repeat (first|exact xE0 _|assumption|refine xE1 ?_ _|refine xE2 ?_|refine xE3 ?_ _|refine xE4 ?_ (by assumption)))
     have hDR : Ext wD wR := by (repeat (first|exact xE0 _|assumption|refine xE1 ?_ _|refine xE2 ?_|refine xE3 ?_ _|refine xE4 ?_ (by assumption)))
     have hAR : Ext wA wR := by (repeat (first|exact xE0 _|assumption|refine xE1 ?_ _|refine xE2 ?_|refine xE3 ?_ _|refine xE4 ?_ (by assumption)))
     have hsA := hxA.size
     have hsM := hxM.size
     have hsD := hxD.size
     have hb0 : wc.heap.size ≤ b := by first | omega | (simp at hbM; omega)
     have hr0 : wc.heap.size ≤ r := by first | omega | (simp at hrM; omega)
     have oA : Own wR (w.heap.size + 1) 58 5 Ins.enc (.slice la2 ln2 lc2) L := (OA.out.mono (by first | omega | (simp; omega))).ext hAR
     have oD : Own wR (w.heap.size + 1) 102 4 TDef.enc (.slice da2 dn2 dc2) e.defs := (OD.out.mono (by first | omega | (simp; omega))).ext hDR
     have oR : Own wR (w.heap.size + 1) 29 1 (fun x => [Value.int .u64 x]) (.slice ra2 rn2 rc2) e.draws := OR.out.mono (by first | omega | (simp; omega))
     have mR := MM.out.ext (hMD.trans' hDR)
     have hbl := heap_lt mR.head
     have hrl : r < wR.heap.size := by obtain ⟨es, cl, hr, -⟩ := mR.map; exact heap_lt hr
     have hsR := hxR.size
     have nA := own_ne oA mR (by decide)
     have nD := own_ne oD mR (by decide)
     have nR := own_ne oR mR (by decide)
     have lA := fun j hj => (oA.lt (k := j) hj).2
     have lD := fun j hj => (oD.lt (k := j) hj).2
     have lR := fun j hj => (oR.lt (k := j) hj).2
     have HFIN : Hid (NewUP w wR.heap.size b [] (mzP (.slice la2 ln2 lc2) (.slice da2 dn2 dc2) (.slice ra2 rn2 rc2) (.pointer none) b) (envObj (.slice ca cn cc) (.slice da dn dc) (.slice ia inn ic) (.slice ra rn rc)) (.slice la2 ln2 lc2) (.slice da2 dn2 dc2) (.slice ra2 rn2 rc2) L e.defs e.draws (wR.alloc (mzP (.slice la2 ln2 lc2) (.slice da2 dn2 dc2) (.slice ra2 rn2 rc2) (.pointer none) b))) := η (by
      have hax : Ext wR (wR.alloc (mzP (.slice la2 ln2 lc2) (.slice da2 dn2 dc2) (.slice ra2 rn2 rc2) (.pointer none) b)) := (Ext.rfl' _).alloc' _
      refine ⟨(HE1.out.trans' hxR).trans' hax, ⟨r, [], mR.ext hax, rfl, fun j hj => ?_, fun q hq => ⟨fun hm => ?_, ?_⟩⟩, obj_top _ _ rfl, obj_old _ (hxR.obj HBX.out), oA.ext hax, oD.ext hax, oR.ext hax⟩
      ·simp only [foot, List.flatMap_nil, List.mem_cons, List.not_mem_nil, or_false] at hj
       rcases hj with rfl | rfl <;> omega
      ·simp only [foot, List.flatMap_nil, List.mem_cons, List.not_mem_nil, or_false] at hm
       simp only [nblk, List.mem_cons, List.mem_append] at hq
       rcases hq with rfl | rfl | hq | hq | hq
       ·rcases hm with e | e <;> omega
       ·rcases hm with e | e <;> omega
       ·have := nA q (by simpa using hq); rcases hm with e | e <;> omega
       ·have := nD q (by simpa using hq); rcases hm with e | e <;> omega
       ·have := nR q (by simpa using hq); rcases hm with e | e <;> omega
      ·simp only [nblk, List.mem_cons, List.mem_append] at hq
       simp only [World.alloc, Array.size_push]
       rcases hq with rfl | rfl | hq | hq | hq
       ·omega
       ·omega
       ·have := lA q (by simpa using hq); omega
       ·have := lD q (by simpa using hq); omega
       ·have := lR q (by simpa using hq); omega)
     have HBB : Hid (w.heap.size < wR.heap.size ∧ ∀ j ∈ (Value.slice la2 ln2 lc2).ownBlock.toList ++ ((Value.slice da2 dn2 dc2).ownBlock.toList ++ (Value.slice ra2 rn2 rc2).ownBlock.toList), j ≠ wR.heap.size) := η ⟨by omega, fun j hj => by
      simp only [List.mem_append] at hj
      rcases hj with hq | hq | hq
      ·have := lA j (by simpa using hq); omega
      ·have := lD j (by simpa using hq); omega
      ·have := lR j (by simpa using hq); omega⟩
     clear nA nD nR lA lD lR oA oD oR mR
     go_wp2_with fail
     go_meet
     exact ⟨_, _, _, _, _, rfl, HFIN, HBB⟩
   case rest =>
    obtain ⟨B, b, lv2, dv2, xv2, rfl, HN, HBW⟩ := hcut
    clear HSS e1 e2 e3 x0 x1 x2 x3 xf HCI HCD HCR hlw
    have c23 : wc.cell? ⟨B, 23, none⟩ = some (.pointer (some ⟨b, 0, none⟩)) := cO HN.out.obj
    have c0 : wc.cell? ⟨w.heap.size, 0, none⟩ = some (.slice ca cn cc) := cO HN.out.env
    have hlB := heap_lt HN.out.obj
    have hlW := heap_lt HN.out.env
    go_upto_region 5 with fail
    go_cut [56] from 50 to 57 (fun _ wx => Hid (NewUP w B b (mmake [] 1 e.ctx false true).1 (mzP lv2 dv2 xv2 (.pointer none) b) (envObj (.slice ca cn cc) (.slice da dn dc) (.slice ia inn ic) (.slice ra rn rc)) lv2 dv2 xv2 L e.defs e.draws wx))
    case first =>
     have y0 := Grow.cell c23
     have y1 := Grow.cell c0
     clear c23 c0
     (refine wp_region_ext_tail 6 (by kernel_rfl) (by kernel_rfl) ?_; simp only [List.take_succ_cons, List.take_zero]; (repeat (go_big_quiet_step ((fail)))); refine wpQuiet_nil ?_; rintro wz ⟨nz, hz⟩; have hwq := nz.ext; rw [← hz] at hwq; simp only [List.drop_succ_cons, List.drop_zero]; clear hz)
     go_wp2_with fail
     refine ((HN.out.go hwq).make 1 _ e.ctx false true (HE.out.ctx.ext (HN.out.ext.trans' hwq)) HE.out.u8).mono ?_
     rintro e1 w7 ⟨⟨er, rfl⟩, hN⟩
     have HN7 := η hN
     clear hN
     go_wp2_with fail
     go_meet
     exact HN7
    case rest =>
     clear HN c23 c0 hlB hlW
     have HN := hcut
     have m23 : wc.cell? ⟨B, 23, none⟩ = some (.pointer (some ⟨b, 0, none⟩)) := cO HN.out.obj
     have mo23 := fun o => (cO (i := 23) (obj_old o HN.out.obj) : (wc.alloc o).cell? ⟨B, 23, none⟩ = some (.pointer (some ⟨b, 0, none⟩)))
     have hlB := heap_lt HN.out.obj
     have hmk := run_make512
     go_upto_region 6 with fail
     go_cut [62] from 57 to 63 (fun _ wx => Hid (NewUP w B b (areas0 e.ctx) (mzP lv2 dv2 xv2 (.pointer none) b) (envObj (.slice ca cn cc) (.slice da dn dc) (.slice ia inn ic) (.slice ra rn rc)) lv2 dv2 xv2 L e.defs e.draws wx))
     case first =>
      go_region_law ((go_simp; go_at_call 52; refine ((HN.out.go (by (repeat (first|exact xE0 _|assumption|refine xE1 ?_ _|refine xE2 ?_|refine xE3 ?_ _|refine xE4 ?_ (by assumption))))).make 2 _ (List.replicate 512 0) true false (rd_512 _) small_512).mono ?_; rintro e1 w7 ⟨⟨er, rfl⟩, hN⟩; have HN7 := η hN; clear hN))
      all_goals
       go_wp2_with fail
       go_meet
       exact HN7
     case rest =>
      clear HN m23 mo23 hlB hmk
      have HN := hcut
      have m23 : wc.cell? ⟨B, 23, none⟩ = some (.pointer (some ⟨b, 0, none⟩)) := cO HN.out.obj
      have q1 : wc.cell? ⟨w.heap.size, 1, none⟩ = some (.slice da dn dc) := cO HN.out.env
      have hlB := heap_lt HN.out.obj
      have hlW := heap_lt HN.out.env
      clear hcut
      have HTN : Hid (∀ W, Ext wc W → Calls Tryz.prog 53 #[.pointer (some ⟨b, 0, none⟩), .slice da dn dc] W (NewTP w B b (areas0 e.ctx) e.defs (mzP lv2 dv2 xv2 (.pointer none) b) (envObj (.slice ca cn cc) (.slice da dn dc) (.slice ia inn ic) (.slice ra rn rc)) lv2 dv2 xv2 L e.draws)) := η (fun W hW => (HN.out.go hW).tab HE.out.defs)
      cases hrn : rnew (areas0 e.ctx) e.defs with
      | none =>
       have HTN2 : Hid (∀ W, Ext wc W → Calls Tryz.prog 53 #[.pointer (some ⟨b, 0, none⟩), .slice da dn dc] W (fun e1 w' => e1 = .returned (.tuple #[.pointer none, .int .i64 1]) ∧ Ext w w')) := η (fun W hW => (HTN.out W hW).mono (fun e1 w' h => by unfold NewTP at h; rw [hrn] at h; exact h))
       obtain rfl : res = none := by rw [HG.out, hrn]; rfl
       clear HTN hrn
       go_upto_region 7 with fail
       go_cut [9, 10] from 63 to 73 (fun v9 v10 wx => v10 = .int .i64 1 ∧ Hid (Ext w wx))
       case first =>
        go_region_law ((go_simp; go_at_call 53; refine (HTN2.out _ (by (repeat (first|exact xE0 _|assumption|refine xE1 ?_ _|refine xE2 ?_|refine xE3 ?_ _|refine xE4 ?_ (by assumption))))).mono ?_; rintro e1 w7 ⟨rfl, hE7⟩; have HE7 := η hE7; clear hE7))
        all_goals
         go_wp2_with fail
         go_meet
         exact ⟨rfl, HE7⟩
       case rest =>
        obtain ⟨rfl, HE7⟩ := hcut
        go_wp2_with fail
        go_returns
        exact ⟨rfl, HE7.out⟩
      | some V =>
       have HTN2 : Hid (∀ W, Ext wc W → Calls Tryz.prog 53 #[.pointer (some ⟨b, 0, none⟩), .slice da dn dc] W (fun e1 w' => ∃ tb, e1 = .returned (.tuple #[.pointer (some ⟨tb, 0, none⟩), .int .i64 0]) ∧ Hid (w'.heap[B]? = some (mzP lv2 dv2 xv2 (.pointer none) b) ∧ w'.heap[w.heap.size]? = some (envObj (.slice ca cn cc) (.slice da dn dc) (.slice ia inn ic) (.slice ra rn rc)) ∧ PRelQ [w.heap.size] [] [] w w.heap.size (w'.setCell ⟨B, 24, none⟩ (.pointer (some ⟨tb, 0, none⟩))) B (RS.zero L e.defs e.draws V)))) := η (fun W hW => (HTN.out W hW).mono (fun e1 w' h => by
        unfold NewTP at h
        rw [hrn] at h
        obtain ⟨tb, S, h1, h2, h3, h4, h5, h6, h7, h8, h9, h10, h11, h12⟩ := h
        exact ⟨tb, h1, η ⟨h7, h8, mach_new h2 h3 h4 h5 h6 h7 h9 h10 h11 h12 HBW.out.1 HBW.out.2⟩⟩))
       have HVV := η (new_vrel hrn)
       have HG2 : Hid (res = (putAll V 0 e.items).map fun V' => ((RS.zero L e.defs e.draws V').setR 1 4294967296).setR 10 8589935104) := η (by rw [HG.out, hrn]; rfl)
       clear HTN hrn HG
       go_upto_region 7 with fail
       go_cut [9, 10] from 63 to 73 (fun v9 v10 wx => ∃ tb, v9 = .pointer (some ⟨tb, 0, none⟩) ∧ v10 = .int .i64 0 ∧ Hid (wx.heap[B]? = some (mzP lv2 dv2 xv2 (.pointer none) b) ∧ wx.heap[w.heap.size]? = some (envObj (.slice ca cn cc) (.slice da dn dc) (.slice ia inn ic) (.slice ra rn rc)) ∧ PRelQ [w.heap.size] [] [] w w.heap.size (wx.setCell ⟨B, 24, none⟩ (.pointer (some ⟨tb, 0, none⟩))) B (RS.zero L e.defs e.draws V)))
       case first =>
        go_region_law ((go_simp; go_at_call 53; refine (HTN2.out _ (by (repeat (first|exact xE0 _|assumption|refine xE1 ?_ _|refine xE2 ?_|refine xE3 ?_ _|refine xE4 ?_ (by assumption))))).mono ?_; rintro e1 w7 ⟨tb, rfl, HE7⟩))
        all_goals
         go_wp2_with fail
         go_meet
         exact ⟨_, rfl, rfl, HE7⟩
       case rest =>
        obtain ⟨tb, rfl, rfl, HT⟩ := hcut
        have hcb : wc.cell? ⟨B, 24, none⟩ = some (.pointer none) := cO HT.out.1
        have hfb := frozen_obj (i := 24) HT.out.1
        have hBw : w.heap.size ≠ B := by have := HBW.out.1; omega
        have HE9 := η ((heap_setCell_other wc ⟨B, 24, none⟩ w.heap.size (.pointer (some ⟨tb, 0, none⟩)) hBw).trans HT.out.2.1)
        have HC9 : Hid ((wc.setCell ⟨B, 24, none⟩ (.pointer (some ⟨tb, 0, none⟩))).cell? ⟨B, 24, none⟩ = some (.pointer (some ⟨tb, 0, none⟩))) := η (cO (heap_setCell_same wc B 24 _ _ _ HT.out.1))
        have HM9 := η HT.out.2.2
        have y22 : (wc.setCell ⟨B, 24, none⟩ (.pointer (some ⟨tb, 0, none⟩))).cell? ⟨w.heap.size, 2, none⟩ = some (.slice ia inn ic) := cO HE9.out
        go_wp2_with fail
        clear y22 hcb hfb HT m23 q1 hlB hlW
        go_loopw [82] (fun q wr => ∃ (k : Nat) (V1 V1' : Areas × List TM), k ≤ inn ∧ q = .int .i64 k ∧ Hid (PRelQ [w.heap.size] [] [] w w.heap.size wr B (RS.zero L e.defs e.draws V1) ∧ wr.heap[w.heap.size]? = some (envObj (.slice ca cn cc) (.slice da dn dc) (.slice ia inn ic) (.slice ra rn rc)) ∧ wr.cell? ⟨B, 24, none⟩ = some (.pointer (some ⟨tb, 0, none⟩)) ∧ putAll V1' k (e.items.drop k) = putAll V 0 e.items ∧ VRel V1 V1')) (fun q _ => inn - (intOf q).toNat)
        case atStart => exact ⟨0, V, V, Nat.zero_le _, rfl, η ⟨HM9.out, HE9.out, HC9.out, rfl, HVV.out⟩⟩
        case round =>
         obtain ⟨k, V1, V1', hk, rfl, HI⟩ := hrel
         have hEW : Ext w wr := HI.out.1.keep.ext (fun k hk => by cases hk)
         have HEW2 := η hEW
         have y2 : wr.cell? ⟨w.heap.size, 2, none⟩ = some (.slice ia inn ic) := cO HI.out.2.1
         have hlw2 := heap_lt HI.out.2.1
         by_cases hlt : (k : Int) < inn
         ·obtain ⟨row, hrow⟩ : ∃ row, rows[k]? = some row := ⟨_, List.getElem?_eq_getElem (by have := hIN.out; omega)⟩
          obtain ⟨l, hl⟩ : ∃ l, e.items[k]? = some l := ⟨_, List.getElem?_eq_getElem (by have := hIN.out; have := hlen.out; omega)⟩
          obtain ⟨I, hI, hIs, hIm⟩ := HE.out.items k row l hrow hl
          have HIR := η hI
          have HIS := η hIs
          have HIM := η hIm
          have HLL := η hl
          have ixr := fun W => (HE.out.rowsR).run_at (P := Tryz.prog) el_itemrows.under el_itemrows.size .i64 (k : Int) (by omega) (by omega) W
          simp only [Nat.mul_one, Int.toNat_natCast] at ixr
          have yr : wr.cell? (elt (.slice ia inn ic) k) = some (.slice row.a row.n row.c) := by
           have := (HE.out.rowsR.ext hEW).cell hrow (j := 0) rfl
           simpa [SV.v] using this
          have hrn2 : row.n = I.length := by obtain ⟨a', n', c', hv, _, hn⟩ := HIR.out.val; have h1 := hn.out; simp only [SV.v] at hv; cases hv; exact h1
          have hrb : row.n ≤ 9223372036854775807 := by obtain ⟨a', n', c', hv, hle, hn⟩ := HIR.out.val; simp only [SV.v] at hv; cases hv; exact hle
          have HRN := η hrn2
          clear hI hIs hIm hrow hl hrn2
          go_wp2_with fail
          obtain ⟨wo, rfl⟩ : ∃ u, u = wr := ⟨_, rfl⟩
          go_loopw [89] (fun q wr2 => ∃ (m : Nat) (V2 V2' : Areas × List TM), m ≤ row.n ∧ q = .int .i64 m ∧ Hid (PRelQ [w.heap.size] [] [] w w.heap.size wr2 B (RS.zero L e.defs e.draws V2) ∧ wr2.heap[w.heap.size]? = some (envObj (.slice ca cn cc) (.slice da dn dc) (.slice ia inn ic) (.slice ra rn rc)) ∧ wr2.cell? ⟨B, 24, none⟩ = some (.pointer (some ⟨tb, 0, none⟩)) ∧ putIts V2' k (l.drop m) = putIts V1' k l ∧ VRel V2 V2')) (fun q _ => row.n - (intOf q).toNat)
          case atStart => exact ⟨0, V1, V1', Nat.zero_le _, rfl, η ⟨HI.out.1, HI.out.2.1, HI.out.2.2.1, rfl, HI.out.2.2.2.2⟩⟩
          case round =>
           obtain ⟨m, V2, V2', hm, rfl, HJ⟩ := hrel
           have hEW3 : Ext w wr := HJ.out.1.keep.ext (fun k hk => by cases hk)
           have HEW3 := η hEW3
           have hlw3 := heap_lt HJ.out.2.1
           clear y2 yr hlw2
           by_cases hlt2 : (m : Int) < row.n
           ·have HLT : Hid (m < row.n) := η (by omega)
            obtain ⟨y, hy⟩ : ∃ y, I[m]? = some y := ⟨_, List.getElem?_eq_getElem (by have := HRN.out; omega)⟩
            have hlm : l[m]? = some (y.key, y.val) := by rw [← HIM.out, List.getElem?_map, hy]; rfl
            have HLM := η hlm
            have hys := HIS.out y (List.mem_of_getElem? hy)
            have HYB := HE.out.ib l (List.mem_of_getElem? HLL.out) (y.key, y.val) (List.mem_of_getElem? hlm)
            have hIR := HIR.out
            simp only [SV.v] at hIR
            have hrn3 : row.n = I.length := HRN.out
            have ixm := fun W => hIR.run_at (P := Tryz.prog) el_item.under el_item.size .i64 (m : Int) (by omega) (by omega) W
            simp only [Int.toNat_natCast] at ixm
            obtain ⟨k0, k1⟩ : wr.cell? (elt (.slice row.a row.n row.c) (m * 2)) = some (.slice y.ka y.key.length y.kc) ∧ wr.cell? ⟨(elt (.slice row.a row.n row.c) (m * 2)).block, (elt (.slice row.a row.n row.c) (m * 2)).off + 1, none⟩ = some (.slice y.va y.val.length y.vc) := by
             have E := (hIR.ext hEW3).elt_add hy
             have F : ∀ (p : Addr) (j : Nat), j ≠ 0 → (⟨p.block, p.off + j, none⟩ : Addr) = p.add j := fun p j h => by simp [Addr.add, h]
             rw [F _ 1 (by decide), E]
             exact ⟨by have := (hIR.ext hEW3).cell hy (j := 0) rfl; simpa [IT.kv] using this, (hIR.ext hEW3).cell hy (j := 1) rfl⟩
            obtain ⟨hpr1, hpr2⟩ := put_rel HJ.out.2.2.2.2 (k : Int) y.key y.val 0
            obtain ⟨Vn, nn, hh, hput⟩ : ∃ a b c, tput V2 k y.key y.val 0 = (a, b, c) := ⟨_, _, _, rfl⟩
            rw [hput] at hpr1 hpr2
            obtain ⟨Vn', hvn'⟩ : ∃ a, (rput V2' (k : Int) y.key y.val 0).1 = a := ⟨_, rfl⟩
            have hrp : rput V2' (k : Int) y.key y.val 0 = (Vn', nn, hh) := Prod.ext hvn' hpr1
            rw [hvn'] at hpr2
            have HPR := η hpr2
            have HPT : Hid (∀ W, Ext wr W → Calls Tryz.prog 54 #[.pointer (some ⟨tb, 0, none⟩), .int .i64 (k : Int), .slice y.ka y.key.length y.kc, .slice y.va y.val.length y.vc, .int .u64 0] W (fun e1 w' => e1 = .returned (.tuple #[.int .u64 nn, .int .i64 hh]) ∧ PRelQ [w.heap.size] [] [] w w.heap.size w' B (RS.zero L e.defs e.draws Vn) ∧ w'.heap[w.heap.size]? = some (envObj (.slice ca cn cc) (.slice da dn dc) (.slice ia inn ic) (.slice ra rn rc)) ∧ w'.cell? ⟨B, 24, none⟩ = some (.pointer (some ⟨tb, 0, none⟩)))) := η (fun W hW => (newp_put (HJ.out.1.go hW) (hW.cellOf HJ.out.2.2.1) k hys.1 hys.2 HYB).mono (fun e1 w' h => by
             obtain ⟨h1, h2, h3⟩ := h
             have hp2 : tput (RS.zero L e.defs e.draws V2).V k y.key y.val 0 = (Vn, nn, hh) := hput
             rw [hp2] at h1 h2
             exact ⟨h1, h2, h3 _ (.inl (by simp)) _ (hW.obj HJ.out.2.1), cell_kept (a := ⟨B, 24, none⟩) (h3 B (.inr rfl)) (hW.cellOf HJ.out.2.2.1)⟩))
            have HSTEP : Hid (putIts V2' k (l.drop m) = if nn = 0 ∧ hh = 0 then putIts Vn' k (l.drop (m + 1)) else none) := η (by
             rw [drop_at hlm, putIts]
             simp only [hrp])
            clear hy hlm hys hIR hput hrn3 hpr1 hpr2 hvn' hrp HYB
            go_wp2_with fail
            refine (HPT.out _ (by (repeat (first|exact xE0 _|assumption|refine xE1 ?_ _|refine xE2 ?_|refine xE3 ?_ _|refine xE4 ?_ (by assumption))))).mono ?_
            rintro e1 w7 ⟨rfl, hM7⟩
            have HM7 := η hM7
            clear hM7 k0 k1
            cases hz1 : (nn != 0) <;> cases hz2 : (hh != 0)
            ·have n0 : nn = 0 := by simpa using hz1
             have h0 : hh = 0 := by simpa using hz2
             have HNX : Hid (putIts Vn' k (l.drop (m + 1)) = putIts V1' k l) := η (by rw [← HJ.out.2.2.2.1, HSTEP.out, if_pos ⟨n0, h0⟩])
             clear n0 h0
             have hltx : m < row.n := HLT.out
             go_wp2_with fail
             go_roundw
             case rel => exact ⟨m + 1, Vn, Vn', HLT.out, by go_num, η ⟨HM7.out.1, HM7.out.2.1, HM7.out.2.2, HNX.out, HPR.out⟩⟩
             case measure => have := HLT.out; simp [intOf]; omega
            all_goals
             have hno : ¬ (nn = 0 ∧ hh = 0) := fun h => by
              have a1 := h.1
              have a2 := h.2
              simp [a1] at hz1
              try simp [a2] at hz2
             have HNO : Hid (res = none) := η (by
              have h1 := HJ.out.2.2.2.1
              rw [HSTEP.out, if_neg hno] at h1
              have h2 := HI.out.2.2.2.1
              rw [drop_at HLL.out, putAll, ← h1] at h2
              rw [HG2.out, ← h2]
              rfl)
             have HXX : Hid (Ext w w7) := η (HM7.out.1.keep.ext (fun k hk => by cases hk))
             clear hno
             go_wp2_with fail
             go_returns
             obtain rfl := HNO.out
             exact ⟨rfl, HXX.out⟩
           ·have hll : l.length = I.length := by have := congrArg List.length HIM.out; simpa using this.symm
            have HNX : Hid (putAll V2' (k + 1) (e.items.drop (k + 1)) = putAll V 0 e.items) := η (by
             have h1 := HJ.out.2.2.2.1
             rw [List.drop_eq_nil_of_le (by have := HRN.out; omega), putIts] at h1
             have h2 := HI.out.2.2.2.1
             rw [drop_at HLL.out, putAll, ← h1] at h2
             exact h2)
            go_wp2_with fail
            go_roundw
            case rel => exact ⟨k + 1, V2, V2', by omega, by go_num, η ⟨HJ.out.1, HJ.out.2.1, HJ.out.2.2.1, HNX.out, HJ.out.2.2.2.2⟩⟩
            case measure => simp [intOf]; omega
         ·have hfin : putAll V 0 e.items = some V1' := by
           have h1 := HI.out.2.2.2.1
           rw [← h1, List.drop_eq_nil_of_le (by have := hIN.out; have := hlen.out; omega), putAll]
          have HFIN : Hid (res = some (((RS.zero L e.defs e.draws V1').setR 1 4294967296).setR 10 8589935104)) := η (by rw [HG2.out, hfin]; rfl)
          clear hfin
          have HA1 : Hid (∀ W, Calls Tryz.prog 29 #[.int .i64 1, .int .i64 0] W fun e w' => e = .returned (.int .u64 4294967296) ∧ Ext W w') := η (fun W => (mem_at 1 0 W).mono (fun e w' h => ⟨by rw [h.1]; rfl, by rw [h.2]; exact Ext.rfl' _⟩))
          have HA2 : Hid (∀ W, Calls Tryz.prog 29 #[.int .i64 2, .int .i64 512] W fun e w' => e = .returned (.int .u64 8589935104) ∧ Ext W w') := η (fun W => (mem_at 2 512 W).mono (fun e w' h => ⟨by rw [h.1]; rfl, by rw [h.2]; exact Ext.rfl' _⟩))
          have HRL := η HI.out.1.rel
          have HVR := η HI.out.2.2.2.2
          clear y2
          go_upto_region 22 with fail
          (refine wp_region_ext_tail 6 (by kernel_rfl) (by kernel_rfl) ?_; simp only [List.take_succ_cons, List.take_zero]; (repeat (go_big_quiet_step ((go_at_call 29; exact Calls.grow (HA1.out _))))); refine wpQuiet_nil ?_; rintro wz ⟨nz, hz⟩; have hwq := nz.ext; rw [← hz] at hwq; simp only [List.drop_succ_cons, List.drop_zero]; clear hz)
          have HR1 := η (HRL.out.go hwq)
          have HR2 : Hid (PRel [] [] w w.heap.size ((wz.setCell ⟨B, 3, none⟩ (.int .u64 4294967296)).setCell ⟨B, 4, none⟩ (.bool true)) B ((RS.zero L e.defs e.draws V1).setR 1 4294967296)) := η (HR1.out.setR (d := 1) (by decide) 4294967296)
          obtain ⟨h0, hl0, l0, g1, g2, g3⟩ := HR1.out
          have m3 := g1.cell 3 rfl
          have m4 := g1.cell 4 rfl
          have mf := fun i => frozen_obj (i := i) g1.head
          have hlz := heap_lt g1.head
          clear h0 hl0 g1 g2 g3
          go_upto_region 23 with fail
          generalize (wz.setCell ⟨B, 3, none⟩ (.int .u64 4294967296)).setCell ⟨B, 4, none⟩ (.bool true) = w9 at HR2 ⊢
          clear m3 m4 mf hlz hwq
          (refine wp_region_ext_tail 6 (by kernel_rfl) (by kernel_rfl) ?_; simp only [List.take_succ_cons, List.take_zero]; (repeat (go_big_quiet_step ((go_at_call 29; exact Calls.grow (HA2.out _))))); refine wpQuiet_nil ?_; rintro wz ⟨nz, hz⟩; have hwq := nz.ext; rw [← hz] at hwq; simp only [List.drop_succ_cons, List.drop_zero]; clear hz)
          have HR3 := η (HR2.out.go hwq)
          have HR4 : Hid (PRel [] [] w w.heap.size ((wz.setCell ⟨B, 21, none⟩ (.int .u64 8589935104)).setCell ⟨B, 22, none⟩ (.bool true)) B (((RS.zero L e.defs e.draws V1).setR 1 4294967296).setR 10 8589935104)) := η (HR3.out.setR (d := 10) (by decide) 8589935104)
          obtain ⟨h0, hl0, l0, g1, g2, g3⟩ := HR3.out
          have m3 := g1.cell 21 rfl
          have m4 := g1.cell 22 rfl
          have mf := fun i => frozen_obj (i := i) g1.head
          have hlz := heap_lt g1.head
          clear h0 hl0 g1 g2 g3
          go_wp2_with fail
          go_returns
          obtain rfl := HFIN.out
          obtain ⟨v1, v2⟩ := vt_of (σ := ((RS.zero L e.defs e.draws V1').setR 1 4294967296).setR 10 8589935104) HVR.out
          refine ⟨B, rfl, V1.2, v2, ?_⟩
          have v3 : (((RS.zero L e.defs e.draws V1).setR 1 4294967296).setR 10 8589935104) = (((RS.zero L e.defs e.draws V1').setR 1 4294967296).setR 10 8589935104).vt V1.2 := v1
          rw [← v3]
          exact HR4.out
end
section
variable {B : Lies} {Q : List Nat} {ba a : Nat} {σ : RS} {w w' u : World}
theorem RunOk.erd2 {F0 Z0 F : List Nat} {wf : World} {base mb lo : Nat} {τ : RS} {cv mv : Value} (h : RunOk F0 Z0 wf base mb τ lo w cv mv) (hF : ∀ q ∈ F, q < lo ∨ w.heap.size ≤ q) (k : Keep F w u) : ERd u τ.endV cv mv := by
 refine h.erd (F := F.filter fun q => decide (q < lo)) (fun q hq => by simpa using (List.mem_filter.1 hq).2) ((Keep.rfl' _ w).through k (fun q hq => ?_))
 rcases hF q hq with h1 | h1
 ·exact .inl (List.mem_filter.2 ⟨hq, by simpa using h1⟩)
 ·exact .inr h1
def Turn (Q : List Nat) (w w' : World) : Prop := ∃ F, Keep F w w' ∧ ∀ q ∈ F, q < w.heap.size ∧ q ∉ Q
theorem Turn.ext {w0 : World} (h : Turn Q w w') (hQ : ∀ q, q < w0.heap.size → q ∈ Q) (he : Ext w0 w) : Ext w0 w' := by
 obtain ⟨F, k, hF⟩ := h
 exact k.below he he.size (fun q hq => by
  rcases Nat.lt_or_ge q w0.heap.size with h | h
  ·exact absurd (hQ q h) (hF q hq).2
  ·exact h)
theorem two_run (fuel : Int) (kb : Kept B) (h : Two2 (PM ba a σ) B Q w) (hba : ba ≤ w.heap.size) (hi : σ.Inv) (hD : DefsOk σ.D) (hsm : CallsSm σ) (hst : σ.steps ≤ 1000000) (hf : fuel ≤ 1000000) (hDl : σ.D.length ≤ 1000000) :
  Calls Tryz.prog 25 #[.pointer (some ⟨a, 0, none⟩), .int .i64 fuel] w (fun e w' => ∃ (lo : Nat) (ca : Option Addr) (cn cc : Nat) (ma : Option Addr) (mn mc : Nat), e = .returned (.agg #[.int .i64 (σ.run fuel).endV.code, .int .i64 (σ.run fuel).endV.at_, .int .u64 (σ.run fuel).endV.r0, .int .i64 (σ.run fuel).endV.steps, .slice ca cn cc, .slice ma mn mc]) ∧
   Two2 (PM ba a (σ.run fuel)) B Q w' ∧ w.heap.size ≤ lo ∧ Turn Q w w' ∧ ∃ F0 Z0, RunOk F0 Z0 w ba a (σ.run fuel) lo w' (.slice ca cn cc) (.slice ma mn mc)) := by
 obtain ⟨F, Z, h1, h2, h3, h4, h5⟩ := h.both PM.kept kb
 refine (p_Run fuel (h1.ps hba) hi hD hsm hst hf hDl).mono ?_
 rintro e w' ⟨lo, cv, mv, rfl, hR⟩
 obtain ⟨cs, c1, -, -⟩ := hR.cs
 obtain ⟨rows, m1, -, -⟩ := hR.mp
 obtain ⟨ca, cn, cc, rfl, -, -⟩ := (c1.rd enc_cb).val
 obtain ⟨ma, mn, mc, rfl, -, -⟩ := (m1.rd enc_w).val
 exact ⟨lo, ca, cn, cc, ma, mn, mc, rfl, h5 _ _ (hR.ps hba).relT, hR.low.1, ⟨F, hR.keep, fun q hq => ⟨h3 q hq, h2 q hq⟩⟩, F, Z, hR⟩
theorem two_step (kb : Kept B) (h : Two2 (PM ba a σ) B Q w) (hba : ba ≤ w.heap.size) (hg : σ.Good) (hD : DefsOk σ.D) (ho : σ.over = false → ∃ p x, σ.On p x) :
  Calls Tryz.prog 27 #[.pointer (some ⟨a, 0, none⟩)] w (fun e w' => e = .returned (.int .i64 σ.step.2) ∧ Two2 (PM ba a σ.step.1) B Q w' ∧ Turn Q w w') := by
 obtain ⟨F, Z, h1, h2, h3, h4, h5⟩ := h.both PM.kept kb
 refine (p_Step (h1.ps hba) hg hD ho).mono ?_
 rintro e w' ⟨rfl, hR⟩
 exact ⟨rfl, h5 _ _ hR.relT, ⟨F, hR.keep, fun q hq => ⟨h3 q hq, h2 q hq⟩⟩⟩
end
/-! The examples. -/
def e7 : Ins := ⟨183, 0, 0, 0, 7⟩
def eE : Ins := ⟨149, 0, 0, 0, 0⟩
theorem e7_prog : progS [e7, eE] = true := by decide +kernel
theorem eE_prog : progS [eE] = true := by decide +kernel
theorem e7_ok : InsOk [e7, eE] := by
 intro x hx
 simp only [List.mem_cons, List.not_mem_nil, or_false] at hx
 rcases hx with rfl | rfl
 ·constructor <;> (try constructor) <;> decide
 ·constructor <;> (try constructor) <;> decide
theorem eE_ok : InsOk [eE] := by
 intro x hx
 simp only [List.mem_cons, List.not_mem_nil, or_false] at hx
 rcases hx with rfl
 constructor <;> (try constructor) <;> decide
def E0 : EnvD := ⟨[], [], [], []⟩
theorem envR_0 (w : World) : EnvR w E0 (.slice none 0 0) (.slice none 0 0) (.slice none 0 0) (.slice none 0 0) [] :=
 ⟨Rd.nil _ _ _, (fun _ h => by cases h), Rd.nil _ _ _, Rd.nil _ _ _, Rd.nil _ _ _, rfl, (fun i row l h => by simp at h), (fun _ h => by cases h)⟩
def ex0 (L : List Ins) (A : Areas) : RS := ((RS.zero L [] [] (A, [])).setR 1 4294967296).setR 10 8589935104
theorem new_0 {L : List Ins} (hp : progS L = true) : RS.new L E0 = some (ex0 L (areas0 [])) := by
 unfold RS.new
 rw [if_neg (by rw [hp]; simp [E0])]
 unfold ex0
 generalize hA : areas0 E0.ctx = A
 have hA2 : areas0 [] = A := hA
 rw [hA2]
 have : rnew A E0.defs = some (A, []) := by unfold rnew; rw [if_pos (by decide)]; rfl
 rw [this]
 rfl
theorem ex7 (A : Areas) : ((ex0 [e7, eE] A).run 10).endV.code = 0 ∧ ((ex0 [e7, eE] A).run 10).endV.at_ = 1 ∧ ((ex0 [e7, eE] A).run 10).endV.r0 = 7 ∧ ((ex0 [e7, eE] A).run 10).endV.steps = 2 :=
 ⟨by kernel_rfl, by kernel_rfl, by kernel_rfl, by kernel_rfl⟩
theorem exE (A : Areas) : ((ex0 [eE] A).run 10).endV.code = 110 ∧ ((ex0 [eE] A).run 10).endV.at_ = 0 ∧ ((ex0 [eE] A).run 10).endV.r0 = 0 ∧ ((ex0 [eE] A).run 10).endV.steps = 0 :=
 ⟨by kernel_rfl, by kernel_rfl, by kernel_rfl, by kernel_rfl⟩
theorem ex_facts {L : List Ins} (hp : progS L = true) (hok : InsOk L) : (ex0 L (areas0 [])).Inv ∧ DefsOk (ex0 L (areas0 [])).D ∧ CallsSm (ex0 L (areas0 [])) ∧ (ex0 L (areas0 [])).steps ≤ 1000000 ∧ (ex0 L (areas0 [])).D.length ≤ 1000000 := by
 obtain ⟨h1, h2, h3, h4, h5, h6, h7, h8, h9⟩ := new_inv (new_0 hp) hok (fun _ h => by cases h) (by decide)
 exact ⟨h1, (fun d hd => by cases hd), (fun c hc => by cases hc), by show (0 : Int) ≤ 1000000; decide, by show (0 : Nat) ≤ 1000000; decide⟩
set_option maxRecDepth 20000 in
set_option maxHeartbeats 4000000 in
theorem l11_shown (w : World) : Calls Tryz.prog 21 #[] w fun e w' => e = .returned (.bool true) ∧ Ext w w' := by
 have HF7 := η (ex_facts e7_prog e7_ok)
 have HFE := η (ex_facts eE_prog eE_ok)
 go_enter Tryz.func21, Tryz.ntmps21
 go_wp2_with fail
 refine (p_New _ _ _ _ _ [] [e7, eE] E0 _ ((Own.lit enc_ins (base := 0) (w := w) [e7, eE] rfl rfl (Nat.zero_le _) (by simp [maxLen])).rd enc_ins) (by decide) e7_ok (envR_0 _) (by decide) (by decide)).mono ?_
 rintro e w1 hA
 rw [new_0 e7_prog] at hA
 obtain ⟨B1, rfl, hP1⟩ := hA
 have HP1 := η hP1
 clear hP1
 go_wp2_with fail
 refine (p_New _ _ _ _ _ [] [eE] E0 _ ((Own.lit enc_ins (base := 0) (w := w1) [eE] rfl rfl (Nat.zero_le _) (by simp [maxLen])).rd enc_ins) (by decide) eE_ok (envR_0 _) (by decide) (by decide)).mono ?_
 rintro e w2 hA
 rw [new_0 eE_prog] at hA
 obtain ⟨B2, rfl, hP2⟩ := hA
 have hs1 := HP1.out.keep.size
 have hs2 := hP2.keep.size
 have HT := η (Two2.made (B := PM _ B2 _) PM.kept HP1.out.relT ((Ext.rfl' w1).alloc' _) hP2.relT (fun j hj => by cases hj))
 have HE2 : Hid (Ext w w2) := η (by
  have h1 : Ext w w1 := Ext.trans' ((Ext.rfl' w).alloc' _) (HP1.out.keep.ext (fun _ h => by cases h))
  exact h1.trans' (Ext.trans' ((Ext.rfl' w1).alloc' _) (hP2.keep.ext (fun _ h => by cases h))))
 have HQ : Hid (∀ q, q < w.heap.size → q ∈ List.range (w.alloc (.cells #[.int .u8 183, .int .u8 0, .int .u8 0, .int .i16 0, .int .i32 7, .int .u8 149, .int .u8 0, .int .u8 0, .int .i16 0, .int .i32 0] 58)).heap.size) := η (fun q hq => List.mem_range.2 (by simp; omega))
 clear hP2
 go_wp2_with fail
 refine (two_run 10 PM.kept HT.out (Nat.le_trans hs1 (by simp at hs2; omega)) HF7.out.1 HF7.out.2.1 HF7.out.2.2.1 HF7.out.2.2.2.1 (by decide) HF7.out.2.2.2.2).mono ?_
 rintro e w3 ⟨lo, ca, cn, cc, ma, mn, mc, rfl, hT3, hlo, hU3, -⟩
 have HT3 := η hT3
 have HE3 := η (hU3.ext HQ.out HE2.out)
 have hs23 : w2.heap.size ≤ w3.heap.size := by obtain ⟨F, k, _⟩ := hU3; exact k.size
 have hs3 := HE3.out.size
 obtain ⟨c1, c2, c3, c4⟩ := ex7 (areas0 [])
 rw [c1, c2, c3, c4]
 clear hT3 hU3 c1 c2 c3 c4 hlo
 go_wp2_with fail
 refine (two_run 10 PM.kept HT3.out.symm (Nat.le_trans hs2 hs23) HFE.out.1 HFE.out.2.1 HFE.out.2.2.1 HFE.out.2.2.2.1 (by decide) HFE.out.2.2.2.2).mono ?_
 rintro e w4 ⟨lo2, ca2, cn2, cc2, ma2, mn2, mc2, rfl, hT4, hlo, hU4, -⟩
 have HE4 := η (hU4.ext HQ.out HE3.out)
 obtain ⟨c1, c2, c3, c4⟩ := exE (areas0 [])
 rw [c1, c2, c3, c4]
 clear hT4 hU4 c1 c2 c3 c4 hlo
 go_wp2_with fail
 go_returns
 exact ⟨rfl, by have := HE4.out; (repeat (first|exact xE0 _|assumption|refine xE1 ?_ _|refine xE2 ?_|refine xE3 ?_ _|refine xE4 ?_ (by assumption)))⟩
def aheadAt (L : List Ins) (k : Nat) : List Int := match L[k]? with | some x => aheadL L x k | none => []
def L0 : List Ins := [⟨183, 0, 0, 0, 0⟩, ⟨21, 0, 0, 1, 0⟩, ⟨183, 0, 0, 0, 0⟩, ⟨149, 0, 0, 0, 0⟩]
end Go.Proofs.YtppefchjoodgnaaGreat
