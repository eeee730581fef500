/- What the claim leans on: PmO · RTJ. -/
import Derived.Test.YtppefchjoodgnaaGreatPN31
import Derived.Test.YtppefchjoodgnaaGreatPN13
namespace Go.Proofs.YtppefchjoodgnaaGreat
open Go.RowKit
set_option linter.unusedVariables false
set_option linter.unusedSimpArgs false
section
variable {F0 Z0 : List Nat} {wf w w' : World} {base mb : Nat} {σ : RS} {l : PLay}
set_option maxRecDepth 20000 in
set_option maxHeartbeats 4000000 in
theorem p_call (x : Ins) (h : PS F0 Z0 wf base w mb σ) (ho : σ.Ok) (hD : DefsOk σ.D) (hdl : σ.dr.length ≤ 1000000) (hcl : σ.calls.length ≤ 1000000) (hx : x.Ok) :
  Calls Tryz.prog 96 #[.pointer (some ⟨mb, 0, none⟩), x.agg] w (PSAns F0 Z0 wf base mb (σ.call x).1 (.int .i64 (σ.call x).2)) := by
 obtain ⟨op, dst, src, off, imm⟩ := x
 have HX := η hx.imm
 have HBU := η h.u8
 obtain ⟨T, hr, h⟩ := h
 have HVR := η hr
 have HM := η h
 have HO := η ho
 have HDO := η hD
 have hlt := h.lt
 have HRES := η (fun c => @call_helps σ ⟨op, dst, src, off, imm⟩ c)
 have HRES2 : Hid (∀ _ : helper imm = false, σ.call ⟨op, dst, src, off, imm⟩ = (σ, 112)) := η (fun hh => by rw [RS.call, if_pos hh])
 have HRES3 : Hid (∀ _ : helper imm = true, (σ.told imm).2 ≠ 0 → σ.call ⟨op, dst, src, off, imm⟩ = (σ, (σ.told imm).2)) := η (fun hh ht => by rw [RS.call, if_neg (by rw [hh]; decide), if_pos ht])
 obtain ⟨res, hres⟩ : ∃ r, RS.call σ ⟨op, dst, src, off, imm⟩ = r := ⟨_, rfl⟩
 rw [hres] at HRES HRES2 HRES3 ⊢
 have hwi : wrap64 imm = imm := by have := HX.out; simp only at this; unfold wrap64; omega
 have HTOLD := η (fun W tl mo dw sv (he : Ext w W) (hs : Sl W .u8 sv (tolds imm)) => (p_told (σ := σ.vt T) imm tl mo dw sv (HM.out.go he) HO.out hs))
 have HDL := η hdl
 have HCLN := η hcl
 clear h ho hx hres hr hD hdl hcl
 go_enter Tryz.func96, Tryz.ntmps96
 go_upto_region 1 with fail
 go_cut [5, 6] from 9 to 16 (fun v6 v7 wx => ∃ p sv, v6 = .pointer (some ⟨p, 0, none⟩) ∧ v7 = .bool (helper imm) ∧ Hid (w.heap.size ≤ p ∧ Ext w wx ∧ wx.heap[p]? = some (sigObj sv (tells imm) (draws imm) (most imm)) ∧ Sl wx .u8 sv (tolds imm) ∧ wx.cell? ⟨w.heap.size, 4, none⟩ = some (.int .i32 imm)))
 case first =>
  go_wp2_with fail
  refine (psig _ _).mono ?_
  rintro e w1 ⟨sv, rfl, hv, hE⟩
  obtain ⟨sa, sn, sc, rfl, hsn, hSN⟩ := hv.val
  have HV := η hv
  have hz : w.heap.size ≤ w1.heap.size := by have := hE.size; simp at this; omega
  have HB4 : Hid (w1.cell? ⟨w.heap.size, 4, none⟩ = some (.int .i32 imm)) := η (cO (hE.obj (obj_top w (.cells #[.int .u8 op, .int .u8 dst, .int .u8 src, .int .i16 off, .int .i32 imm] 58 (0, 0)) rfl)))
  clear hv
  go_wp2_with fail
  go_meet
  exact ⟨_, _, rfl, rfl, η ⟨hz, by (repeat (first|exact xE0 _|assumption|refine xE1 ?_ _|refine xE2 ?_|refine xE3 ?_ _|refine xE4 ?_ (by assumption))), obj_top _ _ rfl, HV.out.ext (by (repeat (first|exact xE0 _|assumption|refine xE1 ?_ _|refine xE2 ?_|refine xE3 ?_ _|refine xE4 ?_ (by assumption)))), Ext.cellOf (by (repeat (first|exact xE0 _|assumption|refine xE1 ?_ _|refine xE2 ?_|refine xE3 ?_ _|refine xE4 ?_ (by assumption)))) HB4.out⟩⟩
 case rest =>
  obtain ⟨p, sv, rfl, rfl, HC⟩ := hcut
  obtain ⟨hp, hE1, hsg, hsl, hx4⟩ := HC.out
  obtain ⟨sa, sn, sc, rfl, hsn, hSN⟩ := hsl.val
  have HE1 := η hE1
  have HSG := η hsg
  have HSL := η hsl
  clear hE1 hsg hsl HC
  (have s0 := cO (i := 0) (HSG.out); have s1 := cO (i := 1) (HSG.out); have s2 := cO (i := 2) (HSG.out); have s3 := cO (i := 3) (HSG.out); have sf := fun i => frozen_obj (i := i) (HSG.out); simp only [gA, gB, gC] at s0 s1 s2 s3)
  cases hh : helper imm
  ·have HH := η hh
   go_wp2_with fail
   go_returns
   obtain rfl : res = (σ, 112) := HRES2.out HH.out
   exact ⟨rfl, T, HVR.out, HM.out.go HE1.out⟩
  ·have HH := η hh
   clear HRES2
   go_upto_region 4 with fail
   go_cut [7, 8] from 18 to 27 (fun v8 v9 wy => ∃ q er Q y, v8 = .pointer (some ⟨q, 0, none⟩) ∧ v9 = .int .i64 er ∧ Hid (y.c = (σ.told imm).1 ∧ er = (σ.told imm).2) ∧ Hid (CallP Q F0 Z0 wf base mb (σ.vt T) p q (.slice sa sn sc) imm wy y))
   case first =>
    go_wp2_with fail
    refine (HTOLD.out _ _ _ _ _ HE1.out HSL.out).mono ?_
    rintro e w2 ⟨y, hr, hyc, hca, hE2⟩
    rw [vt_told] at hr hyc
    obtain rfl : e = .returned (.tuple #[.agg #[.int .i64 y.c.id, .int .i64 y.c.map, .slice y.ka y.c.key.length y.kc, .slice y.va y.c.val.length y.vc, .slice y.na y.c.n.length y.nc, .int .u64 y.c.ret], .int .i64 (σ.told imm).2]) := hr
    have hEx : Ext w2 (w2.alloc (cbObj y)) := (Ext.rfl' _).alloc' _
    have hbx := obj_top w2 (cbObj y) rfl
    have HNEW := η (CallP.new HM.out HE1.out hp HSG.out HE1.out.size hca hE2 hEx hbx)
    have HYC := η hyc
    have HE2 := η hE2
    clear hca hyc hE2 hbx hEx
    go_wp2_with fail
    go_meet
    obtain ⟨Q, hQ⟩ := HNEW.out
    exact ⟨_, _, Q, y, rfl, rfl, η ⟨HYC.out, rfl⟩, η hQ⟩
   case rest =>
    obtain ⟨q, er, Q, y, rfl, rfl, HY, HCL⟩ := hcut
    clear s0 s1 s2 s3 sf hx4
    by_cases her : (er != 0) = true
    ·go_wp2_with fail
     go_returns
     obtain rfl : res = (σ, er) := by
      have h1 := HRES3.out HH.out (by rw [← HY.out.2]; simpa using her)
      rw [h1, ← HY.out.2]
     exact ⟨rfl, T, HVR.out, HCL.out.rel.rel⟩
    ·obtain rfl : er = 0 := by simpa using her
     have HTD := η (told_id HY.out.2.symm)
     have HTT : Hid (σ.told imm = (y.c, 0)) := η (by rw [HY.out.1, HY.out.2])
     have HG := η (HRES.out y.c HH.out HTT.out)
     have HYI : Hid (y.c.id = imm) := η (by rw [HY.out.1]; exact HTD.out.1)
     clear her HRES HRES3
     have HHP : Hid (Calls Tryz.prog 132 #[.pointer (some ⟨mb, 0, none⟩), .agg y.enc.toArray, .agg #[.slice sa sn sc, .int .u8 (tells imm), .bool (draws imm), .int .u64 (most imm)]] wc (HelpsA Q F0 Z0 wf base mb (σ.helps y.c) wc)) := η (by
      have := p_helps (sv := .slice sa sn sc) HCL.out.rel HVR.out HCL.out.c (fun j hj => (HCL.out.hy j hj).1) (by rw [HYI.out]; exact HH.out) (by rw [HYI.out]; exact HTT.out) HO.out HDO.out HBU.out HDL.out
      rw [HYI.out] at this
      exact this)
     obtain ⟨τ, n, er, hhp⟩ : ∃ a b c, σ.helps y.c = (a, b, c) := ⟨_, _, _, rfl⟩
     have HTC : Hid (τ.calls = σ.calls) := η (by
      have : (σ.helps y.c).1.calls = σ.calls := by
       unfold RS.helps
       split
       ·show (if drawnErr y.c.id σ.dr ≠ 0 then σ else _).calls = _
        split <;> rfl
       ·rfl
      rw [hhp] at this
      exact this)
     rw [hhp] at HHP HG
     clear hhp
     have hcbx := HCL.out.box
     have hsbx := HCL.out.sig
     (have b0 := cO (i := 0) (hcbx); have b1 := cO (i := 1) (hcbx); have b2 := cO (i := 2) (hcbx); have b3 := cO (i := 3) (hcbx); have b4 := cO (i := 4) (hcbx); have b5 := cO (i := 5) (hcbx); have bf := fun i => frozen_obj (i := i) (hcbx); simp only [gA, gB, gC] at b0 b1 b2 b3 b4 b5)
     (have s0 := cO (i := 0) (hsbx); have s1 := cO (i := 1) (hsbx); have s2 := cO (i := 2) (hsbx); have s3 := cO (i := 3) (hsbx); have sf := fun i => frozen_obj (i := i) (hsbx); simp only [gA, gB, gC] at s0 s1 s2 s3)
     go_upto_region 7 with fail
     go_cut [8] from 30 to 38 (fun v8 wy => v8 = .int .i64 er ∧ Hid (∃ T', VRel (τ.V.1, T') τ.V ∧ CallP Q F0 Z0 wf base mb (τ.vt T') p q (.slice sa sn sc) imm wy { y with c := { y.c with ret := n } }))
     case first =>
      go_wp2_with fail
      refine HHP.out.mono ?_
      rintro e w5 ⟨rfl, ⟨T', hr', hp'⟩, hk⟩
      have hC := HCL.out.step hp' hk
      have HRT := η (⟨T', hr', hC.ret n⟩ : ∃ T', VRel (τ.V.1, T') τ.V ∧ CallP Q F0 Z0 wf base mb (τ.vt T') p q (.slice sa sn sc) imm _ { y with c := { y.c with ret := n } })
      have hc5 := hC.box
      clear hr' hp' hk hC b0 b1 b2 b3 b4 b5 bf s0 s1 s2 s3 sf
      (have b0 := cO (i := 0) (hc5); have b1 := cO (i := 1) (hc5); have b2 := cO (i := 2) (hc5); have b3 := cO (i := 3) (hc5); have b4 := cO (i := 4) (hc5); have b5 := cO (i := 5) (hc5); have bf := fun i => frozen_obj (i := i) (hc5); simp only [gA, gB, gC] at b0 b1 b2 b3 b4 b5)
      go_wp2_with fail
      go_meet
      exact ⟨rfl, HRT⟩
     case rest =>
      obtain ⟨rfl, HC2⟩ := hcut
      clear b0 b1 b2 b3 b4 b5 bf s0 s1 s2 s3 sf hcbx hsbx HHP
      obtain ⟨T', hr', hC2⟩ := HC2.out
      have HV2 := η hr'
      have HT := η hC2
      clear hr' hC2 HC2
      by_cases her : (er != 0) = true
      ·go_wp2_with fail
       go_returns
       obtain rfl : res = (τ, er) := by rw [HG.out, if_pos (by simpa using her)]
       exact ⟨rfl, T', HV2.out, HT.out.rel.rel⟩
      ·obtain rfl : er = 0 := by simpa using her
       have HRS : Hid (res = (RS.done τ { y.c with ret := n }, 0)) := η (by rw [HG.out, if_neg (by simp)])
       obtain ⟨yt, hyt⟩ : ∃ s, ({ y with c := { y.c with ret := n } } : CB) = s := ⟨_, rfl⟩
       have hyc : ({ y.c with ret := n } : Cl) = yt.c := by rw [← hyt]
       have hny : n = yt.c.ret := by rw [← hyt]
       rw [hyc] at HRS
       rw [hyt] at HT
       obtain ⟨st, hst⟩ : ∃ s, τ.vt T' = s := ⟨_, rfl⟩
       rw [hst] at HT
       have HCN : Hid (st.calls.length ≤ 1000000) := η (by rw [← hst]; show τ.calls.length ≤ 1000000; rw [HTC.out]; exact HCLN.out)
       have HST := η hst
       have hcx := HT.out.box
       clear HG her hyc hny hyt hst
       obtain ⟨h0, hl, l, g1, g2, g3, g4⟩ := HT.out.rel
       obtain ⟨ca, cn, cc, hcv, hcn, hCN⟩ := (g1.calls.rd enc_cb).val
       have hcl2 : l.cs.length ≤ 1000000 := by have := congrArg List.length g1.cls; rw [List.length_map] at this; rw [this]; exact HCN.out
       have hnod := List.nodup_cons.1 g1.apart
       have hown0 := g1.calls
       rw [hcv] at hown0
       have hmbn : mb ∉ (Value.slice ca cn cc).ownBlock.toList := fun hb => hnod.1 (List.mem_append_left _ (by rw [hcv]; exact hb))
       have hqn : q ∉ (Value.slice ca cn cc).ownBlock.toList := fun hb => (g4 q HT.out.hq.1).2.1 (by simp only [pfoot, List.mem_cons, List.mem_append]; exact .inr (.inl (by rw [hcv]; exact hb)))
       have hlow : base ≤ wc.heap.size := Nat.le_trans hl h0.size
       have HOWN := η hown0
       have HMB := η g1.head
       have hbb : wc.cell? ⟨mb, 31, none⟩ = some (.slice ca cn cc) := by have := g1.cell 31 rfl; rw [hcv] at this; exact this
       have hbz := hbb
       have HBX := η HT.out.box
       have HY1 : Hid (Rd (wc.alloc (.cells #[.int .i64 yt.c.id, .int .i64 yt.c.map, .slice yt.ka yt.c.key.length yt.kc, .slice yt.va yt.c.val.length yt.vc, .slice yt.na yt.c.n.length yt.nc, .int .u64 yt.c.ret] 76)) 6 CB.enc (.slice (some ⟨wc.heap.size, 0, none⟩) 1 1) [yt]) := η ((Own.lit enc_cb (base := 0) (w := wc) [yt] rfl rfl (Nat.zero_le _) (by simp [maxLen])).rd enc_cb)
       have HF5 : Hid (∀ u' : World, (wc.alloc (.cells #[.int .i64 yt.c.id, .int .i64 yt.c.map, .slice yt.ka yt.c.key.length yt.kc, .slice yt.va yt.c.val.length yt.vc, .slice yt.na yt.c.n.length yt.nc, .int .u64 yt.c.ret] 76)).grownBy u' (Value.slice ca cn cc).ownBlock → Keep (Value.slice ca cn cc).ownBlock.toList wc u' ∧ u'.cell? ⟨mb, 31, none⟩ = some (.slice ca cn cc) ∧ u'.frozen? ⟨mb, 31, none⟩ = false ∧ u'.heap[q]? = some (cbObj yt)) := η fun u' hg => by
        have hk : Keep (Value.slice ca cn cc).ownBlock.toList wc u' := (Keep.of_ext ((Ext.rfl' wc).alloc' _)).trans (grown_keep hg)
        exact ⟨hk, cell_kept (a := ⟨mb, 31, none⟩) (fun o ho => hk.obj ho hmbn) hbz, frozen_obj (hk.obj HMB.out hmbn), hk.obj HBX.out hqn⟩
       have hfz := frozen_obj (i := 31) g1.head
       have hfz2 : (wc.alloc (.cells #[.int .i64 yt.c.id, .int .i64 yt.c.map, .slice yt.ka yt.c.key.length yt.kc, .slice yt.va yt.c.val.length yt.vc, .slice yt.na yt.c.n.length yt.nc, .int .u64 yt.c.ret] 76)).drew.frozen? ⟨mb, 31, none⟩ = false := frozen_obj (i := 31) (obj_old (.cells #[.int .i64 yt.c.id, .int .i64 yt.c.map, .slice yt.ka yt.c.key.length yt.kc, .slice yt.va yt.c.val.length yt.vc, .slice yt.na yt.c.n.length yt.nc, .int .u64 yt.c.ret] 76) g1.head)
       have hbw4 : (wc.alloc (.cells #[.int .i64 yt.c.id, .int .i64 yt.c.map, .slice yt.ka yt.c.key.length yt.kc, .slice yt.va yt.c.val.length yt.vc, .slice yt.na yt.c.n.length yt.nc, .int .u64 yt.c.ret] 76)).drew.cell? ⟨mb, 31, none⟩ = some (.slice ca cn cc) := cell_kept (w := wc) (a := ⟨mb, 31, none⟩) (fun o ho => obj_old _ ho) hbb
       have hqmb : q ≠ mb := HT.out.hq.2.2
       (have b0 := cO (i := 0) (HBX.out); have b1 := cO (i := 1) (HBX.out); have b2 := cO (i := 2) (HBX.out); have b3 := cO (i := 3) (HBX.out); have b4 := cO (i := 4) (HBX.out); have b5 := cO (i := 5) (HBX.out); have bf := fun i => frozen_obj (i := i) (HBX.out); simp only [gA, gB, gC] at b0 b1 b2 b3 b4 b5)
       have HL := η (And.intro h0 (And.intro hl (And.intro g1 (And.intro g2 (And.intro g3 (And.intro g4 hcv))))))
       clear h0 hl g1 g2 g3 g4 hcv hnod hown0 hbz hcx
       go_upto_region 10 with fail
       go_region_law
        ((apply app_step2 el_called enc_cb (xs := l.cs) (ys := [yt]) (base := base); (case hw => rfl); (case ho => rfl); (case hs => rfl); (case hown => exact (HOWN.out.alloc _).drew); (case hx => rfl); (case hy => exact HY1.out.ext (Ext.drew' (Ext.rfl' _))); (case hbytes => simp; omega); (case hbase => simp; omega); intro lv w5 hown5 hgrow5 hmv5; obtain ⟨hk5, d0, d1, d2⟩ := HF5.out w5 ⟨hgrow5.os, hgrow5.tape, hgrow5.output, hgrow5.size, hgrow5.block⟩; have HO5 := η hown5; have HK5 := η hk5; have HB5 := η d2; have HMV5 : Hid (∀ k, lv.ownBlock = some k → (Value.slice ca cn cc).ownBlock = some k ∨ wc.heap.size ≤ k) := η (fun k hk => (hmv5 k hk).imp id (fun h => by simp at h; omega)); clear hown5 hgrow5 hmv5 hk5 d2; obtain ⟨la, ln, lc, rfl, hln, hLN⟩ := (HO5.out.rd enc_cb).val))
       all_goals
        obtain ⟨h0, hl, g1, g2, g3, g4, hcv⟩ := HL.out
        have hpu := PRelQ.push (x := yt) (v := .slice la ln lc) h0 hl g1 g2 g3 g4 (fun j hj => ⟨(HT.out.hy j hj).1, (HT.out.hy j hj).2.1⟩) ⟨HT.out.c.key.rd (enc_int _), HT.out.c.val.rd (enc_int _), HT.out.c.n.rd (enc_int _)⟩ (by rw [hcv]; exact HK5.out) HO5.out (by rw [hcv]; exact HMV5.out)
        have HM6 := η hpu.1
        have HB6 := η (hpu.2 q HT.out.hq.1 _ HBX.out)
        clear hpu h0 hl g1 g2 g3 g4 hcv b0 b1 b2 b3 b4 b5 bf hbb hfz hfz2 hbw4 HL HF5 HY1 d0 d1
        generalize hw6 : (World.setCell w5 ⟨mb, 31, none⟩ (.slice la ln lc)) = w6 at *
        clear hw6
        have hcl5 := fun ty => run_clear5 HM6.out ty 10
        have HM7 := η HM6.out.clr5
        have HB7 := η ((ten0_other w6 hqmb).trans HB6.out)
        have hlt6 := HM6.out.lt
        go_upto_region 11 with fail
        go_wp2_with (simp only [hcl5])
        generalize w6.setCells mb 3 ten0 = w7 at HM7 HB7 ⊢
        have z5 : w7.cell? ⟨q, 5, none⟩ = some (.int .u64 yt.c.ret) := cO HB7.out
        have z5g := Grow.cell z5
        clear z5 hcl5
        (refine wp_region_ext_tail 7 (by kernel_rfl) (by kernel_rfl) ?_; simp only [List.take_succ_cons, List.take_zero]; (repeat (go_big_quiet_step ((fail)))); refine wpQuiet_nil ?_; rintro wz ⟨nz, hz⟩; have hwq := nz.ext; rw [← hz] at hwq; simp only [List.drop_succ_cons, List.drop_zero]; clear hz)
        have HM8 := η (HM7.out.go hwq)
        have HM9 := η (HM8.out.setR (d := 0) (by decide) yt.c.ret)
        obtain ⟨h0, hl, l8, g1, g2, g3⟩ := HM8.out
        have m1 := g1.cell 1 rfl
        have m2 := g1.cell 2 rfl
        have mf := fun i => frozen_obj (i := i) g1.head
        clear h0 hl g1 g2 g3
        go_wp2_with fail
        go_returns
        obtain rfl := HRS.out
        have hst := HST.out
        subst hst
        exact ⟨rfl, T', HV2.out, HM9.out⟩
end
def ItemsO (l : List (ByteArray × List Int)) (w : World) (e : Ending) (w' : World) : Prop :=
 ∃ v I, e = .returned v ∧ Own w' w.heap.size 36 2 IT.enc v I ∧ (∀ y ∈ I, ∀ F u, (∀ q ∈ F, q < w.heap.size ∨ q ∈ v.ownBlock.toList) → Keep F w' u → Sl u .u8 y.kv y.key ∧ Sl u .u8 y.vv y.val) ∧ I.map (fun x => (strOfNums x.key, x.val)) = l ∧ Ext w w'
theorem items_step2 {wr w6 w8 : World} {v lv : Value} {I : List IT} {y : IT} {B0 : Nat} (hB : B0 ≤ wr.heap.size) (hE : Ext wr w6) (hold : ∀ q ∈ v.ownBlock.toList, q < wr.heap.size)
  (HSI : ∀ y ∈ I, ∀ F w', (∀ q ∈ F, q < B0 ∨ q ∈ v.ownBlock.toList) → Keep F wr w' → Sl w' .u8 y.kv y.key ∧ Sl w' .u8 y.vv y.val)
  (hk : Sl w6 .u8 y.kv y.key) (hkb : ∀ a n c, y.kv = .slice (some a) n c → wr.heap.size ≤ a.block ∧ a.block < w6.heap.size) (hv : Sl w6 .u8 y.vv y.val) (hvb : ∀ a n c, y.vv = .slice (some a) n c → wr.heap.size ≤ a.block ∧ a.block < w6.heap.size)
  {o : Obj} (hg : (w6.alloc o).grownBy w8 v.ownBlock) (hmv : ∀ q ∈ lv.ownBlock.toList, q ∈ v.ownBlock.toList ∨ w6.heap.size ≤ q) :
  ∀ z ∈ I ++ [y], ∀ F w', (∀ q ∈ F, q < B0 ∨ q ∈ lv.ownBlock.toList) → Keep F w8 w' → Sl w' .u8 z.kv z.key ∧ Sl w' .u8 z.vv z.val := by
 have hk8 := grown_keep hg
 have hk9 : Keep v.ownBlock.toList wr w8 := (Keep.of_ext (hE.alloc' o)).trans hk8
 have hs := hE.size
 intro z hz F w' hF k'
 rcases List.mem_append.1 hz with hz | hz
 ·refine HSI z hz (v.ownBlock.toList ++ F.filter (fun q => decide (q < wr.heap.size))) w' (fun q hq => ?_) ((hk9.mono fun q hq => .inl (List.mem_append_left _ hq)).through k' (fun q hq => ?_))
  ·rcases List.mem_append.1 hq with hq | hq
   ·exact .inr hq
   ·have h1 := List.mem_filter.1 hq
    have h2 : q < wr.heap.size := by simpa using h1.2
    rcases hF q h1.1 with h | h
    ·exact .inl h
    ·exact (hmv q h).elim .inr (fun h => by omega)
  ·by_cases h2 : q < wr.heap.size
   ·exact .inl (List.mem_append_right _ (List.mem_filter.2 ⟨hq, by simpa using h2⟩))
   ·exact .inr (by omega)
 ·rw [List.mem_singleton] at hz
  subst hz
  have hx : Ext w6 (w6.alloc o) := (Ext.rfl' w6).alloc' o
  have go : ∀ (u : Value) (xs : List Int), Sl w6 .u8 u xs → (∀ a n c, u = .slice (some a) n c → wr.heap.size ≤ a.block ∧ a.block < w6.heap.size) → Sl w' .u8 u xs := fun u xs h hb => by
   refine ((h.ext hx).keep hk8 (fun a n c e hq => ?_)).keep k' (fun a n c e hq => ?_)
   ·have := hold _ hq; have := (hb a n c e).1; omega
   ·rcases hF _ hq with h0 | h0
    ·have := (hb a n c e).1; omega
    ·rcases hmv _ h0 with h1 | h1
     ·have := hold _ h1; have := (hb a n c e).1; omega
     ·have := (hb a n c e).2; omega
  exact ⟨go _ _ hk hkb, go _ _ hv hvb⟩
set_option maxRecDepth 20000 in
set_option maxHeartbeats 8000000 in
theorem rtab_items2 (base tb : Nat) (S : RTabs) (i : Int) (w : World) (h : RTabAt w base tb S) (HB : Hid (∀ x ∈ S.R, x.T.slots.length ≤ 1000 ∧ ∀ p ∈ x.T.slots, p.1.size ≤ 1000)) :
  Calls Tryz.prog 39 #[.pointer (some ⟨tb, 0, none⟩), .int .i64 i] w (ItemsO (ritems (rview S) i) w) := by
 have HT := η h
 have hb1 := cO (i := 1) h.head
 simp only [gA, gB, gC] at hb1
 have RMM := η (h.maps.rd enc_rm)
 obtain ⟨ma, mn, mc, hmv, hmn, hMN⟩ := RMM.out.val
 have HMV := η hmv
 rw [hmv] at hb1 RMM
 have h8 := h.few
 clear h hmv
 by_cases h0 : i < 0
 ·have hr : ritems (rview S) i = [] := by simp only [ritems, pick, rview]; rw [if_pos h0]
  rw [hr]
  clear hr
  go_enter Tryz.func39, Tryz.ntmps39
  go_wp2
  go_returns
  exact ⟨.slice none 0 0, [], rfl, Own.nil _ _ _ _ _, by simp, rfl, Ext.rfl' _⟩
 by_cases h1 : (mn : Int) ≤ i
 ·have hr : ritems (rview S) i = [] := by
   simp only [ritems, pick, rview]
   rw [if_neg h0, List.getElem?_eq_none (by have := hMN.out; simp; omega)]
  rw [hr]
  clear hr
  go_enter Tryz.func39, Tryz.ntmps39
  go_wp2
  go_returns
  exact ⟨.slice none 0 0, [], rfl, Own.nil _ _ _ _ _, by simp, rfl, Ext.rfl' _⟩
 obtain ⟨j, rfl⟩ : ∃ j : Nat, i = j := ⟨i.toNat, by omega⟩
 have hj8 : j < S.R.length := by have := hMN.out; omega
 obtain ⟨x, hx⟩ := at_of_lt (xs := S.R) (k := j) hj8
 have hxm := List.mem_of_getElem? hx
 have hi1 : ((j : Nat) : Int) < (mn : Int) := by omega
 have RK := η ((HT.out.keys x hxm).rd enc_ks)
 obtain ⟨la, ln, lc, hlv, hln, hLN⟩ := RK.out.val
 have HLV := η hlv
 rw [hlv] at RK
 have ix := fun W => RMM.out.run_at (P := Tryz.prog) el_rm.under el_rm.size .i64 (j : Int) (by omega) (by omega) W
 obtain ⟨c0, c1, c2, c3, c4, c5⟩ := rm_cells RMM.out hx
 simp only [Int.toNat_natCast] at ix
 rw [hlv] at c4
 have HSL : Hid ((ln : Int) = (x.T.slots.length : Int)) := η (by have := hLN.out; omega)
 have HRI : Hid (ritems (rview S) j = x.T.slots.map fun p => (p.1, (marea (viewR S.L) (tarea j (p.2 : Nat))).1)) := η (by
  simp only [ritems, pick, rview]
  rw [if_neg h0, Int.toNat_natCast, List.getElem?_map, hx]
  rfl)
 have HSB : Hid (∀ u, Ext w u → u.cell? ⟨tb, 1, none⟩ = some (.slice ma mn mc) ∧ u.cell? ⟨(elt (.slice ma mn mc) (j * 6)).block, (elt (.slice ma mn mc) (j * 6)).off + 4, none⟩ = some (.slice la ln lc)) := η fun u k => ⟨k.cellOf hb1, k.cellOf c4⟩
 obtain ⟨hB1, hB2⟩ := HB.out x hxm
 have HB2 := η hB2
 have HMD := η (HT.out.made x hxm)
 have hl1000 : ln ≤ 1000 := by have := hLN.out; omega
 have dj : decide ((j : Int) < 0) = false := by simp
 have dm : decide (mn ≤ j) = false := by simp; omega
 clear hx hlv c0 c1 c2 c3 c5 hB2 h0 h1
 go_enter Tryz.func39, Tryz.ntmps39
 go_wp2_with fail
 go_loopw [6, 5] (fun c v wr => ∃ (k : Nat) (I : List IT), k ≤ ln ∧ c = .int .i64 k ∧ I.length = k ∧ Hid (Own wr w.heap.size 36 2 IT.enc v I) ∧ Hid (∀ y ∈ I, ∀ F w', (∀ q ∈ F, q < w.heap.size ∨ q ∈ v.ownBlock.toList) → Keep F wr w' → Sl w' .u8 y.kv y.key ∧ Sl w' .u8 y.vv y.val) ∧ Hid (I.map (fun y => (strOfNums y.key, y.val)) = (ritems (rview S) j).take k) ∧ (∃ a n c, v = .slice a n c) ∧ Ext w wr) (fun c _ _ => ln - (intOf c).toNat)
 case atStart => exact ⟨0, [], Nat.zero_le _, rfl, rfl, η (Own.nil _ _ _ _ _), η (by simp), η (by simp), ⟨_, _, _, rfl⟩, Ext.rfl' _⟩
 case round =>
  obtain ⟨k, I, hk, rfl, hIl, HO, HSI, HMI, ⟨oa, on, oc, rfl⟩, hwr⟩ := hrel
  have HIL := η hIl
  clear hIl
  obtain ⟨d1, d4⟩ := HSB.out _ hwr
  by_cases hlt2 : (k : Int) < ln
  case neg =>
   have hkn : (x.T.slots.length : Nat) ≤ k := by have := HSL.out; omega
   have HKN := η hkn
   clear hkn
   go_wp2_with fail
   go_returns
   refine ⟨_, I, rfl, HO.out, HSI.out, ?_, hwr⟩
   rw [HMI.out, List.take_of_length_le (by rw [HRI.out, List.length_map]; exact HKN.out)]
  case pos =>
   obtain ⟨p, hp⟩ := at_of_lt (xs := x.T.slots) (k := k) (by have := HSL.out; omega)
   have iy := fun W => RK.out.run_at (P := Tryz.prog) el_rk.under el_rk.size .i64 (k : Int) (by omega) (by omega) W
   simp only [Int.toNat_natCast] at iy
   obtain ⟨z0, z1⟩ := ks_cells (RK.out.ext hwr) hp
   have HPM := η hp
   have hpz := HB2.out p (List.mem_of_getElem? hp)
   have hp2 := HMD.out.2 p (List.mem_of_getElem? hp)
   have hobj := obj_top wr (keyObj p.1 p.2) rfl
   have HSK : Hid (∀ u, Ext (wr.alloc (keyObj p.1 p.2)) u → u.cell? ⟨wr.heap.size, 0, none⟩ = some (.string p.1) ∧ u.cell? ⟨wr.heap.size, 1, none⟩ = some (.int .i64 (p.2 : Nat)) ∧ u.cell? ⟨tb, 0, none⟩ = some (.pointer (some ⟨S.rb, 0, none⟩))) := η fun u k =>
    ⟨cO (k.obj hobj), cO (k.obj hobj), cO (HT.out.ext (hwr.trans' (((Ext.rfl' _).alloc' _).trans' k))).head⟩
   have hE1 : Ext wr (wr.alloc (keyObj p.1 p.2)) := (Ext.rfl' _).alloc' _
   have hZ : wr.heap.size < (wr.alloc (keyObj p.1 p.2)).heap.size := by simp
   have HTr := η (HT.out.ext (hwr.trans' hE1))
   clear hp hobj
   go_upto_region 8 with fail
   generalize wr.alloc (.cells #[.string p.1, .int .i64 (p.2 : Nat)] 129) = w2 at *
   generalize hZZ : wr.heap.size = Z at *
   obtain ⟨y0, y1, yb⟩ := HSK.out _ (Ext.rfl' _)
   go_cut [8, 9] (fun v8 v9 wx => Ext w2 wx ∧ Hid (Rd wx 1 encB v8 (marea (viewR S.L) (tarea j (p.2 : Nat))).1))
   case first =>
    go_region_held3 (fun w' => w'.cell? ⟨tb, 0, none⟩ = some (.pointer (some ⟨S.rb, 0, none⟩)) ∧ w'.cell? ⟨Z, 1, none⟩ = some (.int .i64 (p.2 : Nat)))
     (first | exact ⟨yb, y1⟩ | exact s5)
     ((first
      | (go_at_call 63; refine (rtab_area j p.2 _ (by omega) (by omega) (by omega) (by omega)).mono ?_; rintro e w4 ⟨rfl, rfl⟩)
      | (go_at_call 72; refine (ref_area base S.rb S.lv S.L (tarea j p.2) _ (HTr.out.mem.ext (by (repeat (first|exact xE0 _|assumption|refine xE1 ?_ _|refine xE2 ?_|refine xE3 ?_ _|refine xE4 ?_ (by assumption)))))).mono ?_; rintro e w5 ⟨bv, rfl, hbv, rfl⟩; have HBV := η hbv; clear hbv)))
    all_goals
     go_wp2_with fail
     go_meet
     exact ⟨by (repeat (first|exact xE0 _|assumption|refine xE1 ?_ _|refine xE2 ?_|refine xE3 ?_ _|refine xE4 ?_ (by assumption))), η (HBV.out.ext (by (repeat (first|exact xE0 _|assumption|refine xE1 ?_ _|refine xE2 ?_|refine xE3 ?_ _|refine xE4 ?_ (by assumption)))))⟩
   case rest =>
    obtain ⟨hx3, HBV⟩ := hcut
    obtain ⟨ba, bn, bc, rfl, hbn, hBN⟩ := HBV.out.val
    obtain ⟨bs, hbs⟩ : ∃ bs, (marea (viewR S.L) (tarea j (p.2 : Nat))).1 = bs := ⟨_, rfl⟩
    have HBS := η hbs
    rw [hbs] at HBV hBN
    have hbl : bs.length ≤ 1000000 := by rw [← hbs]; exact (marea_len HT.out.mem _)
    obtain ⟨cf, wf, hconv, hwf⟩ := bytes_fun p.1 (by omega)
    have HWF := η hwf
    obtain ⟨kk, hkk⟩ : ∃ kk, numsK p.1 = kk := ⟨_, rfl⟩
    rw [hkk] at hconv HWF
    have HKK := η hkk
    have hwc : Ext wr wc := hE1.trans' hx3
    have HO9 := η (HO.out.ext hwc)
    have HS9 : Hid (∀ u, Ext wc u → u.cell? ⟨Z, 0, none⟩ = some (.string p.1)) := η fun u k => (HSK.out u (hx3.trans' k)).1
    have q0 := HS9.out _ (Ext.rfl' _)
    have hIl2 : I.length ≤ 1000 := by have := HIL.out; omega
    have HKEY : Hid (∀ W0 w6, Ext (wf W0) w6 → ∀ q, q = W0.heap.size → Sl w6 .u8 (.slice (some ⟨q, 0, none⟩) kk.length (cf W0)) kk) := η fun W0 w6 k q hq => by subst hq; exact (HWF.out W0).2.1.ext k
    have HKB : Hid (∀ W0 w6, Ext wr W0 → Ext (wf W0) w6 → ∀ q, q = W0.heap.size → ∀ a n c, Value.slice (some ⟨q, 0, none⟩) kk.length (cf W0) = .slice (some a) n c → wr.heap.size ≤ a.block ∧ a.block < w6.heap.size) := η fun W0 w6 k1 k2 q hq => key_blk k1 (HWF.out W0).2.2 k2 hq
    have HZC : Hid (Z < wc.heap.size) := η (by have := hx3.size; omega)
    have HZN : Hid (Z ∉ (Value.slice oa on oc).ownBlock.toList) := η fun hj => by have := (HO.out.lt (by simpa using hj)).2; omega
    clear hwf hbs hkk y0 y1 yb
    go_wp2_with fail
    have q0a : ∀ o, (wc.alloc o).cell? ⟨Z, 0, none⟩ = some (.string p.1) := fun o => HS9.out _ ((Ext.rfl' _).alloc' o)
    go_region_law
     ((first
      | (apply app_step el_u8 (enc_int _) (xs := []) (ys := bs) (base := wc.heap.size); (case hw => rfl); (case ho => rfl); (case hs => rfl); (case hown => (first | exact Own.drew (Own.made wc wc.heap.size _ _ _ rfl (Nat.le_refl _)) | exact Own.made wc.drew wc.heap.size _ _ _ (by simp) (by simp) | exact Own.made (wf wc.drew) wc.heap.size _ _ _ rfl (show Ext wc (wf wc.drew) by (repeat (first | exact Ext.rfl' _ | assumption | refine Ext.drewN' ?_ _ | refine Ext.drew' ?_ | refine Ext.alloc' ?_ _ | refine Ext.trans' ?_ (HWF.out _).1 | refine Ext.trans' ?_ (by assumption)))).size | exact (Own.made wc.drew wc.heap.size _ _ _ (by simp) (by simp)).ext (HWF.out _).1)); (case hx => rfl); (case hy => refine HBV.out.ext ?_; (repeat (first | exact Ext.rfl' _ | assumption | refine Ext.drewN' ?_ _ | refine Ext.drew' ?_ | refine Ext.alloc' ?_ _ | refine Ext.trans' ?_ (HWF.out _).1 | refine Ext.trans' ?_ (by assumption)))); (case hbytes => simp; omega); (case hbase => exact (show Ext wc _ by (repeat (first | exact Ext.rfl' _ | assumption | refine Ext.drewN' ?_ _ | refine Ext.drew' ?_ | refine Ext.alloc' ?_ _ | refine Ext.trans' ?_ (HWF.out _).1 | refine Ext.trans' ?_ (by assumption)))).size); intro v8 w8 hown8 hg8 hb8; obtain ⟨a8, c8, rfl, -⟩ := hown8.rd (enc_int _); simp only [List.nil_append] at hown8; have h8 : Ext wc w8 := hb8 _ _ (show Ext wc _ by (repeat (first | exact Ext.rfl' _ | assumption | refine Ext.drewN' ?_ _ | refine Ext.drew' ?_ | refine Ext.alloc' ?_ _ | refine Ext.trans' ?_ (HWF.out _).1 | refine Ext.trans' ?_ (by assumption)))) (Nat.le_refl _); have O8 := η hown8; have q8 := HS9.out w8 h8; (first | (have K8 := η (key_keep hg8 (W0 := wc.drew) (HWF.out wc.drew).2.1 (Ext.alloc' (Ext.rfl' _) _) (Nat.ne_of_gt (HWF.out wc.drew).2.2) (q := wc.heap.size) rfl); have B8 := η (key_blk8 (q := wc.heap.size) hg8 hwc (Ext.alloc' (Ext.rfl' _) _) (Nat.le_refl _) (HWF.out wc.drew).2.2)) | (have K8 := η (key_keep hg8 (HWF.out _).2.1 (Ext.rfl' _) (by simp) (q := wc.heap.size + 1) (by simp)); have B8 := η (key_blk8 (q := wc.heap.size + 1) hg8 hwc (Ext.rfl' _) (Nat.le_succ _) (by have h1 := (HWF.out (wc.alloc (.cells #[] 5)).drew).2.2; simpa using h1))) | skip); clear hown8 hg8 hb8)
      | (have hw6 : Ext w8 w8 := Ext.rfl' _; apply app_step2 el_item enc_it (xs := I) (ys := [⟨some ⟨_, 0, none⟩, _, a8, c8, kk, bs⟩]) (base := w.heap.size); (case hw => rfl); (case ho => rfl); (case hs => rfl); (case hown => refine HO.out.ext ?_; (repeat (first | exact Ext.rfl' _ | assumption | refine Ext.drewN' ?_ _ | refine Ext.drew' ?_ | refine Ext.alloc' ?_ _ | refine Ext.trans' ?_ (HWF.out _).1 | refine Ext.trans' ?_ h8 | refine Ext.trans' ?_ hwc | refine Ext.trans' ?_ hwr))); (case hx => rfl); (case hy => (first | exact item_lit w8 ⟨some ⟨_, 0, none⟩, _, a8, c8, kk, bs⟩ _ (by simp) | exact item_lit (wf w8) ⟨some ⟨_, 0, none⟩, _, a8, c8, kk, bs⟩ _ (by simp))); (case hbytes => simp; omega); (case hbase => exact (show Ext w _ by (repeat (first | exact Ext.rfl' _ | assumption | refine Ext.drewN' ?_ _ | refine Ext.drew' ?_ | refine Ext.alloc' ?_ _ | refine Ext.trans' ?_ (HWF.out _).1 | refine Ext.trans' ?_ h8 | refine Ext.trans' ?_ hwc | refine Ext.trans' ?_ hwr))).size); intro v9 w9 hown9 hg9 hmv9; have O9 := η hown9; have G9 := η hg9; have M9 := η hmv9; have s9 : w9.cell? ⟨Z, 0, none⟩ = some (.string p.1) := (World.cell?_of_block ((grown_keep hg9).block Z (Nat.lt_of_lt_of_le HZC.out (show Ext wc _ by (repeat (first | exact Ext.rfl' _ | assumption | refine Ext.drewN' ?_ _ | refine Ext.drew' ?_ | refine Ext.alloc' ?_ _ | refine Ext.trans' ?_ (HWF.out _).1 | refine Ext.trans' ?_ (by assumption)))).size) HZN.out)).trans (HS9.out _ (by (repeat (first | exact Ext.rfl' _ | assumption | refine Ext.drewN' ?_ _ | refine Ext.drew' ?_ | refine Ext.alloc' ?_ _ | refine Ext.trans' ?_ (HWF.out _).1 | refine Ext.trans' ?_ (by assumption))))); clear hown9 hg9 hmv9)))
    all_goals
     obtain ⟨la9, ln9, lc9, rfl, hln9, hLN9⟩ := (O9.out.rd enc_it).val
     go_wp2_with fail
     go_roundw
     case rel =>
      have hkeep : Keep (Value.slice oa on oc).ownBlock.toList _ _ := grown_keep G9.out
      have hlo : ∀ q ∈ (Value.slice oa on oc).ownBlock.toList, w.heap.size ≤ q := fun q hq => (HO.out.lt (by simpa using hq)).1
      refine ⟨k + 1, I ++ [_], by omega, by go_num, by simp [HIL.out], O9, η (items_step2 (wr := wr) (B0 := w.heap.size) hwr.size (v := .slice oa on oc) ?_ (fun q hq => (HO.out.lt (by simpa using hq)).2) HSI.out ?_ ?_ ?_ ?_ G9.out ?_), η ?_, ⟨_, _, _, rfl⟩, hkeep.below (show Ext w _ by (repeat (first | exact Ext.rfl' _ | assumption | refine Ext.drewN' ?_ _ | refine Ext.drew' ?_ | refine Ext.alloc' ?_ _ | refine Ext.trans' ?_ (HWF.out _).1 | refine Ext.trans' ?_ h8 | refine Ext.trans' ?_ hwc | refine Ext.trans' ?_ hwr))) (show Ext w _ by (repeat (first | exact Ext.rfl' _ | assumption | refine Ext.drewN' ?_ _ | refine Ext.drew' ?_ | refine Ext.alloc' ?_ _ | refine Ext.trans' ?_ (HWF.out _).1 | refine Ext.trans' ?_ h8 | refine Ext.trans' ?_ hwc | refine Ext.trans' ?_ hwr))).size hlo⟩
      ·(repeat (first | exact Ext.rfl' _ | assumption | refine Ext.drewN' ?_ _ | refine Ext.drew' ?_ | refine Ext.alloc' ?_ _ | refine Ext.trans' ?_ (HWF.out _).1 | refine Ext.trans' ?_ h8 | refine Ext.trans' ?_ hwc | refine Ext.trans' ?_ hwr))
      ·first | exact K8.out.ext (by (repeat (first | exact Ext.rfl' _ | assumption | refine Ext.drewN' ?_ _ | refine Ext.drew' ?_ | refine Ext.alloc' ?_ _ | refine Ext.trans' ?_ (HWF.out _).1 | refine Ext.trans' ?_ h8 | refine Ext.trans' ?_ hwc | refine Ext.trans' ?_ hwr))) | exact HKEY.out _ _ (by (repeat (first | exact Ext.rfl' _ | assumption | refine Ext.drewN' ?_ _ | refine Ext.drew' ?_ | refine Ext.alloc' ?_ _ | refine Ext.trans' ?_ (HWF.out _).1 | refine Ext.trans' ?_ h8 | refine Ext.trans' ?_ hwc | refine Ext.trans' ?_ hwr))) _ (by simp)
      ·first | exact blk_of B8.out (by (repeat (first | exact Ext.rfl' _ | assumption | refine Ext.drewN' ?_ _ | refine Ext.drew' ?_ | refine Ext.alloc' ?_ _ | refine Ext.trans' ?_ (HWF.out _).1 | refine Ext.trans' ?_ h8 | refine Ext.trans' ?_ hwc | refine Ext.trans' ?_ hwr))) | exact HKB.out _ _ (by (repeat (first | exact Ext.rfl' _ | assumption | refine Ext.drewN' ?_ _ | refine Ext.drew' ?_ | refine Ext.alloc' ?_ _ | refine Ext.trans' ?_ (HWF.out _).1 | refine Ext.trans' ?_ h8 | refine Ext.trans' ?_ hwc | refine Ext.trans' ?_ hwr))) (by (repeat (first | exact Ext.rfl' _ | assumption | refine Ext.drewN' ?_ _ | refine Ext.drew' ?_ | refine Ext.alloc' ?_ _ | refine Ext.trans' ?_ (HWF.out _).1 | refine Ext.trans' ?_ h8 | refine Ext.trans' ?_ hwc | refine Ext.trans' ?_ hwr))) _ (by simp)
      ·exact (O8.out.rd (enc_int _)).ext (by (repeat (first | exact Ext.rfl' _ | assumption | refine Ext.drewN' ?_ _ | refine Ext.drew' ?_ | refine Ext.alloc' ?_ _ | refine Ext.trans' ?_ (HWF.out _).1 | refine Ext.trans' ?_ h8 | refine Ext.trans' ?_ hwc | refine Ext.trans' ?_ hwr)))
      ·exact own_blk O8.out hwc.size (by (repeat (first | exact Ext.rfl' _ | assumption | refine Ext.drewN' ?_ _ | refine Ext.drew' ?_ | refine Ext.alloc' ?_ _ | refine Ext.trans' ?_ (HWF.out _).1 | refine Ext.trans' ?_ h8 | refine Ext.trans' ?_ hwc | refine Ext.trans' ?_ hwr)))
      ·exact fun q hq => (M9.out q (by simpa using hq)).imp (fun h => by simpa using (show (Value.slice oa on oc).ownBlock = some q from h)) (fun h => by simp at h; omega)
      ·rw [List.map_append, HMI.out, HRI.out, List.take_add_one, List.getElem?_map, HPM.out]
       simp only [List.map_cons, List.map_nil, Option.map_some, Option.toList_some, HBS.out]
       rw [← HKK.out, str_numsK]
     case measure => simp [intOf]; omega
end Go.Proofs.YtppefchjoodgnaaGreat
