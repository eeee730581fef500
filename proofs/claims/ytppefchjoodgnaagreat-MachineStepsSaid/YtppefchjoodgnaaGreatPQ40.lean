import Derived.Test.YtppefchjoodgnaaGreatPQ39
import Derived.Test.YtppefchjoodgnaaGreatPQ01
import Derived.ProofKit
import Derived.OpenShut
import Derived.JoinedCond
import Derived.Deep.Slices
import Derived.Test.YtppefchjoodgnaaGreatRows
import Derived.Test.YtppefchjoodgnaaGreatPQ16
import Derived.Test.YtppefchjoodgnaaGreatPQ36
import Derived.Lib.SmallJoins
set_option linter.unusedSimpArgs false
set_option linter.unusedVariables false
namespace Go.Proofs.YtppefchjoodgnaaGreat
open Go.RowKit
set_option maxRecDepth 20000 in
set_option maxHeartbeats 8000000 in
theorem msteps_any (v cv dv iv rv:Value)(L0:List Ins)(e0:EnvD)(rows:List SV)(n2:Int)(w:World)(h:Rd w 5 Ins.enc v L0)(hok0:InsOk L0)(he:EnvR w e0 cv dv iv rv rows)(hu:U64s e0.draws)(r2:0≤n2∧n2≤65535):Calls Tryz.prog 8 #[v,.agg #[cv,dv,iv,rv],.int .u16 n2] w fun e w'=>e=.returned (.bool true)∧Ext w w':=by
 obtain⟨ca,cn,cc,rfl,-,-⟩:=he.ctx.val
 obtain⟨da,dn,dc,rfl,-,-⟩:=he.defs.val
 obtain⟨ia,inn,ic,rfl,-,-⟩:=he.rowsR.val
 obtain⟨ra,rn,rc,rfl,-,-⟩:=he.draws.val
 have HFR:=η (front h hok0 he)
 have HFD:=η (frontD h hok0 he)
 have HOK:=η (pD hok0).1
 have HU:=η (envS_u64 hu)
 have HDS:=η (gK e0)
 have HU8:=η (And.intro (fun x hx=>he.u8 x (List.mem_of_mem_take hx):∀ x∈(envS e0).ctx,0≤x∧x≤255) (envS_ib he.ib))
 obtain⟨L,hL⟩:∃ L,L0.take 520=L:=⟨_,rfl⟩
 obtain⟨E,hE⟩:∃ E,envS e0=E:=⟨_,rfl⟩
 rw[hL,hE]at HFR HFD
 rw[hL]at HOK
 rw[hE]at HU HDS HU8
 clear h hok0 he hu hL hE
 cases hσ0:RS.new L E with
 | none =>
  have hσ:=η hσ0
  clear hσ0
  go_enter Tryz.func8,Tryz.ntmps8
  go_wp2_with fail
  have HBX0:=η (zD w (yL (.slice ca cn cc) (.slice da dn dc) (.slice ia inn ic) (.slice ra rn rc)) rfl)
  have HX0:Hid (Ext w (w.alloc (yL (.slice ca cn cc) (.slice da dn dc) (.slice ia inn ic) (.slice ra rn rc)))):=η (by (repeat (first|exact xE0 _|assumption|refine xE1 ?_ _|refine xE2 ?_|refine xE3 ?_ _|refine xE4 ?_ (by assumption))))
  refine(l11_shown _).mono ?_
  rintro e w1 ⟨rfl,hE⟩
  have HX1:=η (HX0.out.trans' hE)
  have HBX:=η (hE.obj HBX0.out)
  clear hE HBX0 HX0
  go_upto_region 2 with fail
  have HS1:Hid (∀ w':World,Ext w1 w'→w'.cell? ⟨w.heap.size,0,none⟩=some (.slice ca cn cc)∧w'.cell? ⟨w.heap.size,1,none⟩=some (.slice da dn dc)∧w'.cell? ⟨w.heap.size,2,none⟩=some (.slice ia inn ic)∧w'.cell? ⟨w.heap.size,3,none⟩=some (.slice ra rn rc)):=η (fun w' he=>by obtain⟨b0,b1,b2,b3⟩:=κ4 (he.obj HBX.out);exact⟨b0,b1,b2,b3⟩)
  go_cut [8,9] from 18 to 26 (fun vm vf wx=>vm=.pointer none∧vf=.int .i64 1∧Hid (Ext w1 wx))
  case first =>
   obtain⟨b0,b1,b2,b3⟩:=HS1.out w1 (Ext.rfl' _)
   go_region_held3 (fun w'=>w'.cell? ⟨w.heap.size,0,none⟩=some (.slice ca cn cc)∧w'.cell? ⟨w.heap.size,1,none⟩=some (.slice da dn dc)∧w'.cell? ⟨w.heap.size,2,none⟩=some (.slice ia inn ic)∧w'.cell? ⟨w.heap.size,3,none⟩=some (.slice ra rn rc))
    ((refine HS1.out _ ?_;(repeat (first|exact xE0 _|assumption|refine xE1 ?_ _|refine xE2 ?_|refine xE3 ?_ _|refine xE4 ?_ (by assumption)))))
    ((first
     | (go_at_call 23;refine(HFR.out.few _ (Ext.trans' HX1.out (by (repeat (first|exact xE0 _|assumption|refine xE1 ?_ _|refine xE2 ?_|refine xE3 ?_ _|refine xE4 ?_ (by assumption)))))).mono ?_;rintro e wF ⟨vF,rfl,hRF,hEF⟩;have HRF:=η hRF;have hxF:Ext w1 wF:=(by (repeat (first|exact xE0 _|assumption|refine xE1 ?_ _|refine xE2 ?_|refine xE3 ?_ _|refine xE4 ?_ (by assumption))));clear hRF)
     | (go_at_call 24;refine(HFR.out.env _ (Ext.trans' HX1.out (by (repeat (first|exact xE0 _|assumption|refine xE1 ?_ _|refine xE2 ?_|refine xE3 ?_ _|refine xE4 ?_ (by assumption)))))).mono ?_;rintro e wE ⟨ve1,ve2,ve3,ve4,rowsE,rfl,hRE,hEE⟩;have HRE:=η hRE;have hxE:Ext w1 wE:=(by (repeat (first|exact xE0 _|assumption|refine xE1 ?_ _|refine xE2 ?_|refine xE3 ?_ _|refine xE4 ?_ (by assumption))));clear hRE)
     | (go_at_call 22;refine(HFR.out.new _ _ _ _ _ _ _ (HRF.out.ext (by (repeat (first|exact xE0 _|assumption|refine xE1 ?_ _|refine xE2 ?_|refine xE3 ?_ _|refine xE4 ?_ (by assumption))))) (HRE.out.ext (by (repeat (first|exact xE0 _|assumption|refine xE1 ?_ _|refine xE2 ?_|refine xE3 ?_ _|refine xE4 ?_ (by assumption)))))).mono ?_;rintro e wN hN;rw[hσ.out]at hN;obtain⟨rfl,hN⟩:=hN;have hxN:Ext w1 wN:=(by (repeat (first|exact xE0 _|assumption|refine xE1 ?_ _|refine xE2 ?_|refine xE3 ?_ _|refine xE4 ?_ (by assumption))));clear hN)))
   all_goals
    go_wp2_with fail
    go_meet
    exact⟨rfl,rfl,η (by (repeat (first|exact xE0 _|assumption|refine xE1 ?_ _|refine xE2 ?_|refine xE3 ?_ _|refine xE4 ?_ (by assumption))))⟩
  case rest =>
   obtain⟨rfl,rfl,HC⟩:=hcut
   have HX2:=η (HX1.out.trans' HC.out)
   have HBY:=η (HC.out.obj HBX.out)
   clear HX1 HBX HS1 HC
   have HBX:=HBY
   clear HBY
   go_upto_region 3 with fail
   have HS2:Hid (∀ w':World,Ext wc w'→w'.cell? ⟨w.heap.size,0,none⟩=some (.slice ca cn cc)∧w'.cell? ⟨w.heap.size,1,none⟩=some (.slice da dn dc)∧w'.cell? ⟨w.heap.size,2,none⟩=some (.slice ia inn ic)∧w'.cell? ⟨w.heap.size,3,none⟩=some (.slice ra rn rc)):=η (fun w' he=>by obtain⟨b0,b1,b2,b3⟩:=κ4 (he.obj HBX.out);exact⟨b0,b1,b2,b3⟩)
   go_cut [10,11] from 26 to 34 (fun vm vf wx=>vm=.pointer none∧vf=.int .i64 1∧Hid (Ext wc wx))
   case first =>
    obtain⟨b0,b1,b2,b3⟩:=HS2.out wc (Ext.rfl' _)
    go_region_held3 (fun w'=>w'.cell? ⟨w.heap.size,0,none⟩=some (.slice ca cn cc)∧w'.cell? ⟨w.heap.size,1,none⟩=some (.slice da dn dc)∧w'.cell? ⟨w.heap.size,2,none⟩=some (.slice ia inn ic)∧w'.cell? ⟨w.heap.size,3,none⟩=some (.slice ra rn rc))
     ((refine HS2.out _ ?_;(repeat (first|exact xE0 _|assumption|refine xE1 ?_ _|refine xE2 ?_|refine xE3 ?_ _|refine xE4 ?_ (by assumption)))))
     ((first
      | (go_at_call 23;refine(HFD.out.few _ (Ext.trans' HX2.out (by (repeat (first|exact xE0 _|assumption|refine xE1 ?_ _|refine xE2 ?_|refine xE3 ?_ _|refine xE4 ?_ (by assumption)))))).mono ?_;rintro e wF ⟨vF,rfl,hRF,hEF,hBF⟩;have HRF:=η (And.intro hRF hBF);have hxF:Ext wc wF:=(by (repeat (first|exact xE0 _|assumption|refine xE1 ?_ _|refine xE2 ?_|refine xE3 ?_ _|refine xE4 ?_ (by assumption))));clear hRF hBF)
      | (go_at_call 24;refine(HFD.out.env _ (Ext.trans' HX2.out (by (repeat (first|exact xE0 _|assumption|refine xE1 ?_ _|refine xE2 ?_|refine xE3 ?_ _|refine xE4 ?_ (by assumption)))))).mono ?_;rintro e wE ⟨ve1,ve2,ve3,ve4,rowsE,rfl,hRE,hEE,hBE⟩;have HRE:=η (And.intro hRE hBE);have hxE:Ext wc wE:=(by (repeat (first|exact xE0 _|assumption|refine xE1 ?_ _|refine xE2 ?_|refine xE3 ?_ _|refine xE4 ?_ (by assumption))));clear hRE hBE)
      | (go_at_call 12;refine(HFD.out.new _ _ _ _ _ _ _ (HRF.out.1.ext (by (repeat (first|exact xE0 _|assumption|refine xE1 ?_ _|refine xE2 ?_|refine xE3 ?_ _|refine xE4 ?_ (by assumption))))) (HRE.out.1.ext (by (repeat (first|exact xE0 _|assumption|refine xE1 ?_ _|refine xE2 ?_|refine xE3 ?_ _|refine xE4 ?_ (by assumption))))) HRF.out.2 HRE.out.2).mono ?_;rintro e wN hN;rw[hσ.out]at hN;obtain⟨rfl,hN⟩:=hN;have hxN:Ext wc wN:=(by (repeat (first|exact xE0 _|assumption|refine xE1 ?_ _|refine xE2 ?_|refine xE3 ?_ _|refine xE4 ?_ (by assumption))));clear hN)))
    all_goals
     go_wp2_with fail
     go_meet
     exact⟨rfl,rfl,η (by (repeat (first|exact xE0 _|assumption|refine xE1 ?_ _|refine xE2 ?_|refine xE3 ?_ _|refine xE4 ?_ (by assumption))))⟩
   case rest =>
    obtain⟨rfl,rfl,HC⟩:=hcut
    go_wp2_with fail
    go_returns
    exact⟨rfl,HX2.out.trans' HC.out⟩
 | some σ =>
  have hσ:=η hσ0
  have HNF:=η (new_facts hσ0 HOK.out HU.out HDS.out.1 HU8.out.1 HU8.out.2)
  clear hσ0
  go_enter Tryz.func8,Tryz.ntmps8
  go_wp2_with fail
  have HBX0:=η (zD w (yL (.slice ca cn cc) (.slice da dn dc) (.slice ia inn ic) (.slice ra rn rc)) rfl)
  have HX0:Hid (Ext w (w.alloc (yL (.slice ca cn cc) (.slice da dn dc) (.slice ia inn ic) (.slice ra rn rc)))):=η (by (repeat (first|exact xE0 _|assumption|refine xE1 ?_ _|refine xE2 ?_|refine xE3 ?_ _|refine xE4 ?_ (by assumption))))
  refine(l11_shown _).mono ?_
  rintro e w1 ⟨rfl,hE⟩
  have HX1:=η (HX0.out.trans' hE)
  have HBX:=η (hE.obj HBX0.out)
  clear hE HBX0 HX0
  go_upto_region 2 with fail
  have HS1:Hid (∀ w':World,Ext w1 w'→w'.cell? ⟨w.heap.size,0,none⟩=some (.slice ca cn cc)∧w'.cell? ⟨w.heap.size,1,none⟩=some (.slice da dn dc)∧w'.cell? ⟨w.heap.size,2,none⟩=some (.slice ia inn ic)∧w'.cell? ⟨w.heap.size,3,none⟩=some (.slice ra rn rc)):=η (fun w' he=>by obtain⟨b0,b1,b2,b3⟩:=κ4 (he.obj HBX.out);exact⟨b0,b1,b2,b3⟩)
  go_cut [8,9] from 18 to 26 (fun vm vf wx=>∃ mb,vm=.pointer (some ⟨mb,0,none⟩)∧vf=.int .i64 0∧Hid (∃ wB,Ext w1 wB∧PS [] [] wB wB.heap.size wx mb σ))
  case first =>
   obtain⟨b0,b1,b2,b3⟩:=HS1.out w1 (Ext.rfl' _)
   go_region_held3 (fun w'=>w'.cell? ⟨w.heap.size,0,none⟩=some (.slice ca cn cc)∧w'.cell? ⟨w.heap.size,1,none⟩=some (.slice da dn dc)∧w'.cell? ⟨w.heap.size,2,none⟩=some (.slice ia inn ic)∧w'.cell? ⟨w.heap.size,3,none⟩=some (.slice ra rn rc))
    ((refine HS1.out _ ?_;(repeat (first|exact xE0 _|assumption|refine xE1 ?_ _|refine xE2 ?_|refine xE3 ?_ _|refine xE4 ?_ (by assumption)))))
    ((first
     | (go_at_call 23;refine(HFR.out.few _ (Ext.trans' HX1.out (by (repeat (first|exact xE0 _|assumption|refine xE1 ?_ _|refine xE2 ?_|refine xE3 ?_ _|refine xE4 ?_ (by assumption)))))).mono ?_;rintro e wF ⟨vF,rfl,hRF,hEF⟩;have HRF:=η hRF;have hxF:Ext w1 wF:=(by (repeat (first|exact xE0 _|assumption|refine xE1 ?_ _|refine xE2 ?_|refine xE3 ?_ _|refine xE4 ?_ (by assumption))));clear hRF)
     | (go_at_call 24;refine(HFR.out.env _ (Ext.trans' HX1.out (by (repeat (first|exact xE0 _|assumption|refine xE1 ?_ _|refine xE2 ?_|refine xE3 ?_ _|refine xE4 ?_ (by assumption)))))).mono ?_;rintro e wE ⟨ve1,ve2,ve3,ve4,rowsE,rfl,hRE,hEE⟩;have HRE:=η hRE;have hxE:Ext w1 wE:=(by (repeat (first|exact xE0 _|assumption|refine xE1 ?_ _|refine xE2 ?_|refine xE3 ?_ _|refine xE4 ?_ (by assumption))));clear hRE)
     | (go_at_call 22;refine(HFR.out.new _ _ _ _ _ _ _ (HRF.out.ext (by (repeat (first|exact xE0 _|assumption|refine xE1 ?_ _|refine xE2 ?_|refine xE3 ?_ _|refine xE4 ?_ (by assumption))))) (HRE.out.ext (by (repeat (first|exact xE0 _|assumption|refine xE1 ?_ _|refine xE2 ?_|refine xE3 ?_ _|refine xE4 ?_ (by assumption)))))).mono ?_;rintro e wN hN;rw[hσ.out]at hN;obtain⟨mb,rfl,hN⟩:=hN;have HN:=η hN;have hxN:Ext w1 wN:=(by refine Ext.trans' ?_ (hN.keep.ext (fun _ h=>by cases h));(repeat (first|exact xE0 _|assumption|refine xE1 ?_ _|refine xE2 ?_|refine xE3 ?_ _|refine xE4 ?_ (by assumption))));clear hN)))
   all_goals
    go_wp2_with fail
    go_meet
    exact⟨_,rfl,rfl,η ⟨_,by (repeat (first|exact xE0 _|assumption|refine xE1 ?_ _|refine xE2 ?_|refine xE3 ?_ _|refine xE4 ?_ (by assumption))),HN.out⟩⟩
  case rest =>
   obtain⟨a,rfl,rfl,HC⟩:=hcut
   obtain⟨wB,hE1,hPA⟩:=HC.out
   have hEA:Ext wB wc:=hPA.keep.ext (fun _ h=>by cases h)
   have HPA:=η hPA
   have HQW:=η (show ∀ q,q < w.heap.size→q∈List.range wB.heap.size from fun q hq=>List.mem_range.2 (by have:=HX1.out.size;have:=hE1.size;omega))
   have HX2:=η ((HX1.out.trans' hE1).trans' hEA)
   have HBY:=η ((hE1.trans' hEA).obj HBX.out)
   clear HX1 HBX HS1 HC hE1 hPA hEA
   have HBX:=HBY
   clear HBY
   obtain⟨wA,hwA⟩:∃ u,u=wc:=⟨_,rfl⟩
   rw[← hwA]at HPA HX2 HBX ⊢
   clear hwA
   go_upto_region 3 with fail
   have HS2:Hid (∀ w':World,Ext wA w'→w'.cell? ⟨w.heap.size,0,none⟩=some (.slice ca cn cc)∧w'.cell? ⟨w.heap.size,1,none⟩=some (.slice da dn dc)∧w'.cell? ⟨w.heap.size,2,none⟩=some (.slice ia inn ic)∧w'.cell? ⟨w.heap.size,3,none⟩=some (.slice ra rn rc)):=η (fun w' he=>by obtain⟨b0,b1,b2,b3⟩:=κ4 (he.obj HBX.out);exact⟨b0,b1,b2,b3⟩)
   go_cut [10,11] from 26 to 34 (fun vm vf wx=>∃ mb,vm=.pointer (some ⟨mb,0,none⟩)∧vf=.int .i64 0∧Hid (∃ wB Z,Ext wA wB∧(∀ j∈Z,j < w.heap.size)∧MRel [] Z wB wB.heap.size wx mb σ))
   case first =>
    obtain⟨b0,b1,b2,b3⟩:=HS2.out wA (Ext.rfl' _)
    go_region_held3 (fun w'=>w'.cell? ⟨w.heap.size,0,none⟩=some (.slice ca cn cc)∧w'.cell? ⟨w.heap.size,1,none⟩=some (.slice da dn dc)∧w'.cell? ⟨w.heap.size,2,none⟩=some (.slice ia inn ic)∧w'.cell? ⟨w.heap.size,3,none⟩=some (.slice ra rn rc))
     ((refine HS2.out _ ?_;(repeat (first|exact xE0 _|assumption|refine xE1 ?_ _|refine xE2 ?_|refine xE3 ?_ _|refine xE4 ?_ (by assumption)))))
     ((first
      | (go_at_call 23;refine(HFD.out.few _ (Ext.trans' HX2.out (by (repeat (first|exact xE0 _|assumption|refine xE1 ?_ _|refine xE2 ?_|refine xE3 ?_ _|refine xE4 ?_ (by assumption)))))).mono ?_;rintro e wF ⟨vF,rfl,hRF,hEF,hBF⟩;have HRF:=η (And.intro hRF hBF);have hxF:Ext wA wF:=(by (repeat (first|exact xE0 _|assumption|refine xE1 ?_ _|refine xE2 ?_|refine xE3 ?_ _|refine xE4 ?_ (by assumption))));clear hRF hBF)
      | (go_at_call 24;refine(HFD.out.env _ (Ext.trans' HX2.out (by (repeat (first|exact xE0 _|assumption|refine xE1 ?_ _|refine xE2 ?_|refine xE3 ?_ _|refine xE4 ?_ (by assumption)))))).mono ?_;rintro e wE ⟨ve1,ve2,ve3,ve4,rowsE,rfl,hRE,hEE,hBE⟩;have HRE:=η (And.intro hRE hBE);have hxE:Ext wA wE:=(by (repeat (first|exact xE0 _|assumption|refine xE1 ?_ _|refine xE2 ?_|refine xE3 ?_ _|refine xE4 ?_ (by assumption))));clear hRE hBE)
      | (go_at_call 12;refine(HFD.out.new _ _ _ _ _ _ _ (HRF.out.1.ext (by (repeat (first|exact xE0 _|assumption|refine xE1 ?_ _|refine xE2 ?_|refine xE3 ?_ _|refine xE4 ?_ (by assumption))))) (HRE.out.1.ext (by (repeat (first|exact xE0 _|assumption|refine xE1 ?_ _|refine xE2 ?_|refine xE3 ?_ _|refine xE4 ?_ (by assumption))))) HRF.out.2 HRE.out.2).mono ?_;rintro e wN hN;rw[hσ.out]at hN;obtain⟨mb,rfl,Z,hZ,hN⟩:=hN;have HN:=η (And.intro hZ hN);have hxN:Ext wA wN:=(by refine Ext.trans' ?_ (hN.keep.ext (fun _ h=>by cases h));(repeat (first|exact xE0 _|assumption|refine xE1 ?_ _|refine xE2 ?_|refine xE3 ?_ _|refine xE4 ?_ (by assumption))));clear hZ hN)))
    all_goals
     go_wp2_with fail
     go_meet
     exact⟨_,rfl,rfl,η ⟨_,_,by (repeat (first|exact xE0 _|assumption|refine xE1 ?_ _|refine xE2 ?_|refine xE3 ?_ _|refine xE4 ?_ (by assumption))),HN.out.1,HN.out.2⟩⟩
   case rest =>
    obtain⟨b,rfl,rfl,HC⟩:=hcut
    obtain⟨wb,Z,hE1,hZ,hPB⟩:=HC.out
    have hEB:Ext wb wc:=hPB.keep.ext (fun _ h=>by cases h)
    have HT0:=η (Two2.made (B:=DM wb.heap.size b σ) PM.kept HPA.out.relT hE1 hPB.relT (fun j hj=>.inl (List.mem_range.1 (HQW.out j (hZ j hj)))))
    have HX3:=η ((HX2.out.trans' hE1).trans' hEB)
    have hba:wB.heap.size≤wc.heap.size:=by have:=HPA.out.keep.size;have:=hE1.size;have:=hEB.size;omega
    have hbb:wb.heap.size≤wc.heap.size:=hEB.size
    clear HX2 HBX HS2 HC hE1 hPB hEB hZ HPA HFR HFD HDS HU8 HOK
    generalize hQ:List.range wB.heap.size=Q at HT0 HQW
    generalize hBA:wB.heap.size=ba at HT0 hba
    generalize hBB:wb.heap.size=bb at HT0 hbb
    clear hQ hBA hBB
    obtain⟨n,hn⟩:∃ n:Int,n2.tmod 301=n:=⟨_,rfl⟩
    have hn0:0≤n∧n≤300:=by rw[← hn,Int.tmod_eq_emod_of_nonneg r2.1];omega
    have HINV:=η (⟨HNF.out.inv,HNF.out.u8,HNF.out.defs,by rw[HNF.out.steps];decide⟩:σ.Inv∧BytesOk σ.V.1∧DefsOk σ.D∧σ.steps≤((0:Nat):Int))
    go_wp2_with fail
    go_loopw [50] (fun q wr=>∃ (k:Nat) (τ:RS),(k:Int)≤n∧q=.int .i64 k∧Hid (Two2 (PM ba a τ) (DM bb b τ) Q wr)∧Hid (τ.Inv∧BytesOk τ.V.1∧DefsOk τ.D∧τ.steps≤(k:Int))∧ba≤wr.heap.size∧bb≤wr.heap.size∧Hid (Ext w wr)) (fun q _=>n.toNat - (intOf q).toNat)
    case atStart=>exact⟨0,σ,hn0.1,rfl,HT0,HINV,hba,hbb,HX3⟩
    case round =>
     obtain⟨k,τ,hk,rfl,HT,HI,hca,hcb,HX⟩:=hrel
     by_cases hlt:(k:Int) < n
     ·obtain⟨i1,i2,i3,i4⟩:=HI.out
      obtain⟨j1,-,j3⟩:=i1.step i2
      have j4:=step_le1 i1
      have j5:=step_bytes i2
      have hgood:=i1.good (by omega)
      have hon:τ.over=false→∃ p x,τ.On p x:=fun _=>by obtain⟨x,hx⟩:=i1.on;exact⟨_,x,hx⟩
      have HST:=η (fun W (hT:Two2 (PM ba a τ) (DM bb b τ) Q W) (hz:ba≤W.heap.size)=>two_step DM.kept hT hz hgood i3 hon)
      have HSD:=η (fun W (hT:Two2 (PM ba a τ.step.1) (DM bb b τ) Q W) (hz:bb≤W.heap.size)=>two_dstep PM.kept hT hz hgood hon)
      have HJ:=η (⟨j1,j5,by rw[j3];exact i3,by omega⟩:τ.step.1.Inv∧BytesOk τ.step.1.V.1∧DefsOk τ.step.1.D∧τ.step.1.steps≤((k+1:Nat):Int))
      generalize τ.step.1=τ' at HST HSD HJ
      generalize τ.step.2=r at HST HSD
      clear i1 i2 i3 i4 j1 j3 j4 j5 hgood hon HI
      have hrr:(r != r)=false:=by simp
      have hpp:(τ'.place != τ'.place)=false:=by simp
      have hoo:(τ'.over != τ'.over)=false:=by simp
      go_upto_region 10 with fail
      go_cut [74] from 52 to 75 (fun vb wx=>vb=.bool false∧Hid (Two2 (PM ba a τ') (DM bb b τ') Q wx)∧ba≤wx.heap.size∧bb≤wx.heap.size∧Hid (Ext w wx))
      case first =>
       go_region_law
        ((first
         | (go_simp;go_at_call 27;refine(HST.out _ (HT.out.ext PM.kept DM.kept (by (repeat (first|exact xE0 _|assumption|refine xE1 ?_ _|refine xE2 ?_|refine xE3 ?_ _|refine xE4 ?_ (by assumption))))) (Nat.le_trans hca (show Ext wr _ from (by (repeat (first|exact xE0 _|assumption|refine xE1 ?_ _|refine xE2 ?_|refine xE3 ?_ _|refine xE4 ?_ (by assumption))))).size)).mono ?_;rintro e w1 ⟨rfl,hT,hU⟩;have HT1:=η hT;have HX1:=η (hU.ext HQW.out (HX.out.trans' (by (repeat (first|exact xE0 _|assumption|refine xE1 ?_ _|refine xE2 ?_|refine xE3 ?_ _|refine xE4 ?_ (by assumption))))));have hs1:=Nat.le_trans (show Ext wr _ from (by (repeat (first|exact xE0 _|assumption|refine xE1 ?_ _|refine xE2 ?_|refine xE3 ?_ _|refine xE4 ?_ (by assumption))))).size hU.size;clear hT hU)
         | (go_simp;go_at_call 30;refine(HSD.out _ (HT1.out.ext PM.kept DM.kept (by (repeat (first|exact xE0 _|assumption|refine xE1 ?_ _|refine xE2 ?_|refine xE3 ?_ _|refine xE4 ?_ (by assumption))))) (Nat.le_trans (Nat.le_trans hcb hs1) (show Ext w1 _ from (by (repeat (first|exact xE0 _|assumption|refine xE1 ?_ _|refine xE2 ?_|refine xE3 ?_ _|refine xE4 ?_ (by assumption))))).size)).mono ?_;rintro e w2 ⟨rfl,hT,hU⟩;have HT2:=η hT;have HX2:=η (hU.ext HQW.out (HX1.out.trans' (by (repeat (first|exact xE0 _|assumption|refine xE1 ?_ _|refine xE2 ?_|refine xE3 ?_ _|refine xE4 ?_ (by assumption))))));have hs2:=Nat.le_trans (Nat.le_trans hs1 (show Ext w1 _ from (by (repeat (first|exact xE0 _|assumption|refine xE1 ?_ _|refine xE2 ?_|refine xE3 ?_ _|refine xE4 ?_ (by assumption))))).size) hU.size;have p27:=hT.dplace;have p28:=hT.dover;clear hT hU)
         | (go_simp;go_at_call 31;refine(two_at DM.kept (HT2.out.ext PM.kept DM.kept (by (repeat (first|exact xE0 _|assumption|refine xE1 ?_ _|refine xE2 ?_|refine xE3 ?_ _|refine xE4 ?_ (by assumption))))) (Nat.le_trans (Nat.le_trans hca hs2) (show Ext w2 _ from (by (repeat (first|exact xE0 _|assumption|refine xE1 ?_ _|refine xE2 ?_|refine xE3 ?_ _|refine xE4 ?_ (by assumption))))).size)).mono ?_;rintro e w3 ⟨rfl,hT,hE3⟩;have q27:=hT.dplace;have q28:=hT.dover;have hx3:Ext w2 w3:=(by (repeat (first|exact xE0 _|assumption|refine xE1 ?_ _|refine xE2 ?_|refine xE3 ?_ _|refine xE4 ?_ (by assumption))));clear hT)
         | (go_simp;go_at_call 26;refine(two_over DM.kept (HT2.out.ext PM.kept DM.kept (by (repeat (first|exact xE0 _|assumption|refine xE1 ?_ _|refine xE2 ?_|refine xE3 ?_ _|refine xE4 ?_ (by assumption))))) (Nat.le_trans (Nat.le_trans hca hs2) (show Ext w2 _ from (by (repeat (first|exact xE0 _|assumption|refine xE1 ?_ _|refine xE2 ?_|refine xE3 ?_ _|refine xE4 ?_ (by assumption))))).size)).mono ?_;rintro e w4 ⟨rfl,hT,hE4⟩;have s27:=hT.dplace;have s28:=hT.dover;have hx4:Ext w2 w4:=(by (repeat (first|exact xE0 _|assumption|refine xE1 ?_ _|refine xE2 ?_|refine xE3 ?_ _|refine xE4 ?_ (by assumption))));clear hT)))
       all_goals
        go_wp2_with fail
        go_meet
        exact⟨rfl,η (HT2.out.ext PM.kept DM.kept (by (repeat (first|exact xE0 _|assumption|refine xE1 ?_ _|refine xE2 ?_|refine xE3 ?_ _|refine xE4 ?_ (by assumption))))),Nat.le_trans (Nat.le_trans hca hs2) (show Ext w2 _ from (by (repeat (first|exact xE0 _|assumption|refine xE1 ?_ _|refine xE2 ?_|refine xE3 ?_ _|refine xE4 ?_ (by assumption))))).size,Nat.le_trans (Nat.le_trans hcb hs2) (show Ext w2 _ from (by (repeat (first|exact xE0 _|assumption|refine xE1 ?_ _|refine xE2 ?_|refine xE3 ?_ _|refine xE4 ?_ (by assumption))))).size,η (HX2.out.trans' (by (repeat (first|exact xE0 _|assumption|refine xE1 ?_ _|refine xE2 ?_|refine xE3 ?_ _|refine xE4 ?_ (by assumption)))))⟩
      case rest =>
       obtain⟨rfl,HTC,hcc,hcd,HXC⟩:=hcut
       clear HT HX HST HSD hca hcb hpp hoo
       go_wp2_with fail
       obtain⟨wo,rfl⟩:∃ u,u=wr:=⟨_,rfl⟩
       go_loopw [12] (fun q wr=>∃ i:Int,(-1≤i∧i≤12)∧q=.int .i64 i∧Hid (Two2 (PM ba a τ') (DM bb b τ') Q wr)∧ba≤wr.heap.size∧bb≤wr.heap.size∧Hid (Ext w wr)) (fun q _=>(12 - intOf q).toNat)
       case atStart=>exact⟨-1,by omega,rfl,HTC,hcc,hcd,HXC⟩
       case round =>
        obtain⟨i,hi,rfl,HT,hca,hcb,HX⟩:=hrel
        by_cases hi11:i≤11
        ·by_cases hin:0≤i∧i≤10
         ·obtain⟨d,rfl⟩:=Int.eq_ofNat_of_zero_le hin.1
          have hd:d≤10:=by omega
          have g0:(0:Int)≤d:=by omega
          have g1:(d:Int)≤10:=by omega
          have g2:(d:Int) < 11:=by omega
          have g3:-1≤(d:Int):=by omega
          have g4:(d:Int)≤12:=by omega
          have HG:=η (two_reg DM.kept HT.out hca d hd)
          clear hi hin
          go_wp2_with fail
          refine HG.out.mono ?_
          rintro e w5 ⟨rfl,hT,hE⟩
          have r1:=hT.dR hd
          have r2:=hT.dS hd
          have HT5:=η hT
          have HX5:=η (HX.out.trans' hE)
          have hc5:=Nat.le_trans hca hE.size
          have hd5:=Nat.le_trans hcb hE.size
          clear hT hE HT HX HG
          generalize τ'.R d=rR at r1 ⊢
          generalize τ'.S d=rS at r2 ⊢
          have e1:(rR != rR)=false:=by simp
          have e2:(rS != rS)=false:=by simp
          go_upto_region 18 with fail
          go_quiet (fail)
          go_wp2_with fail
          go_roundw
          case rel=>exact⟨(d:Int)+1,by omega,by go_num,η (HT5.out.ext PM.kept DM.kept (by (repeat (first|exact xE0 _|assumption|refine xE1 ?_ _|refine xE2 ?_|refine xE3 ?_ _|refine xE4 ?_ (by assumption))))),Nat.le_trans hc5 (show Ext w5 _ from (by (repeat (first|exact xE0 _|assumption|refine xE1 ?_ _|refine xE2 ?_|refine xE3 ?_ _|refine xE4 ?_ (by assumption))))).size,Nat.le_trans hd5 (show Ext w5 _ from (by (repeat (first|exact xE0 _|assumption|refine xE1 ?_ _|refine xE2 ?_|refine xE3 ?_ _|refine xE4 ?_ (by assumption))))).size,η (HX5.out.trans' (by (repeat (first|exact xE0 _|assumption|refine xE1 ?_ _|refine xE2 ?_|refine xE3 ?_ _|refine xE4 ?_ (by assumption)))))⟩
          case measure=>simp[intOf];omega
         ·have hio:i < 0∨10 < i:=by omega
          have HG:=η (two_regOut DM.kept HT.out hca i hio)
          go_wp2_with fail
          refine HG.out.mono ?_
          rintro e w5 ⟨rfl,hT,hE⟩
          have HT5:=η hT
          have HX5:=η (HX.out.trans' hE)
          have hc5:=Nat.le_trans hca hE.size
          have hd5:=Nat.le_trans hcb hE.size
          clear hT hE HT HX HG
          rcases hio with hio|hio
          ·obtain rfl:i=-1:=by omega
           clear hin
           go_wp2_with fail
           go_roundw
           case rel=>exact⟨0,by omega,by go_num,HT5,hc5,hd5,HX5⟩
           case measure=>simp[intOf]
          ·obtain rfl:i=11:=by omega
           clear hin
           go_wp2_with fail
           go_roundw
           case rel=>exact⟨12,by omega,by go_num,HT5,hc5,hd5,HX5⟩
           case measure=>simp[intOf]
        ·go_wp2_with fail
         go_roundw
         case rel=>exact⟨k+1,τ',by omega,by go_num,HT,HJ,hca,hcb,HX⟩
         case measure=>simp[intOf];omega
     ·go_wp2_with fail
      go_returns
      exact⟨rfl,HX.out⟩
end Go.Proofs.YtppefchjoodgnaaGreat
namespace Go.Proofs.YtppefchjoodgnaaGreat
open Go.RowKit Go.ChangeShapes Go.WideShapes Go.ChangeAt
section
variable {H:Type} {enc:TypeId×Value→H} {P:Program}
theorem args_stay (hl:laidOutB P=true){W W':World}(hB:Ext W W'):∀ (ts:List TypeId) (vs:List Value) (ds:List (DataW H)) (ps:List MemPlace),
  (∀ t∈ts,P.readableRec t=true∧t < P.types.size)→DataW.TrodAll enc P W 0 (fun _=>true) true ts vs ds ps→(∀ p∈ps,p.block < W.heap.size) →
  DataW.TrodAll enc P W' 0 (fun b=>decide (b < W.heap.size)) true ts vs ds ps
 | [],[],[],ps,_,h,_=>h
 | t :: ts,v :: vs,d :: ds,ps,hr,⟨p,q,h1,h2,he⟩,hlt=>by
  subst he
  exact⟨p,q,Below.trod hl (hr t List.mem_cons_self).1 (hr t List.mem_cons_self).2 h1 hB (fun x hx=>hlt x (List.mem_append_left _ hx)),
   args_stay hl hB ts vs ds q (fun t ht=>hr t (List.mem_cons_of_mem _ ht)) h2 (fun x hx=>hlt x (List.mem_append_right _ hx)),rfl⟩
 | [],_ :: _,_,_,_,h,_=>by simp[DataW.TrodAll]at h
 | [],[],_ :: _,_,_,h,_=>by simp[DataW.TrodAll]at h
 | _ :: _,[],_,_,_,h,_=>by simp[DataW.TrodAll]at h
 | _ :: _,_ :: _,[],_,_,h,_=>by simp[DataW.TrodAll]at h
theorem law_post {f:Func}{s:ChangeSpec}{W W':World}{args:Array Value}{ds gs:List (DataW H)}{before:List MemPlace}{tb:TypeId}(hvars:s.vars=[])
  (hW:DataW.Whole enc P f.params.toList s.vars false W args.toList ds gs before) (hB:Ext W W') (hl:laidOutB P=true)
  (hr:∀ t∈f.params.toList,P.readableRec t=true∧t < P.types.size) (hres:f.resultTypes=#[tb]) (htb:P.underlying tb=some .bool)
  (hfn:s.fn H (ds++gs)={results:=[.lit (.bool true)],args:=ds}) :
  s.post enc P f false true false false W args (.bool true) W':=by
 have hlt:=hW.lt
 have hW':=hW
 obtain⟨p,q,hA,hV,rfl,hfz,hnd⟩:=hW
 rw[hvars]at hV
 obtain⟨rfl,rfl⟩:=trodVars_none hV
 refine⟨ds,[],p++[],[],p,[],hW',?_,?_,?_,hB.frame _,fun h=>by cases h⟩
 ·rw[hfn,hres]
  exact trodAll_mk1 (shut_bool htb true)
 ·rw[hfn]
  exact args_stay hl hB _ _ _ _ hr hA (fun x hx=>hlt x (List.mem_append_left _ hx))
 ·rw[hfn,hvars]
  rfl
end
end Go.Proofs.YtppefchjoodgnaaGreat
namespace Go.Proofs.YtppefchjoodgnaaGreat
open Go.RowKit Go.ChangeShapes Go.WideShapes Go.ChangeAt Go.Deep
theorem list_of {α:Type}(Q:Nat→α→Prop):∀ n:Nat,(∀ i,i < n→∃ x,Q i x)→∃ xs:List α,xs.length=n∧∀ i x,xs[i]?=some x→Q i x
 | 0,_=>⟨[],rfl,fun i x hx=>by simp at hx⟩
 | n+1,h=>by
  obtain⟨xs,hl,hq⟩:=list_of Q n (fun i hi=>h i (by omega))
  obtain⟨x,hx⟩:=h n (by omega)
  refine⟨xs++[x],by simp[hl],fun i y hy=>?_⟩
  by_cases hi:i < n
  ·rw[List.getElem?_append_left (by omega)]at hy
   exact hq i y hy
  ·rw[List.getElem?_append_right (by omega),hl]at hy
   by_cases h0:i=n
   ·subst h0
    simp at hy
    subst hy
    exact hx
   ·rw[List.getElem?_eq_none (by simp;omega)]at hy
    cases hy
section
variable {H:Type} {tok:TypeId×Value→H} {P:Program}
theorem open_rows {α:Type}{enc:α→List Value}{sz:Nat}{ok:α→Prop}{t e:TypeId}(ht:P.underlying t=some (.slice e))(hc:P.cellsOf e=sz){W:World}{base:Nat}{v:Value}{d:DataW H}{p:List MemPlace}
  (hel:∀ (n:Nat) (cs:List Value) (y:DataW H×List MemPlace),DataW.trod tok P W 0 (fun _=>true) true n e cs=some y→∃ x:α,enc x=cs∧ok x)
  (hv:Value.okWide P W .any base t v) (h:DataW.Trod tok P W 0 (fun _=>true) true t v d p):∃ xs:List α,Rd W sz enc v xs∧∀ x∈xs,ok x:=by
 obtain⟨a0,n0,c0,rfl⟩:=okWide_slice ht hv
 obtain⟨fuel,hf⟩:=h
 rcases open_slice ht hf with ⟨hcs,hx⟩|⟨a,len,cap,m,n,D,Pl,hcs,_,hl,hm,hmm,hx,hall⟩
 ·simp[Value.cells]at hcs
  obtain⟨rfl,rfl,rfl⟩:=hcs
  exact⟨[],Rd.nil _ _ _,fun x hx=>by simp at hx⟩
 ·simp[Value.cells]at hcs
  obtain⟨rfl,rfl,rfl⟩:=hcs
  simp only[if_true]at hmm
  obtain⟨xs,hlen,hq⟩:=list_of (fun i x=>(∀ j u,(enc x)[j]?=some u→W.cell? (a.add (i * sz+j))=some u)∧ok x) n0 (fun i hi=>by
   obtain⟨cs',hcc,htr⟩:=hall i (by omega)
   obtain⟨x,he,hok⟩:=hel n cs' _ htr
   obtain⟨_,hcl,hat⟩:=World.cells?_some hcc
   refine⟨x,fun j u hu=>?_,hok⟩
   rw[he]at hu
   have hj:j < P.cellsOf e:=by rw[← hcl];exact(List.getElem?_eq_some_iff.1 hu).1
   have:=hat j hj
   rw[hu,hc,Addr.add_add]at this
   exact this)
  refine⟨xs,⟨some a,c0,by rw[hlen],by omega,hm,fun e=>by simp at e,fun i x hx j u hu=>?_⟩,fun x hx=>?_⟩
  ·simpa[elt]using (hq i x hx).1 j u hu
  ·obtain⟨i,hi⟩:=List.getElem?_of_mem hx
   exact(hq i x hi).2
theorem qN {t e:TypeId}{k:IntKind}(ht:P.underlying t=some (.slice e))(he:P.underlying e=some (.int k))(hc:P.cellsOf e=1){W:World}{n:Nat}{cs:List Value}{y:DataW H×List MemPlace}
  (hf:DataW.trod tok P W 0 (fun _=>true) true n t cs=some y):∃ (a0:Option Addr) (n0 c0:Nat) (xs:List Int),cs=[.slice a0 n0 c0]∧Sl W k (.slice a0 n0 c0) xs∧∀ x∈xs,(Lit.int k x).wf=true:=by
 rcases open_ints ht he hc hf with ⟨hcs,hx⟩|⟨a,len,cap,zs,hcs,_,hl,hm,hz,hx,hcell,hwz⟩
 ·exact⟨none,0,0,[],hcs,Rd.nil _ _ _,fun x hx=>by simp at hx⟩
 ·simp only[if_true]at hz
  have hlen:(zs.take len).length=len:=by rw[List.length_take];omega
  refine⟨some a,len,cap,zs.take len,hcs,⟨some a,cap,by rw[hlen],by rw[hlen];exact hl,hm,fun e=>by simp at e,?_⟩,fun x hx=>hwz x (List.mem_of_mem_take hx)⟩
  intro i x hx j u hu
  cases j with
  | succ j=>simp at hu
  | zero =>
   simp at hu;subst hu
   have hi:i < len:=by have:=(List.getElem?_eq_some_iff.1 hx).1;omega
   rw[List.getElem?_take_of_lt hi]at hx
   have:=hcell i (by omega)
   rw[List.getD_eq_getElem?_getD,hx]at this
   simpa[elt]using this
end
set_option maxRecDepth 100000 in
theorem open_ins {H:Type}{tok:TypeId×Value→H}{W:World}(n:Nat)(cs:List Value)(y:DataW H×List MemPlace)(h:DataW.trod tok Tryz.prog W 0 (fun _=>true) true n 58 cs=some y):∃ x:Ins,Ins.enc x=cs∧x.Ok:=by
 obtain⟨ys,n',_,_,hlen,hyl,hf⟩:=DataW.trod_struct Tryz.underlying58 h
 have hlen5:cs.length=5:=hlen.trans (by kernel_rfl)
 have k5:Tryz.prog.cellsOf 5=1:=by kernel_rfl
 have k3:Tryz.prog.cellsOf 56=1:=by kernel_rfl
 have k22:Tryz.prog.cellsOf 21=1:=by kernel_rfl
 have hy5:ys.length=5:=hyl.trans rfl
 match cs,hlen5 with
 | [c0,c1,c2,c3,c4],_ =>
  match ys,hy5 with
  | [y0,y1,y2,y3,y4],_ =>
   have f0:=hf 0 _ rfl
   have f1:=hf 1 _ rfl
   have f2:=hf 2 _ rfl
   have f3:=hf 3 _ rfl
   have f4:=hf 4 _ rfl
   simp only[k5,k3,k22,List.drop,List.take,List.getElem?_cons_zero,List.getElem?_cons_succ]at f0 f1 f2 f3 f4
   obtain⟨x0,e0,-,w0⟩:=DataW.trod_int Tryz.underlying5 f0
   obtain⟨x1,e1,-,w1⟩:=DataW.trod_int Tryz.underlying5 f1
   obtain⟨x2,e2,-,w2⟩:=DataW.trod_int Tryz.underlying5 f2
   obtain⟨x3,e3,-,w3⟩:=DataW.trod_int Tryz.underlying56 f3
   obtain⟨x4,e4,-,w4⟩:=DataW.trod_int Tryz.underlying21 f4
   injection e0 with e0
   injection e1 with e1
   injection e2 with e2
   injection e3 with e3
   injection e4 with e4
   refine⟨⟨x0,x1,x2,x3,x4⟩,?_,?_,?_,?_,?_,?_⟩
   ·simp[Ins.enc,e0,e1,e2,e3,e4]
   ·simpa[Lit.wf,IntKind.min,IntKind.max,IntKind.signed,IntKind.bits]using w0
   ·simpa[Lit.wf,IntKind.min,IntKind.max,IntKind.signed,IntKind.bits]using w1
   ·simpa[Lit.wf,IntKind.min,IntKind.max,IntKind.signed,IntKind.bits]using w2
   ·simpa[Lit.wf,IntKind.min,IntKind.max,IntKind.signed,IntKind.bits]using w3
   ·simpa[Lit.wf,IntKind.min,IntKind.max,IntKind.signed,IntKind.bits]using w4
theorem u64_rngE {a:Int}(h:(Lit.int .u64 a).wf=true):0≤a∧a≤18446744073709551615:=by simpa[Lit.wf,IntKind.min,IntKind.max,IntKind.signed,IntKind.bits]using h
theorem u8_rngE {a:Int}(h:(Lit.int .u8 a).wf=true):0≤a∧a≤255:=by simpa[Lit.wf,IntKind.min,IntKind.max,IntKind.signed,IntKind.bits]using h
section
variable {H:Type} {tok:TypeId×Value→H} {P:Program}
theorem vY {α:Type}{enc:α→List Value}{sz:Nat}{ok:α→Prop}{t e:TypeId}(ht:P.underlying t=some (.slice e))(hc:P.cellsOf e=sz){W:World}{n:Nat}{cs:List Value}{y:DataW H×List MemPlace}
  (hel:∀ (n:Nat) (cs:List Value) (y:DataW H×List MemPlace),DataW.trod tok P W 0 (fun _=>true) true n e cs=some y→∃ x:α,enc x=cs∧ok x)
  (hf:DataW.trod tok P W 0 (fun _=>true) true n t cs=some y):∃ (a0:Option Addr) (n0 c0:Nat) (xs:List α),cs=[.slice a0 n0 c0]∧Rd W sz enc (.slice a0 n0 c0) xs∧∀ x∈xs,ok x:=by
 rcases open_slice ht hf with ⟨hcs,hx⟩|⟨a,len,cap,m,n,D,Pl,hcs,_,hl,hm,hmm,hx,hall⟩
 ·exact⟨none,0,0,[],hcs,Rd.nil _ _ _,fun x hx=>by simp at hx⟩
 ·simp only[if_true]at hmm
  obtain⟨xs,hlen,hq⟩:=list_of (fun i x=>(∀ j u,(enc x)[j]?=some u→W.cell? (a.add (i * sz+j))=some u)∧ok x) len (fun i hi=>by
   obtain⟨cs',hcc,htr⟩:=hall i (by omega)
   obtain⟨x,he,hok⟩:=hel n cs' _ htr
   obtain⟨_,hcl,hat⟩:=World.cells?_some hcc
   refine⟨x,fun j u hu=>?_,hok⟩
   rw[he]at hu
   have hj:j < P.cellsOf e:=by rw[← hcl];exact(List.getElem?_eq_some_iff.1 hu).1
   have:=hat j hj
   rw[hu,hc,Addr.add_add]at this
   exact this)
  refine⟨some a,len,cap,xs,hcs,⟨some a,cap,by rw[hlen],by omega,hm,fun e=>by simp at e,fun i x hx j u hu=>?_⟩,fun x hx=>?_⟩
  ·simpa[elt]using (hq i x hx).1 j u hu
  ·obtain⟨i,hi⟩:=List.getElem?_of_mem hx
   exact(hq i x hi).2
end
section
variable {H:Type} {tok:TypeId×Value→H} {W:World}
set_option maxRecDepth 100000 in
theorem open_defE (n:Nat)(cs:List Value)(y:DataW H×List MemPlace)(h:DataW.trod tok Tryz.prog W 0 (fun _=>true) true n 102 cs=some y):∃ x:TDef,TDef.enc x=cs∧True:=by
 obtain⟨ys,n',_,_,hlen,hyl,hf⟩:=DataW.trod_struct Tryz.underlying102 h
 have hlen4:cs.length=4:=hlen.trans (by kernel_rfl)
 have k3:Tryz.prog.cellsOf 3=1:=by kernel_rfl
 have k4:Tryz.prog.cellsOf 4=1:=by kernel_rfl
 have hy4:ys.length=4:=hyl.trans rfl
 match cs,hlen4 with
 | [c0,c1,c2,c3],_ =>
  match ys,hy4 with
  | [y0,y1,y2,y3],_ =>
   have f0:=hf 0 _ rfl
   have f1:=hf 1 _ rfl
   have f2:=hf 2 _ rfl
   have f3:=hf 3 _ rfl
   simp only[k3,k4,List.drop,List.take,List.getElem?_cons_zero,List.getElem?_cons_succ]at f0 f1 f2 f3
   obtain⟨a0,e0,-⟩:=DataW.trod_bool Tryz.underlying4 f0
   obtain⟨a1,e1,-,-⟩:=DataW.trod_int Tryz.underlying3 f1
   obtain⟨a2,e2,-,-⟩:=DataW.trod_int Tryz.underlying3 f2
   obtain⟨a3,e3,-,-⟩:=DataW.trod_int Tryz.underlying3 f3
   injection e0 with e0
   injection e1 with e1
   injection e2 with e2
   injection e3 with e3
   exact⟨⟨a0,a1,a2,a3⟩,by simp[TDef.enc,e0,e1,e2,e3],trivial⟩
def ItemOk (W:World)(x:IT):Prop:=(Sl W .u8 x.kv x.key∧Sl W .u8 x.vv x.val)∧∀ q∈x.val,0≤q∧q≤255
set_option maxRecDepth 100000 in
theorem open_itemE (n:Nat)(cs:List Value)(y:DataW H×List MemPlace)(h:DataW.trod tok Tryz.prog W 0 (fun _=>true) true n 36 cs=some y):∃ x:IT,IT.enc x=cs∧ItemOk W x:=by
 obtain⟨ys,n',_,_,hlen,hyl,hf⟩:=DataW.trod_struct Tryz.underlying36 h
 have hlen2:cs.length=2:=hlen.trans (by kernel_rfl)
 have k28:Tryz.prog.cellsOf 23=1:=by kernel_rfl
 have k5:Tryz.prog.cellsOf 5=1:=by kernel_rfl
 have hy2:ys.length=2:=hyl.trans rfl
 match cs,hlen2 with
 | [c0,c1],_ =>
  match ys,hy2 with
  | [y0,y1],_ =>
   have f0:=hf 0 _ rfl
   have f1:=hf 1 _ rfl
   simp only[k28,List.drop,List.take,List.getElem?_cons_zero,List.getElem?_cons_succ]at f0 f1
   obtain⟨ka,kn,kc,ks,e0,s0,w0⟩:=qN Tryz.underlying23 Tryz.underlying5 k5 f0
   obtain⟨va,vn,vc,vs,e1,s1,w1⟩:=qN Tryz.underlying23 Tryz.underlying5 k5 f1
   injection e0 with e0
   injection e1 with e1
   obtain⟨ka',kn',kc',h1,h2,h3⟩:=s0.val
   injection h1 with z1 z2 z3
   subst z1 z2 z3
   obtain⟨va',vn',vc',g1,g2,g3⟩:=s1.val
   injection g1 with z1 z2 z3
   subst z1 z2 z3
   have hk:=h3.out
   have hv:=g3.out
   subst hk hv
   refine⟨⟨ka,kc,va,vc,ks,vs⟩,?_,⟨?_,?_⟩,fun q hq=>u8_rngE (w1 q hq)⟩
   ·simp[IT.enc,IT.kv,IT.vv,e0,e1]
   ·exact s0
   ·exact s1
def RowOkE (W:World)(row:SV):Prop:=∃ I:List IT,Rd W 2 IT.enc row.v I∧∀ x∈I,ItemOk W x
theorem open_rowE (n:Nat)(cs:List Value)(y:DataW H×List MemPlace)(h:DataW.trod tok Tryz.prog W 0 (fun _=>true) true n 34 cs=some y):∃ x:SV,encW x=cs∧RowOkE W x:=by
 obtain⟨a,m,c,xs,e,hr,hok⟩:=vY (enc:=IT.enc) (sz:=2) (ok:=ItemOk W) Tryz.underlying34 (by kernel_rfl) open_itemE h
 exact⟨⟨a,m,c⟩,e.symm,xs,hr,hok⟩
open Classical in
noncomputable def rowItems (W:World)(row:SV):List (List Int×List Int):=if h:RowOkE W row then (Classical.choose h).map (fun x=>(x.key,x.val)) else []
set_option maxRecDepth 100000 in
theorem open_env {base:Nat}{v:Value}{d:DataW H}{p:List MemPlace}(hv:Value.okWide Tryz.prog W .any base 28 v)(h:DataW.Trod tok Tryz.prog W 0 (fun _=>true) true 28 v d p):
  ∃ (e:EnvD) (cv dv iv rv:Value) (rows:List SV),v=.agg #[cv,dv,iv,rv]∧EnvR W e cv dv iv rv rows∧U64s e.draws:=by
 obtain⟨v0,v1,v2,v3,y0,y1,y2,y3,n,rfl,-,-,h0,h1,h2,h3⟩:=Joins.open_agg4 Tryz.underlying28 (by kernel_rfl) (by kernel_rfl) hv h
 obtain⟨a0,n0,c0,xs,e0,s0,w0⟩:=qN Tryz.underlying23 Tryz.underlying5 (by kernel_rfl) h0
 obtain⟨a1,n1,c1,ds,e1,s1,w1⟩:=vY (enc:=TDef.enc) (sz:=4) (ok:=fun _=>True) Tryz.underlying24 (by kernel_rfl) open_defE h1
 obtain⟨a2,n2,c2,rows,e2,s2,w2⟩:=vY (enc:=encW) (sz:=1) (ok:=RowOkE W) Tryz.underlying25 (by kernel_rfl) open_rowE h2
 obtain⟨a3,n3,c3,rs,e3,s3,w3⟩:=qN Tryz.underlying26 Tryz.underlying29 (by kernel_rfl) h3
 simp at e0 e1 e2 e3
 subst e0 e1 e2 e3
 refine⟨⟨xs,ds,rows.map (rowItems W),rs⟩,_,_,_,_,rows,rfl,⟨s0,fun x hx=>u8_rngE (w0 x hx),s1,s3,s2,by simp,fun i row l hi hl=>?_,fun l hl q hq x hx=>?_⟩,fun x hx=>u64_rngE (w3 x hx)⟩
 ·simp only[List.getElem?_map,hi,Option.map_some,Option.some.injEq]at hl
  have hok:=w2 row (List.mem_of_getElem? hi)
  subst hl
  unfold rowItems
  rw[dif_pos hok]
  have hs:=Classical.choose_spec hok
  exact⟨_,hs.1,fun x hx=>(hs.2 x hx).1,rfl⟩
 ·simp only[List.mem_map]at hl
  obtain⟨row,hr,rfl⟩:=hl
  have hok:=w2 row hr
  unfold rowItems at hq
  rw[dif_pos hok]at hq
  obtain⟨y,hy,rfl⟩:=List.mem_map.1 hq
  exact((Classical.choose_spec hok).2 y hy).2 x hx
end
end Go.Proofs.YtppefchjoodgnaaGreat
