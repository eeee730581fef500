import Derived.Test.YtppefchjoodgnaaGreatPQ37
import Derived.Test.YtppefchjoodgnaaGreatPQ36
import Derived.Test.YtppefchjoodgnaaGreatPQ35
import Derived.Test.YtppefchjoodgnaaGreatPQ32
import Derived.Test.YtppefchjoodgnaaGreatPQ02
import Derived.BigQuiet
import Derived.Deep.LoopGhost
import Derived.Deep.CutBlock
import Derived.BigRegion
import Derived.Test.YtppefchjoodgnaaGreatPQ31
import Derived.Test.YtppefchjoodgnaaGreatPQ16
import Derived.Test.YtppefchjoodgnaaGreatPQ01
import Derived.Test.YtppefchjoodgnaaGreatPQ33
import Derived.Test.YtppefchjoodgnaaGreatPQ34
set_option linter.unusedSimpArgs false
set_option linter.unusedVariables false
namespace Go.Proofs.YtppefchjoodgnaaGreat
open Go.RowKit
section
theorem own_ne {α:Type}{w:World}{base b r sz:Nat}{e:TypeId}{enc:α→List Value}{v:Value}{xs:List α}(ho:Own w base e sz enc v xs)(hm:MemAt w b r [])(he:e≠147):∀ j,v.ownBlock=some j→j≠b∧j≠r:=by
 intro j hj
 rcases ho.2 with ⟨h0,_⟩|⟨g,cap,cur,hv,_,hg,_⟩
 ·rw[h0]at hj;cases hj
 ·rw[hv]at hj
  cases hj
  refine⟨fun e1=>?_,fun e1=>?_⟩
  ·subst e1
   rw[hm.head]at hg
   injection hg with hg
   injection hg with _ hg
   exact he hg.symm
  ·subst e1
   obtain⟨es,cl,hr,-⟩:=hm.map
   rw[hr]at hg
   cases hg
set_option maxRecDepth 20000 in
set_option maxHeartbeats 8000000 in
theorem p_New (lv cv dv iv rv:Value)(rows:List SV)(L:List Ins)(e:EnvD)(w:World)(h:Rd w 5 Ins.enc lv L)(hl:L.length≤1000000)(hok:InsOk L)(he:EnvR w e cv dv iv rv rows)(hdl:e.defs.length≤1000000)(hd:e.draws.length≤1000000):
  Calls Tryz.prog 22 #[lv,.agg #[cv,dv,iv,rv]] w (NewPA (RS.new L e) w):=by
 have HD:=η h
 have HL:=η hl
 have HOK:=η hok
 have HE:=η he
 obtain⟨ca,cn,cc,rfl,hcn,hCN⟩:=he.ctx.val
 obtain⟨da,dn,dc,rfl,hdn,hDN⟩:=he.defs.val
 obtain⟨ia,inn,ic,rfl,hin,hIN⟩:=he.rowsR.val
 obtain⟨ra,rn,rc,rfl,hrn,hRN⟩:=he.draws.val
 obtain⟨la,ln,lc,rfl,hln,hLN⟩:=h.val
 have hlen:=η he.len
 have HCI:=η (fun W (hW:Ext w W)=>clone_ins _ L W (HD.out.ext hW) (by omega))
 have HCD:=η (fun W (hW:Ext w W)=>clone_def _ e.defs W (HE.out.defs.ext hW) (by omega))
 have HCR:=η (fun W (hW:Ext w W)=>clone_u64 _ e.draws W (HE.out.draws.ext hW) (by omega))
 clear h hl hok he
 obtain⟨res,hres⟩:∃ r,RS.new L e=r:=⟨_,rfl⟩
 rw[hres]
 have HRES:=η hres
 clear hres
 go_enter Tryz.func22,Tryz.ntmps22
 go_upto_region 1 with fail
 go_cut [7] from 17 to 22 (fun v wx=>∃ er:Int,v=.int .i64 er∧Hid (decide (er=0)=yX L∧Ext w wx∧wx.heap[w.heap.size]?=some (yL (.slice ca cn cc) (.slice da dn dc) (.slice ia inn ic) (.slice ra rn rc))))
 case first =>
  go_wp2_with fail
  refine(p_Check _ L _ (HD.out.ext (by (repeat (first|exact xE0 _|assumption|refine xE1 ?_ _|refine xE2 ?_|refine xE3 ?_ _|refine xE4 ?_ (by assumption))))) HL.out HOK.out).mono ?_
  rintro e1 w5 ⟨at_,er,rfl,her,hE⟩
  have HER:=η her
  clear her
  go_wp2_with fail
  go_meet
  exact⟨er,rfl,η ⟨HER.out,Ext.trans' ((Ext.rfl' _).alloc' _) hE,hE.obj (zD w _ rfl)⟩⟩
 case rest =>
  obtain⟨er,rfl,HC⟩:=hcut
  have HE1:=η HC.out.2.1
  have HBX:=η HC.out.2.2
  have HER:=η HC.out.1
  clear HC
  (obtain⟨x0,x1,x2,x3⟩:=κ4 (HBX.out);have xf:=fun i=>zA (i:=i) (HBX.out);skip)
  by_cases hbad:yX L=false∨64 < e.ctx.length∨e.defs.length < e.items.length
  ·have HN:Hid (res=none):=η (by rw[← HRES.out,RS.new,if_pos hbad])
   obtain⟨z1,hz1⟩:∃ b,(er != 0)=b:=⟨_,rfl⟩
   have HB3:Hid ((er != 0)=true∨(cn:Int) > 64∨(inn:Int) > dn):=η (by
    rcases hbad with h1|h1|h1
    ·left;have:=HER.out;rw[h1]at this;simpa using this
    ·right;left;rw[hCN.out];omega
    ·right;right;have:=hlen.out;rw[hIN.out,hDN.out];omega)
   have hret:NewPA res w (.returned (.tuple #[.pointer none,.int .i64 1])) wc:=by rw[HN.out];exact⟨rfl,HE1.out⟩
   have HRET:=η hret
   clear hbad hret HN HRES
   cases z1
   ·by_cases hc:(cn:Int) > 64
    ·go_wp2_with fail
     go_returns
     exact HRET.out
    ·have hi:(inn:Int) > dn:=by
      rcases HB3.out with h1|h1|h1
      ·rw[hz1]at h1;cases h1
      ·exact absurd h1 hc
      ·exact h1
     go_wp2_with fail
     go_returns
     exact HRET.out
   ·go_wp2_with fail
    go_returns
    exact HRET.out
  ·have hp:yX L=true:=by cases hq:yX L;exact absurd (.inl hq) hbad;rfl
   have hc:(cn:Int)≤64:=by rw[hCN.out];have:=fun h=>hbad (.inr (.inl h));omega
   have hi:(inn:Int)≤dn:=by have:=hlen.out;rw[hIN.out,hDN.out];have:=fun h=>hbad (.inr (.inr h));omega
   obtain rfl:er=0:=by have:=HER.out;rw[hp]at this;simpa using this
   have HG:Hid (res=(rnew (xS e.ctx) e.defs).bind fun V=>(yW V 0 e.items).map fun V'=>((RS.zero L e.defs e.draws V').setR 1 4294967296).setR 10 8589935104):=η (by rw[← HRES.out,RS.new,if_neg hbad])
   clear hbad hp HRES HER
   have e1:decide ((64:Int) < (cn:Int))=false:=by simp;omega
   have e2:decide (dn < inn)=false:=by simp;omega
   have e3:decide ((dn:Int) < (inn:Int))=false:=by simp;omega
   have hlw:=zE HBX.out
   have HSS:Hid (∀ w',Ext wc w'→w'.cell? ⟨w.heap.size,1,none⟩=some (.slice da dn dc)∧w'.cell? ⟨w.heap.size,3,none⟩=some (.slice ra rn rc)):=η (fun w' he=>⟨he.cellOf x1,he.cellOf x3⟩)
   go_upto_region 4 with fail
   go_cut [8] from 39 to 50 (fun v8 wx=>∃ (B b:Nat) (lv2 dv2 xv2:Value),v8=.pointer (some ⟨B,0,none⟩)∧Hid (NewUP w B b [] (mzP lv2 dv2 xv2 (.pointer none) b) (yL (.slice ca cn cc) (.slice da dn dc) (.slice ia inn ic) (.slice ra rn rc)) lv2 dv2 xv2 L e.defs e.draws wx)∧Hid (w.heap.size < B∧∀ j∈lv2.ownBlock.toList++(dv2.ownBlock.toList++xv2.ownBlock.toList),j≠B))
   case first =>
    go_region_held3 (fun w'=>w'.cell? ⟨w.heap.size,1,none⟩=some (.slice da dn dc)∧w'.cell? ⟨w.heap.size,3,none⟩=some (.slice ra rn rc))
     ((refine HSS.out _ ?_;(repeat (first|exact xE0 _|assumption|refine xE1 ?_ _|refine xE2 ?_|refine xE3 ?_ _|refine xE4 ?_ (by assumption)))))
     ((first
      | (go_at_call 48;refine(HCI.out _ (HE1.out.trans' (by (repeat (first|exact xE0 _|assumption|refine xE1 ?_ _|refine xE2 ?_|refine xE3 ?_ _|refine xE4 ?_ (by assumption)))))).mono ?_;rintro e1 wA ⟨vA,rfl,hOA,hEA⟩;obtain⟨la2,ln2,lc2,rfl,hln2,hLN2⟩:=(hOA.rd gJ).val;have OA:=η hOA;have hxA:Ext wc wA:=(by (repeat (first|exact xE0 _|assumption|refine xE1 ?_ _|refine xE2 ?_|refine xE3 ?_ _|refine xE4 ?_ (by assumption))));clear hOA)
      | (go_at_call 49;refine(mem_new _).mono ?_;rintro e1 wM ⟨b,r,rfl,hMM,hbM,hrM,hEM⟩;have MM:=η hMM;have hxM:Ext wc wM:=(by (repeat (first|exact xE0 _|assumption|refine xE1 ?_ _|refine xE2 ?_|refine xE3 ?_ _|refine xE4 ?_ (by assumption))));clear hMM)
      | (go_at_call 50;refine(HCD.out _ (HE1.out.trans' (by (repeat (first|exact xE0 _|assumption|refine xE1 ?_ _|refine xE2 ?_|refine xE3 ?_ _|refine xE4 ?_ (by assumption)))))).mono ?_;rintro e1 wD ⟨vD,rfl,hOD,hED⟩;obtain⟨da2,dn2,dc2,rfl,hdn2,hDN2⟩:=(hOD.rd enc_def).val;have OD:=η hOD;have hxD:Ext wc wD:=(by (repeat (first|exact xE0 _|assumption|refine xE1 ?_ _|refine xE2 ?_|refine xE3 ?_ _|refine xE4 ?_ (by assumption))));clear hOD)
      | (go_at_call 51;refine(HCR.out _ (HE1.out.trans' (by (repeat (first|exact xE0 _|assumption|refine xE1 ?_ _|refine xE2 ?_|refine xE3 ?_ _|refine xE4 ?_ (by assumption)))))).mono ?_;rintro e1 wR ⟨vR,rfl,hOR,hER⟩;obtain⟨ra2,rn2,rc2,rfl,hrn2,hRN2⟩:=(hOR.rd (zG .u64)).val;have OR:=η hOR;have hxR:Ext wc wR:=(by (repeat (first|exact xE0 _|assumption|refine xE1 ?_ _|refine xE2 ?_|refine xE3 ?_ _|refine xE4 ?_ (by assumption))));clear hOR)))
    all_goals
     have hMD:Ext wM wD:=by (repeat (first|exact xE0 _|assumption|refine xE1 ?_ _|refine xE2 ?_|refine xE3 ?_ _|refine xE4 ?_ (by assumption)))
     have hDR:Ext wD wR:=by (repeat (first|exact xE0 _|assumption|refine xE1 ?_ _|refine xE2 ?_|refine xE3 ?_ _|refine xE4 ?_ (by assumption)))
     have hAR:Ext wA wR:=by (repeat (first|exact xE0 _|assumption|refine xE1 ?_ _|refine xE2 ?_|refine xE3 ?_ _|refine xE4 ?_ (by assumption)))
     have hsA:=hxA.size
     have hsM:=hxM.size
     have hsD:=hxD.size
     have hb0:wc.heap.size≤b:=by first|omega|(simp at hbM;omega)
     have hr0:wc.heap.size≤r:=by first|omega|(simp at hrM;omega)
     have oA:Own wR (w.heap.size+1) 58 5 Ins.enc (.slice la2 ln2 lc2) L:=(OA.out.mono (by first|omega|(simp;omega))).ext hAR
     have oD:Own wR (w.heap.size+1) 102 4 TDef.enc (.slice da2 dn2 dc2) e.defs:=(OD.out.mono (by first|omega|(simp;omega))).ext hDR
     have oR:Own wR (w.heap.size+1) 29 1 (fun x=>[Value.int .u64 x]) (.slice ra2 rn2 rc2) e.draws:=OR.out.mono (by first|omega|(simp;omega))
     have mR:=MM.out.ext (hMD.trans' hDR)
     have hbl:=zE mR.head
     have hrl:r < wR.heap.size:=by obtain⟨es,cl,hr,-⟩:=mR.map;exact zE hr
     have hsR:=hxR.size
     have nA:=own_ne oA mR (by decide)
     have nD:=own_ne oD mR (by decide)
     have nR:=own_ne oR mR (by decide)
     have lA:=fun j hj=>(oA.lt (k:=j) hj).2
     have lD:=fun j hj=>(oD.lt (k:=j) hj).2
     have lR:=fun j hj=>(oR.lt (k:=j) hj).2
     have HFIN:Hid (NewUP w wR.heap.size b [] (mzP (.slice la2 ln2 lc2) (.slice da2 dn2 dc2) (.slice ra2 rn2 rc2) (.pointer none) b) (yL (.slice ca cn cc) (.slice da dn dc) (.slice ia inn ic) (.slice ra rn rc)) (.slice la2 ln2 lc2) (.slice da2 dn2 dc2) (.slice ra2 rn2 rc2) L e.defs e.draws (wR.alloc (mzP (.slice la2 ln2 lc2) (.slice da2 dn2 dc2) (.slice ra2 rn2 rc2) (.pointer none) b))):=η (by
      have hax:Ext wR (wR.alloc (mzP (.slice la2 ln2 lc2) (.slice da2 dn2 dc2) (.slice ra2 rn2 rc2) (.pointer none) b)):=(Ext.rfl' _).alloc' _
      refine⟨(HE1.out.trans' hxR).trans' hax,⟨r,[],mR.ext hax,rfl,fun j hj=>?_,fun q hq=>⟨fun hm=>?_,?_⟩⟩,zD _ _ rfl,zB _ (hxR.obj HBX.out),oA.ext hax,oD.ext hax,oR.ext hax⟩
      ·simp only[foot,List.flatMap_nil,List.mem_cons,List.not_mem_nil,or_false]at hj
       rcases hj with rfl|rfl<;>omega
      ·simp only[foot,List.flatMap_nil,List.mem_cons,List.not_mem_nil,or_false]at hm
       simp only[nblk,List.mem_cons,List.mem_append]at hq
       rcases hq with rfl|rfl|hq|hq|hq
       ·rcases hm with e|e<;>omega
       ·rcases hm with e|e<;>omega
       ·have:=nA q (by simpa using hq);rcases hm with e|e<;>omega
       ·have:=nD q (by simpa using hq);rcases hm with e|e<;>omega
       ·have:=nR q (by simpa using hq);rcases hm with e|e<;>omega
      ·simp only[nblk,List.mem_cons,List.mem_append]at hq
       simp only[World.alloc,Array.size_push]
       rcases hq with rfl|rfl|hq|hq|hq
       ·omega
       ·omega
       ·have:=lA q (by simpa using hq);omega
       ·have:=lD q (by simpa using hq);omega
       ·have:=lR q (by simpa using hq);omega)
     have HBB:Hid (w.heap.size < wR.heap.size∧∀ j∈(Value.slice la2 ln2 lc2).ownBlock.toList++((Value.slice da2 dn2 dc2).ownBlock.toList++(Value.slice ra2 rn2 rc2).ownBlock.toList),j≠wR.heap.size):=η ⟨by omega,fun j hj=>by
      simp only[List.mem_append]at hj
      rcases hj with hq|hq|hq
      ·have:=lA j (by simpa using hq);omega
      ·have:=lD j (by simpa using hq);omega
      ·have:=lR j (by simpa using hq);omega⟩
     clear nA nD nR lA lD lR oA oD oR mR
     go_wp2_with fail
     go_meet
     exact⟨_,_,_,_,_,rfl,HFIN,HBB⟩
   case rest =>
    obtain⟨B,b,lv2,dv2,xv2,rfl,HN,HBW⟩:=hcut
    clear HSS e1 e2 e3 x0 x1 x2 x3 xf HCI HCD HCR hlw
    have c23:wc.cell? ⟨B,23,none⟩=some (.pointer (some ⟨b,0,none⟩)):=cO HN.out.obj
    have c0:wc.cell? ⟨w.heap.size,0,none⟩=some (.slice ca cn cc):=cO HN.out.env
    have hlB:=zE HN.out.obj
    have hlW:=zE HN.out.env
    go_upto_region 5 with fail
    go_cut [56] from 50 to 57 (fun _ wx=>Hid (NewUP w B b (yG [] 1 e.ctx false true).1 (mzP lv2 dv2 xv2 (.pointer none) b) (yL (.slice ca cn cc) (.slice da dn dc) (.slice ia inn ic) (.slice ra rn rc)) lv2 dv2 xv2 L e.defs e.draws wx))
    case first =>
     have y0:=Grow.cell c23
     have y1:=Grow.cell c0
     clear c23 c0
     (refine zR 6 (by kernel_rfl) (by kernel_rfl) ?_;simp only[List.take_succ_cons,List.take_zero];(repeat (go_big_quiet_step ((fail))));refine wpQuiet_nil ?_;rintro wz ⟨nz,hz⟩;have hwq:=nz.ext;rw[← hz]at hwq;simp only[List.drop_succ_cons,List.drop_zero];clear hz)
     go_wp2_with fail
     refine((HN.out.go hwq).make 1 _ e.ctx false true (HE.out.ctx.ext (HN.out.ext.trans' hwq)) HE.out.u8).mono ?_
     rintro e1 w7 ⟨⟨er,rfl⟩,hN⟩
     have HN7:=η hN
     clear hN
     go_wp2_with fail
     go_meet
     exact HN7
    case rest =>
     clear HN c23 c0 hlB hlW
     have HN:=hcut
     have m23:wc.cell? ⟨B,23,none⟩=some (.pointer (some ⟨b,0,none⟩)):=cO HN.out.obj
     have mo23:=fun o=>(cO (i:=23) (zB o HN.out.obj):(wc.alloc o).cell? ⟨B,23,none⟩=some (.pointer (some ⟨b,0,none⟩)))
     have hlB:=zE HN.out.obj
     have hmk:=run_make512
     go_upto_region 6 with fail
     go_cut [62] from 57 to 63 (fun _ wx=>Hid (NewUP w B b (xS e.ctx) (mzP lv2 dv2 xv2 (.pointer none) b) (yL (.slice ca cn cc) (.slice da dn dc) (.slice ia inn ic) (.slice ra rn rc)) lv2 dv2 xv2 L e.defs e.draws wx))
     case first =>
      go_region_law ((go_simp;go_at_call 52;refine((HN.out.go (by (repeat (first|exact xE0 _|assumption|refine xE1 ?_ _|refine xE2 ?_|refine xE3 ?_ _|refine xE4 ?_ (by assumption))))).make 2 _ (List.replicate 512 0) true false (rd_512 _) small_512).mono ?_;rintro e1 w7 ⟨⟨er,rfl⟩,hN⟩;have HN7:=η hN;clear hN))
      all_goals
       go_wp2_with fail
       go_meet
       exact HN7
     case rest =>
      clear HN m23 mo23 hlB hmk
      have HN:=hcut
      have m23:wc.cell? ⟨B,23,none⟩=some (.pointer (some ⟨b,0,none⟩)):=cO HN.out.obj
      have q1:wc.cell? ⟨w.heap.size,1,none⟩=some (.slice da dn dc):=cO HN.out.env
      have hlB:=zE HN.out.obj
      have hlW:=zE HN.out.env
      clear hcut
      have HTN:Hid (∀ W,Ext wc W→Calls Tryz.prog 53 #[.pointer (some ⟨b,0,none⟩),.slice da dn dc] W (NewTP w B b (xS e.ctx) e.defs (mzP lv2 dv2 xv2 (.pointer none) b) (yL (.slice ca cn cc) (.slice da dn dc) (.slice ia inn ic) (.slice ra rn rc)) lv2 dv2 xv2 L e.draws)):=η (fun W hW=>(HN.out.go hW).tab HE.out.defs)
      cases hrn:rnew (xS e.ctx) e.defs with
      | none =>
       have HTN2:Hid (∀ W,Ext wc W→Calls Tryz.prog 53 #[.pointer (some ⟨b,0,none⟩),.slice da dn dc] W (fun e1 w'=>e1=.returned (.tuple #[.pointer none,.int .i64 1])∧Ext w w')):=η (fun W hW=>(HTN.out W hW).mono (fun e1 w' h=>by unfold NewTP at h;rw[hrn]at h;exact h))
       obtain rfl:res=none:=by rw[HG.out,hrn];rfl
       clear HTN hrn
       go_upto_region 7 with fail
       go_cut [9,10] from 63 to 73 (fun v9 v10 wx=>v10=.int .i64 1∧Hid (Ext w wx))
       case first =>
        go_region_law ((go_simp;go_at_call 53;refine(HTN2.out _ (by (repeat (first|exact xE0 _|assumption|refine xE1 ?_ _|refine xE2 ?_|refine xE3 ?_ _|refine xE4 ?_ (by assumption))))).mono ?_;rintro e1 w7 ⟨rfl,hE7⟩;have HE7:=η hE7;clear hE7))
        all_goals
         go_wp2_with fail
         go_meet
         exact⟨rfl,HE7⟩
       case rest =>
        obtain⟨rfl,HE7⟩:=hcut
        go_wp2_with fail
        go_returns
        exact⟨rfl,HE7.out⟩
      | some V =>
       have HTN2:Hid (∀ W,Ext wc W→Calls Tryz.prog 53 #[.pointer (some ⟨b,0,none⟩),.slice da dn dc] W (fun e1 w'=>∃ tb,e1=.returned (.tuple #[.pointer (some ⟨tb,0,none⟩),.int .i64 0])∧Hid (w'.heap[B]?=some (mzP lv2 dv2 xv2 (.pointer none) b)∧w'.heap[w.heap.size]?=some (yL (.slice ca cn cc) (.slice da dn dc) (.slice ia inn ic) (.slice ra rn rc))∧PRelQ [w.heap.size] [] [] w w.heap.size (w'.setCell ⟨B,24,none⟩ (.pointer (some ⟨tb,0,none⟩))) B (RS.zero L e.defs e.draws V)))):=η (fun W hW=>(HTN.out W hW).mono (fun e1 w' h=>by
        unfold NewTP at h
        rw[hrn]at h
        obtain⟨tb,S,h1,h2,h3,h4,h5,h6,h7,h8,h9,h10,h11,h12⟩:=h
        exact⟨tb,h1,η ⟨h7,h8,mach_new h2 h3 h4 h5 h6 h7 h9 h10 h11 h12 HBW.out.1 HBW.out.2⟩⟩))
       have HVV:=η (new_vrel hrn)
       have HG2:Hid (res=(yW V 0 e.items).map fun V'=>((RS.zero L e.defs e.draws V').setR 1 4294967296).setR 10 8589935104):=η (by rw[HG.out,hrn];rfl)
       clear HTN hrn HG
       go_upto_region 7 with fail
       go_cut [9,10] from 63 to 73 (fun v9 v10 wx=>∃ tb,v9=.pointer (some ⟨tb,0,none⟩)∧v10=.int .i64 0∧Hid (wx.heap[B]?=some (mzP lv2 dv2 xv2 (.pointer none) b)∧wx.heap[w.heap.size]?=some (yL (.slice ca cn cc) (.slice da dn dc) (.slice ia inn ic) (.slice ra rn rc))∧PRelQ [w.heap.size] [] [] w w.heap.size (wx.setCell ⟨B,24,none⟩ (.pointer (some ⟨tb,0,none⟩))) B (RS.zero L e.defs e.draws V)))
       case first =>
        go_region_law ((go_simp;go_at_call 53;refine(HTN2.out _ (by (repeat (first|exact xE0 _|assumption|refine xE1 ?_ _|refine xE2 ?_|refine xE3 ?_ _|refine xE4 ?_ (by assumption))))).mono ?_;rintro e1 w7 ⟨tb,rfl,HE7⟩))
        all_goals
         go_wp2_with fail
         go_meet
         exact⟨_,rfl,rfl,HE7⟩
       case rest =>
        obtain⟨tb,rfl,rfl,HT⟩:=hcut
        have hcb:wc.cell? ⟨B,24,none⟩=some (.pointer none):=cO HT.out.1
        have hfb:=zA (i:=24) HT.out.1
        have hBw:w.heap.size≠B:=by have:=HBW.out.1;omega
        have HE9:=η ((heap_setCell_other wc ⟨B,24,none⟩ w.heap.size (.pointer (some ⟨tb,0,none⟩)) hBw).trans HT.out.2.1)
        have HC9:Hid ((wc.setCell ⟨B,24,none⟩ (.pointer (some ⟨tb,0,none⟩))).cell? ⟨B,24,none⟩=some (.pointer (some ⟨tb,0,none⟩))):=η (cO (heap_setCell_same wc B 24 _ _ _ HT.out.1))
        have HM9:=η HT.out.2.2
        have y22:(wc.setCell ⟨B,24,none⟩ (.pointer (some ⟨tb,0,none⟩))).cell? ⟨w.heap.size,2,none⟩=some (.slice ia inn ic):=cO HE9.out
        go_wp2_with fail
        clear y22 hcb hfb HT m23 q1 hlB hlW
        go_loopw [82] (fun q wr=>∃ (k:Nat) (V1 V1':Areas×List TM),k≤inn∧q=.int .i64 k∧Hid (PRelQ [w.heap.size] [] [] w w.heap.size wr B (RS.zero L e.defs e.draws V1)∧wr.heap[w.heap.size]?=some (yL (.slice ca cn cc) (.slice da dn dc) (.slice ia inn ic) (.slice ra rn rc))∧wr.cell? ⟨B,24,none⟩=some (.pointer (some ⟨tb,0,none⟩))∧yW V1' k (e.items.drop k)=yW V 0 e.items∧VRel V1 V1')) (fun q _=>inn - (intOf q).toNat)
        case atStart=>exact⟨0,V,V,Nat.zero_le _,rfl,η ⟨HM9.out,HE9.out,HC9.out,rfl,HVV.out⟩⟩
        case round =>
         obtain⟨k,V1,V1',hk,rfl,HI⟩:=hrel
         have hEW:Ext w wr:=HI.out.1.keep.ext (fun k hk=>by cases hk)
         have HEW2:=η hEW
         have y2:wr.cell? ⟨w.heap.size,2,none⟩=some (.slice ia inn ic):=cO HI.out.2.1
         have hlw2:=zE HI.out.2.1
         by_cases hlt:(k:Int) < inn
         ·obtain⟨row,hrow⟩:∃ row,rows[k]?=some row:=⟨_,List.getElem?_eq_getElem (by have:=hIN.out;omega)⟩
          obtain⟨l,hl⟩:∃ l,e.items[k]?=some l:=⟨_,List.getElem?_eq_getElem (by have:=hIN.out;have:=hlen.out;omega)⟩
          obtain⟨I,hI,hIs,hIm⟩:=HE.out.items k row l hrow hl
          have HIR:=η hI
          have HIS:=η hIs
          have HIM:=η hIm
          have HLL:=η hl
          have ixr:=fun W=>(HE.out.rowsR).run_at (P:=Tryz.prog) el_itemrows.under el_itemrows.size .i64 (k:Int) (by omega) (by omega) W
          simp only[Nat.mul_one,Int.toNat_natCast]at ixr
          have yr:wr.cell? (elt (.slice ia inn ic) k)=some (.slice row.a row.n row.c):=by
           have:=(HE.out.rowsR.ext hEW).cell hrow (j:=0) rfl
           simpa[SV.v]using this
          have hrn2:row.n=I.length:=by obtain⟨a',n',c',hv,_,hn⟩:=HIR.out.val;have h1:=hn.out;simp only[SV.v]at hv;cases hv;exact h1
          have hrb:row.n≤9223372036854775807:=by obtain⟨a',n',c',hv,hle,hn⟩:=HIR.out.val;simp only[SV.v]at hv;cases hv;exact hle
          have HRN:=η hrn2
          clear hI hIs hIm hrow hl hrn2
          go_wp2_with fail
          obtain⟨wo,rfl⟩:∃ u,u=wr:=⟨_,rfl⟩
          go_loopw [89] (fun q wr2=>∃ (m:Nat) (V2 V2':Areas×List TM),m≤row.n∧q=.int .i64 m∧Hid (PRelQ [w.heap.size] [] [] w w.heap.size wr2 B (RS.zero L e.defs e.draws V2)∧wr2.heap[w.heap.size]?=some (yL (.slice ca cn cc) (.slice da dn dc) (.slice ia inn ic) (.slice ra rn rc))∧wr2.cell? ⟨B,24,none⟩=some (.pointer (some ⟨tb,0,none⟩))∧xG V2' k (l.drop m)=xG V1' k l∧VRel V2 V2')) (fun q _=>row.n - (intOf q).toNat)
          case atStart=>exact⟨0,V1,V1',Nat.zero_le _,rfl,η ⟨HI.out.1,HI.out.2.1,HI.out.2.2.1,rfl,HI.out.2.2.2.2⟩⟩
          case round =>
           obtain⟨m,V2,V2',hm,rfl,HJ⟩:=hrel
           have hEW3:Ext w wr:=HJ.out.1.keep.ext (fun k hk=>by cases hk)
           have HEW3:=η hEW3
           have hlw3:=zE HJ.out.2.1
           clear y2 yr hlw2
           by_cases hlt2:(m:Int) < row.n
           ·have HLT:Hid (m < row.n):=η (by omega)
            obtain⟨y,hy⟩:∃ y,I[m]?=some y:=⟨_,List.getElem?_eq_getElem (by have:=HRN.out;omega)⟩
            have hlm:l[m]?=some (y.key,y.val):=by rw[← HIM.out,List.getElem?_map,hy];rfl
            have HLM:=η hlm
            have hys:=HIS.out y (List.mem_of_getElem? hy)
            have HYB:=HE.out.ib l (List.mem_of_getElem? HLL.out) (y.key,y.val) (List.mem_of_getElem? hlm)
            have hIR:=HIR.out
            simp only[SV.v]at hIR
            have hrn3:row.n=I.length:=HRN.out
            have ixm:=fun W=>hIR.run_at (P:=Tryz.prog) el_item.under el_item.size .i64 (m:Int) (by omega) (by omega) W
            simp only[Int.toNat_natCast]at ixm
            obtain⟨k0,k1⟩:wr.cell? (elt (.slice row.a row.n row.c) (m * 2))=some (.slice y.ka y.key.length y.kc)∧wr.cell? ⟨(elt (.slice row.a row.n row.c) (m * 2)).block,(elt (.slice row.a row.n row.c) (m * 2)).off+1,none⟩=some (.slice y.va y.val.length y.vc):=by
             have E:=(hIR.ext hEW3).elt_add hy
             have F:∀ (p:Addr) (j:Nat),j≠0→(⟨p.block,p.off+j,none⟩:Addr)=p.add j:=fun p j h=>by simp[Addr.add,h]
             rw[F _ 1 (by decide),E]
             exact⟨by have:=(hIR.ext hEW3).cell hy (j:=0) rfl;simpa[IT.kv]using this,(hIR.ext hEW3).cell hy (j:=1) rfl⟩
            obtain⟨hpr1,hpr2⟩:=put_rel HJ.out.2.2.2.2 (k:Int) y.key y.val 0
            obtain⟨Vn,nn,hh,hput⟩:∃ a b c,tput V2 k y.key y.val 0=(a,b,c):=⟨_,_,_,rfl⟩
            rw[hput]at hpr1 hpr2
            obtain⟨Vn',hvn'⟩:∃ a,(rput V2' (k:Int) y.key y.val 0).1=a:=⟨_,rfl⟩
            have hrp:rput V2' (k:Int) y.key y.val 0=(Vn',nn,hh):=Prod.ext hvn' hpr1
            rw[hvn']at hpr2
            have HPR:=η hpr2
            have HPT:Hid (∀ W,Ext wr W→Calls Tryz.prog 54 #[.pointer (some ⟨tb,0,none⟩),.int .i64 (k:Int),.slice y.ka y.key.length y.kc,.slice y.va y.val.length y.vc,.int .u64 0] W (fun e1 w'=>e1=.returned (.tuple #[.int .u64 nn,.int .i64 hh])∧PRelQ [w.heap.size] [] [] w w.heap.size w' B (RS.zero L e.defs e.draws Vn)∧w'.heap[w.heap.size]?=some (yL (.slice ca cn cc) (.slice da dn dc) (.slice ia inn ic) (.slice ra rn rc))∧w'.cell? ⟨B,24,none⟩=some (.pointer (some ⟨tb,0,none⟩)))):=η (fun W hW=>(newp_put (HJ.out.1.go hW) (hW.cellOf HJ.out.2.2.1) k hys.1 hys.2 HYB).mono (fun e1 w' h=>by
             obtain⟨h1,h2,h3⟩:=h
             have hp2:tput (RS.zero L e.defs e.draws V2).V k y.key y.val 0=(Vn,nn,hh):=hput
             rw[hp2]at h1 h2
             exact⟨h1,h2,h3 _ (.inl (by simp)) _ (hW.obj HJ.out.2.1),yJ (a:=⟨B,24,none⟩) (h3 B (.inr rfl)) (hW.cellOf HJ.out.2.2.1)⟩))
            have HSTEP:Hid (xG V2' k (l.drop m)=if nn=0∧hh=0 then xG Vn' k (l.drop (m+1)) else none):=η (by
             rw[qL hlm,xG]
             simp only[hrp])
            clear hy hlm hys hIR hput hrn3 hpr1 hpr2 hvn' hrp HYB
            go_wp2_with fail
            refine(HPT.out _ (by (repeat (first|exact xE0 _|assumption|refine xE1 ?_ _|refine xE2 ?_|refine xE3 ?_ _|refine xE4 ?_ (by assumption))))).mono ?_
            rintro e1 w7 ⟨rfl,hM7⟩
            have HM7:=η hM7
            clear hM7 k0 k1
            cases hz1:(nn != 0)<;>cases hz2:(hh != 0)
            ·have n0:nn=0:=by simpa using hz1
             have h0:hh=0:=by simpa using hz2
             have HNX:Hid (xG Vn' k (l.drop (m+1))=xG V1' k l):=η (by rw[← HJ.out.2.2.2.1,HSTEP.out,if_pos ⟨n0,h0⟩])
             clear n0 h0
             have hltx:m < row.n:=HLT.out
             go_wp2_with fail
             go_roundw
             case rel=>exact⟨m+1,Vn,Vn',HLT.out,by go_num,η ⟨HM7.out.1,HM7.out.2.1,HM7.out.2.2,HNX.out,HPR.out⟩⟩
             case measure=>have:=HLT.out;simp[intOf];omega
            all_goals
             have hno:¬ (nn=0∧hh=0):=fun h=>by
              have a1:=h.1
              have a2:=h.2
              simp[a1]at hz1
              try simp[a2]at hz2
             have HNO:Hid (res=none):=η (by
              have h1:=HJ.out.2.2.2.1
              rw[HSTEP.out,if_neg hno]at h1
              have h2:=HI.out.2.2.2.1
              rw[qL HLL.out,yW,← h1]at h2
              rw[HG2.out,← h2]
              rfl)
             have HXX:Hid (Ext w w7):=η (HM7.out.1.keep.ext (fun k hk=>by cases hk))
             clear hno
             go_wp2_with fail
             go_returns
             obtain rfl:=HNO.out
             exact⟨rfl,HXX.out⟩
           ·have hll:l.length=I.length:=by have:=congrArg List.length HIM.out;simpa using this.symm
            have HNX:Hid (yW V2' (k+1) (e.items.drop (k+1))=yW V 0 e.items):=η (by
             have h1:=HJ.out.2.2.2.1
             rw[List.drop_eq_nil_of_le (by have:=HRN.out;omega),xG]at h1
             have h2:=HI.out.2.2.2.1
             rw[qL HLL.out,yW,← h1]at h2
             exact h2)
            go_wp2_with fail
            go_roundw
            case rel=>exact⟨k+1,V2,V2',by omega,by go_num,η ⟨HJ.out.1,HJ.out.2.1,HJ.out.2.2.1,HNX.out,HJ.out.2.2.2.2⟩⟩
            case measure=>simp[intOf];omega
         ·have hfin:yW V 0 e.items=some V1':=by
           have h1:=HI.out.2.2.2.1
           rw[← h1,List.drop_eq_nil_of_le (by have:=hIN.out;have:=hlen.out;omega),yW]
          have HFIN:Hid (res=some (((RS.zero L e.defs e.draws V1').setR 1 4294967296).setR 10 8589935104)):=η (by rw[HG2.out,hfin];rfl)
          clear hfin
          have HA1:Hid (∀ W,Calls Tryz.prog 29 #[.int .i64 1,.int .i64 0] W fun e w'=>e=.returned (.int .u64 4294967296)∧Ext W w'):=η (fun W=>(tT 1 0 W).mono (fun e w' h=>⟨by rw[h.1];rfl,by rw[h.2];exact Ext.rfl' _⟩))
          have HA2:Hid (∀ W,Calls Tryz.prog 29 #[.int .i64 2,.int .i64 512] W fun e w'=>e=.returned (.int .u64 8589935104)∧Ext W w'):=η (fun W=>(tT 2 512 W).mono (fun e w' h=>⟨by rw[h.1];rfl,by rw[h.2];exact Ext.rfl' _⟩))
          have HRL:=η HI.out.1.rel
          have HVR:=η HI.out.2.2.2.2
          clear y2
          go_upto_region 22 with fail
          (refine zR 6 (by kernel_rfl) (by kernel_rfl) ?_;simp only[List.take_succ_cons,List.take_zero];(repeat (go_big_quiet_step ((go_at_call 29;exact Calls.grow (HA1.out _)))));refine wpQuiet_nil ?_;rintro wz ⟨nz,hz⟩;have hwq:=nz.ext;rw[← hz]at hwq;simp only[List.drop_succ_cons,List.drop_zero];clear hz)
          have HR1:=η (HRL.out.go hwq)
          have HR2:Hid (PRel [] [] w w.heap.size ((wz.setCell ⟨B,3,none⟩ (.int .u64 4294967296)).setCell ⟨B,4,none⟩ (.bool true)) B ((RS.zero L e.defs e.draws V1).setR 1 4294967296)):=η (HR1.out.setR (d:=1) (by decide) 4294967296)
          obtain⟨h0,hl0,l0,g1,g2,g3⟩:=HR1.out
          have m3:=g1.cell 3 rfl
          have m4:=g1.cell 4 rfl
          have mf:=fun i=>zA (i:=i) g1.head
          have hlz:=zE g1.head
          clear h0 hl0 g1 g2 g3
          go_upto_region 23 with fail
          generalize (wz.setCell ⟨B,3,none⟩ (.int .u64 4294967296)).setCell ⟨B,4,none⟩ (.bool true)=w9 at HR2 ⊢
          clear m3 m4 mf hlz hwq
          (refine zR 6 (by kernel_rfl) (by kernel_rfl) ?_;simp only[List.take_succ_cons,List.take_zero];(repeat (go_big_quiet_step ((go_at_call 29;exact Calls.grow (HA2.out _)))));refine wpQuiet_nil ?_;rintro wz ⟨nz,hz⟩;have hwq:=nz.ext;rw[← hz]at hwq;simp only[List.drop_succ_cons,List.drop_zero];clear hz)
          have HR3:=η (HR2.out.go hwq)
          have HR4:Hid (PRel [] [] w w.heap.size ((wz.setCell ⟨B,21,none⟩ (.int .u64 8589935104)).setCell ⟨B,22,none⟩ (.bool true)) B (((RS.zero L e.defs e.draws V1).setR 1 4294967296).setR 10 8589935104)):=η (HR3.out.setR (d:=10) (by decide) 8589935104)
          obtain⟨h0,hl0,l0,g1,g2,g3⟩:=HR3.out
          have m3:=g1.cell 21 rfl
          have m4:=g1.cell 22 rfl
          have mf:=fun i=>zA (i:=i) g1.head
          have hlz:=zE g1.head
          clear h0 hl0 g1 g2 g3
          go_wp2_with fail
          go_returns
          obtain rfl:=HFIN.out
          obtain⟨v1,v2⟩:=vt_of (σ:=((RS.zero L e.defs e.draws V1').setR 1 4294967296).setR 10 8589935104) HVR.out
          refine⟨B,rfl,V1.2,v2,?_⟩
          have v3:(((RS.zero L e.defs e.draws V1).setR 1 4294967296).setR 10 8589935104)=(((RS.zero L e.defs e.draws V1').setR 1 4294967296).setR 10 8589935104).vt V1.2:=v1
          rw[← v3]
          exact HR4.out
end
section
variable {B:Lies} {Q:List Nat} {ba a:Nat} {σ:RS} {w w' u:World}
def Turn (Q:List Nat)(w w':World):Prop:=∃ F,Keep F w w'∧∀ q∈F,q < w.heap.size∧q ∉ Q
theorem Turn.ext {w0:World}(h:Turn Q w w')(hQ:∀ q,q < w0.heap.size→q∈Q)(he:Ext w0 w):Ext w0 w':=by
 obtain⟨F,k,hF⟩:=h
 exact k.below he he.size (fun q hq=>by
  rcases Nat.lt_or_ge q w0.heap.size with h|h
  ·exact absurd (hQ q h) (hF q hq).2
  ·exact h)
theorem two_run (fuel:Int)(kb:Kept B)(h:Two2 (PM ba a σ) B Q w)(hba:ba≤w.heap.size)(hi:σ.Inv)(hD:DefsOk σ.D)(hsm:CallsSm σ)(hst:σ.steps≤1000000)(hf:fuel≤1000000)(hDl:σ.D.length≤1000000):
  Calls Tryz.prog 25 #[.pointer (some ⟨a,0,none⟩),.int .i64 fuel] w (fun e w'=>∃ (lo:Nat) (ca:Option Addr) (cn cc:Nat) (ma:Option Addr) (mn mc:Nat),e=.returned (.agg #[.int .i64 (σ.run fuel).endV.code,.int .i64 (σ.run fuel).endV.at_,.int .u64 (σ.run fuel).endV.r0,.int .i64 (σ.run fuel).endV.steps,.slice ca cn cc,.slice ma mn mc]) ∧
   Two2 (PM ba a (σ.run fuel)) B Q w'∧w.heap.size≤lo∧Turn Q w w'∧∃ F0 Z0,RunOk F0 Z0 w ba a (σ.run fuel) lo w' (.slice ca cn cc) (.slice ma mn mc)):=by
 obtain⟨F,Z,h1,h2,h3,h4,h5⟩:=h.both PM.kept kb
 refine(p_Run fuel (h1.ps hba) hi hD hsm hst hf hDl).mono ?_
 rintro e w' ⟨lo,cv,mv,rfl,hR⟩
 obtain⟨cs,c1,-,-⟩:=hR.cs
 obtain⟨rows,m1,-,-⟩:=hR.mp
 obtain⟨ca,cn,cc,rfl,-,-⟩:=(c1.rd xK).val
 obtain⟨ma,mn,mc,rfl,-,-⟩:=(m1.rd tF).val
 exact⟨lo,ca,cn,cc,ma,mn,mc,rfl,h5 _ _ (hR.ps hba).relT,hR.low.1,⟨F,hR.keep,fun q hq=>⟨h3 q hq,h2 q hq⟩⟩,F,Z,hR⟩
theorem two_step (kb:Kept B)(h:Two2 (PM ba a σ) B Q w)(hba:ba≤w.heap.size)(hg:σ.Good)(hD:DefsOk σ.D)(ho:σ.over=false→∃ p x,σ.On p x):
  Calls Tryz.prog 27 #[.pointer (some ⟨a,0,none⟩)] w (fun e w'=>e=.returned (.int .i64 σ.step.2)∧Two2 (PM ba a σ.step.1) B Q w'∧Turn Q w w'):=by
 obtain⟨F,Z,h1,h2,h3,h4,h5⟩:=h.both PM.kept kb
 refine(p_Step (h1.ps hba) hg hD ho).mono ?_
 rintro e w' ⟨rfl,hR⟩
 exact⟨rfl,h5 _ _ hR.relT,⟨F,hR.keep,fun q hq=>⟨h3 q hq,h2 q hq⟩⟩⟩
end
/-! The examples. -/
def e7:Ins:=⟨183,0,0,0,7⟩
def eE:Ins:=⟨149,0,0,0,0⟩
theorem e7_prog:yX [e7,eE]=true:=by decide +kernel
theorem eE_prog:yX [eE]=true:=by decide +kernel
theorem e7_ok:InsOk [e7,eE]:=by
 intro x hx
 simp only[List.mem_cons,List.not_mem_nil,or_false]at hx
 rcases hx with rfl|rfl
 ·constructor<;>(try constructor)<;>decide
 ·constructor<;>(try constructor)<;>decide
theorem eE_ok:InsOk [eE]:=by
 intro x hx
 simp only[List.mem_cons,List.not_mem_nil,or_false]at hx
 rcases hx with rfl
 constructor<;>(try constructor)<;>decide
def E0:EnvD:=⟨[],[],[],[]⟩
theorem envR_0 (w:World):EnvR w E0 (.slice none 0 0) (.slice none 0 0) (.slice none 0 0) (.slice none 0 0) [] :=
 ⟨Rd.nil _ _ _,(fun _ h=>by cases h),Rd.nil _ _ _,Rd.nil _ _ _,Rd.nil _ _ _,rfl,(fun i row l h=>by simp at h),(fun _ h=>by cases h)⟩
def ex0 (L:List Ins)(A:Areas):RS:=((RS.zero L [] [] (A,[])).setR 1 4294967296).setR 10 8589935104
theorem new_0 {L:List Ins}(hp:yX L=true):RS.new L E0=some (ex0 L (xS [])):=by
 unfold RS.new
 rw[if_neg (by rw[hp];simp[E0])]
 unfold ex0
 generalize hA:xS E0.ctx=A
 have hA2:xS []=A:=hA
 rw[hA2]
 have:rnew A E0.defs=some (A,[]):=by unfold rnew;rw[if_pos (by decide)];rfl
 rw[this]
 rfl
theorem ex7 (A:Areas):((ex0 [e7,eE] A).run 10).endV.code=0∧((ex0 [e7,eE] A).run 10).endV.at_=1∧((ex0 [e7,eE] A).run 10).endV.r0=7∧((ex0 [e7,eE] A).run 10).endV.steps=2 :=
 ⟨by kernel_rfl,by kernel_rfl,by kernel_rfl,by kernel_rfl⟩
theorem exE (A:Areas):((ex0 [eE] A).run 10).endV.code=110∧((ex0 [eE] A).run 10).endV.at_=0∧((ex0 [eE] A).run 10).endV.r0=0∧((ex0 [eE] A).run 10).endV.steps=0 :=
 ⟨by kernel_rfl,by kernel_rfl,by kernel_rfl,by kernel_rfl⟩
theorem ex_facts {L:List Ins}(hp:yX L=true)(hok:InsOk L):(ex0 L (xS [])).Inv∧DefsOk (ex0 L (xS [])).D∧CallsSm (ex0 L (xS []))∧(ex0 L (xS [])).steps≤1000000∧(ex0 L (xS [])).D.length≤1000000:=by
 obtain⟨h1,h2,h3,h4,h5,h6,h7,h8,h9⟩:=new_inv (new_0 hp) hok (fun _ h=>by cases h) (by decide)
 exact⟨h1,(fun d hd=>by cases hd),(fun c hc=>by cases hc),by show (0:Int)≤1000000;decide,by show (0:Nat)≤1000000;decide⟩
set_option maxRecDepth 20000 in
set_option maxHeartbeats 4000000 in
theorem l11_shown (w:World):Calls Tryz.prog 21 #[] w fun e w'=>e=.returned (.bool true)∧Ext w w':=by
 have HF7:=η (ex_facts e7_prog e7_ok)
 have HFE:=η (ex_facts eE_prog eE_ok)
 go_enter Tryz.func21,Tryz.ntmps21
 go_wp2_with fail
 refine(p_New _ _ _ _ _ [] [e7,eE] E0 _ ((Own.lit gJ (base:=0) (w:=w) [e7,eE] rfl rfl (Nat.zero_le _) (by simp[maxLen])).rd gJ) (by decide) e7_ok (envR_0 _) (by decide) (by decide)).mono ?_
 rintro e w1 hA
 rw[new_0 e7_prog]at hA
 obtain⟨B1,rfl,hP1⟩:=hA
 have HP1:=η hP1
 clear hP1
 go_wp2_with fail
 refine(p_New _ _ _ _ _ [] [eE] E0 _ ((Own.lit gJ (base:=0) (w:=w1) [eE] rfl rfl (Nat.zero_le _) (by simp[maxLen])).rd gJ) (by decide) eE_ok (envR_0 _) (by decide) (by decide)).mono ?_
 rintro e w2 hA
 rw[new_0 eE_prog]at hA
 obtain⟨B2,rfl,hP2⟩:=hA
 have hs1:=HP1.out.keep.size
 have hs2:=hP2.keep.size
 have HT:=η (Two2.made (B:=PM _ B2 _) PM.kept HP1.out.relT ((Ext.rfl' w1).alloc' _) hP2.relT (fun j hj=>by cases hj))
 have HE2:Hid (Ext w w2):=η (by
  have h1:Ext w w1:=Ext.trans' ((Ext.rfl' w).alloc' _) (HP1.out.keep.ext (fun _ h=>by cases h))
  exact h1.trans' (Ext.trans' ((Ext.rfl' w1).alloc' _) (hP2.keep.ext (fun _ h=>by cases h))))
 have HQ:Hid (∀ q,q < w.heap.size→q∈List.range (w.alloc (.cells #[.int .u8 183,.int .u8 0,.int .u8 0,.int .i16 0,.int .i32 7,.int .u8 149,.int .u8 0,.int .u8 0,.int .i16 0,.int .i32 0] 58)).heap.size):=η (fun q hq=>List.mem_range.2 (by simp;omega))
 clear hP2
 go_wp2_with fail
 refine(two_run 10 PM.kept HT.out (Nat.le_trans hs1 (by simp at hs2;omega)) HF7.out.1 HF7.out.2.1 HF7.out.2.2.1 HF7.out.2.2.2.1 (by decide) HF7.out.2.2.2.2).mono ?_
 rintro e w3 ⟨lo,ca,cn,cc,ma,mn,mc,rfl,hT3,hlo,hU3,-⟩
 have HT3:=η hT3
 have HE3:=η (hU3.ext HQ.out HE2.out)
 have hs23:w2.heap.size≤w3.heap.size:=by obtain⟨F,k,_⟩:=hU3;exact k.size
 have hs3:=HE3.out.size
 obtain⟨c1,c2,c3,c4⟩:=ex7 (xS [])
 rw[c1,c2,c3,c4]
 clear hT3 hU3 c1 c2 c3 c4 hlo
 go_wp2_with fail
 refine(two_run 10 PM.kept HT3.out.symm (Nat.le_trans hs2 hs23) HFE.out.1 HFE.out.2.1 HFE.out.2.2.1 HFE.out.2.2.2.1 (by decide) HFE.out.2.2.2.2).mono ?_
 rintro e w4 ⟨lo2,ca2,cn2,cc2,ma2,mn2,mc2,rfl,hT4,hlo,hU4,-⟩
 have HE4:=η (hU4.ext HQ.out HE3.out)
 obtain⟨c1,c2,c3,c4⟩:=exE (xS [])
 rw[c1,c2,c3,c4]
 clear hT4 hU4 c1 c2 c3 c4 hlo
 go_wp2_with fail
 go_returns
 exact⟨rfl,by have:=HE4.out;(repeat (first|exact xE0 _|assumption|refine xE1 ?_ _|refine xE2 ?_|refine xE3 ?_ _|refine xE4 ?_ (by assumption)))⟩
def L0:List Ins:=[⟨183,0,0,0,0⟩,⟨21,0,0,1,0⟩,⟨183,0,0,0,0⟩,⟨149,0,0,0,0⟩]
end Go.Proofs.YtppefchjoodgnaaGreat
namespace Go.Proofs.YtppefchjoodgnaaGreat
def Conn (A:Nat→List Int)(s k:Nat):Prop:=∀ S:Nat→Prop,S s→(∀ (i j:Nat),S i→(j:Int)∈A i→S j)→S k
section
variable {A:Nat→List Int}
def Back (A:Nat→List Int)(i:Nat):Prop:=∃ j:Nat,(j:Int)∈A i∧Conn A j i
structure Shut (A:Nat→List Int)(wh:List Int):Prop where
 col:∀ (u:Nat) (x:Int),wh[u]?=some x→x=0∨x=1∨x=2
 on:∀ u t:Nat,wh[u]?=some 2→(t:Int)∈A u→wh[t]?=some 2
 no:∀ u:Nat,wh[u]?=some 2→¬ Back A u
end
end Go.Proofs.YtppefchjoodgnaaGreat
namespace Go.Proofs.YtppefchjoodgnaaGreat
open Go.RowKit
section
variable {A:Nat→List Int} {s n:Nat} {M:List Bool} {T:List Int}
end
end Go.Proofs.YtppefchjoodgnaaGreat
namespace Go.Proofs.YtppefchjoodgnaaGreat
open Go.RowKit
end Go.Proofs.YtppefchjoodgnaaGreat
namespace Go.Proofs.YtppefchjoodgnaaGreat
open Go.RowKit
end Go.Proofs.YtppefchjoodgnaaGreat
namespace Go.Proofs.YtppefchjoodgnaaGreat
open Go.RowKit
end Go.Proofs.YtppefchjoodgnaaGreat
namespace Go.Proofs.YtppefchjoodgnaaGreat
open Go.RowKit
end Go.Proofs.YtppefchjoodgnaaGreat
namespace Go.Proofs.YtppefchjoodgnaaGreat
open Go.RowKit
end Go.Proofs.YtppefchjoodgnaaGreat
namespace Go.Proofs.YtppefchjoodgnaaGreat
def InS (x y:Nat):Prop:=∀ j,x.testBit j=true→y.testBit j=true
section
variable {R W:Nat→Nat} {A:Nat→List Int}
def Both (A:Nat→List Int)(a b:List Nat):Prop:=∀ i t x y:Nat,(t:Int)∈A i→a[t]?=some x→b[i]?=some y→InS x y
end
end Go.Proofs.YtppefchjoodgnaaGreat
namespace Go.Proofs.YtppefchjoodgnaaGreat
section
variable {R W:Nat→Nat} {A:Nat→List Int}
end
end Go.Proofs.YtppefchjoodgnaaGreat
namespace Go.Proofs.YtppefchjoodgnaaGreat
open Go.RowKit
section
variable {w w':World} {base:Nat} {vs:List Value} {F:List (List Int)}
end
section
variable {w6 wr w8:World} {F0:List Nat} {base:Nat} {vF:Value} {vall vs:List Value} {Fall:List (List Int)}
end
section
variable {A:Nat→List Int} {n m:Nat} {xs:List Int} {F:List (List Int)}
end
section
variable {σ:RS} {R:Nat→Int} {S:Nat→Bool} {A B:Nat→Prop} {x:Ins} {k:Wh}
end
section
variable {σ:RS} {R:Nat→Int} {S:Nat→Bool}
end
theorem lookup_some {β:Type}:∀ (M:List (Int×β)) (n:Int) (A:β),M.lookup n=some A→∃ q∈M,q.2=A
 | [],n,A,h=>by simp at h
 | (k,B) :: M,n,A,h=>by
  rw[List.lookup_cons]at h
  split at h
  ·cases h;exact⟨(k,B),List.mem_cons_self,rfl⟩
  ·obtain⟨q,h1,h2⟩:=lookup_some M n A h
   exact⟨q,List.mem_cons_of_mem _ h1,h2⟩
theorem gL {M:Areas}(h:BytesOk M)(p s n:Int):BytesOk (yP M p s n).1:=by
 unfold yP
 split
 ·cases hm:kS M p s with
  | none=>exact h
  | some z =>
   obtain⟨A,o⟩:=z
   simp only
   split
   ·exact h
   ·have hA:∀ x∈A.bytes,0≤x∧x≤255:=by
     unfold kS at hm
     cases hl:M.lookup (p / 4294967296) with
     | none=>rw[hl]at hm;cases hm
     | some A' =>
      rw[hl]at hm
      simp only at hm
      split at hm
      ·cases hm
      ·cases hm
       obtain⟨q,h1,h2⟩:=lookup_some M _ _ hl
       rw[← h2]
       exact h q h1
    intro q hq x hx
    simp only[qY,List.mem_map]at hq
    obtain⟨r,hr,rfl⟩:=hq
    split at hx
    ·simp only[Ar.write,over,List.mem_append]at hx
     rcases hx with (hx|hx)|hx
     ·exact hA x (List.mem_of_mem_take hx)
     ·exact tQ n _ x hx
     ·exact hA x (List.mem_of_mem_drop hx)
    ·exact h r hr x hx
 ·exact h
theorem uJ {M:Areas}(h:BytesOk M)(n:Int){b:List Int}(hb:∀ x∈b,0≤x∧x≤255)(bl fx:Bool):BytesOk (yG M n b bl fx).1:=by
 unfold yG
 split
 ·exact h
 ·split
  ·exact h
  ·intro q hq x hx
   rcases List.mem_append.1 hq with hq|hq
   ·exact h q hq x hx
   ·rw[List.mem_singleton]at hq
    subst hq
    exact hb x hx
theorem mputs_bytes {M:Areas}(h:BytesOk M)(a:Int)(vs:List Int):∀ k,BytesOk (pH M a vs k)
 | 0=>h
 | k+1=>gL (mputs_bytes h a vs k) _ _ _
theorem rput_bytes {V:Areas×List TM}(h:BytesOk V.1)(i:Int)(ks:List Int){vs:List Int}(hv:∀ x∈vs,0≤x∧x≤255)(fl:Int):BytesOk (rput V i ks vs fl).1.1:=by
 unfold rput
 (repeat' split)<;>first|exact h|exact mputs_bytes h _ _ _|exact uJ h _ hv _ _
section
variable {σ:RS}
theorem acts_bytes (h:BytesOk σ.V.1)(c:Cl)(hc:∀ x∈c.val,0≤x∧x≤255):BytesOk (σ.acts c).1.1:=by
 unfold RS.acts
 (repeat' split)<;>first|exact h|exact rput_bytes h _ _ hc _
theorem call_bytes (h:BytesOk σ.V.1)(x:Ins):BytesOk (σ.call x).1.V.1:=by
 unfold RS.call
 (repeat' split)<;>first|exact h|exact acts_bytes h _ (told_val h x.imm)
theorem jQ {c:Prop}[Decidable c]{a b:RS×Int×Int}(ha:BytesOk a.1.V.1)(hb:BytesOk b.1.V.1):BytesOk (if c then a else b).1.V.1:=by split<;>assumption
theorem pR {c:Prop}[Decidable c]{a b:RS×Int}(ha:BytesOk a.1.V.1)(hb:BytesOk b.1.V.1):BytesOk (if c then a else b).1.V.1:=by split<;>assumption
theorem does_bytes (h:BytesOk σ.V.1)(x:Ins)(k:Wh):BytesOk (σ.does x k).1.V.1:=by
 unfold RS.does
 refine jQ (pR h h) (jQ (jQ h h) (jQ ?_ (jQ (jQ h h) (jQ (pR h (pR h h)) (jQ (pR h (pR (pR h (gL h _ _ _)) (gL h _ _ _))) (jQ h (jQ (jQ h h) (jQ (call_bytes h x) (jQ (jQ h h) h)))))))))
 cases σ.L[σ.place.toNat+1]?<;>exact h
theorem step_bytes (h:BytesOk σ.V.1):BytesOk σ.step.1.V.1:=by
 unfold RS.step
 split
 ·exact h
 ·split
  ·exact h
  ·split
   ·exact does_bytes h _ _
   ·exact does_bytes h _ _
end
section
variable {σ:RS} {R:Nat→Int} {S:Nat→Bool}
end
section
variable {w w' w0 w1 wb:World} {ba bb a b:Nat} {σ τ:RS} {Z Zb Q:List Nat}
end
theorem rfill_bytes {i:Int}{val:Nat}:∀ (k:Nat) {M M':Areas},BytesOk M→qA M i val k=some M'→BytesOk M'
 | 0,M,M',h,e=>by have:M=M':=by simpa[qA]using e
                  subst this;exact h
 | k+1,M,M',h,e=>by
  rw[qA,Option.bind_eq_some_iff]at e
  obtain⟨M1,h1,h2⟩:=e
  split at h2
  ·cases h2
   exact uJ (rfill_bytes k h h1) _ (fun x hx=>by rw[List.eq_of_mem_replicate hx];decide) _ _
  ·cases h2
theorem rnews_bytes {ds:List TDef}:∀ (k:Nat) {M:Areas} {V:Areas×List TM},BytesOk M→kW M ds k=some V→BytesOk V.1
 | 0,M,V,h,e=>by have:(M,[])=V:=by simpa[kW]using e
                 subst this;exact h
 | k+1,M,V,h,e=>by
  rw[kW,Option.bind_eq_some_iff]at e
  obtain⟨V1,h1,h2⟩:=e
  rw[Option.bind_eq_some_iff]at h2
  obtain⟨d,_,h3⟩:=h2
  have hb:=rnews_bytes k h h1
  unfold rnew1 at h3
  split at h3
  ·cases h3;exact hb
  ·rw[Option.map_eq_some_iff]at h3
   obtain⟨M2,h4,h5⟩:=h3
   subst h5
   exact rfill_bytes _ hb h4
theorem rnew_bytes {M:Areas}{ds:List TDef}{V:Areas×List TM}(h:BytesOk M)(e:rnew M ds=some V):BytesOk V.1:=by
 unfold rnew at e
 split at e
 ·exact rnews_bytes _ h e
 ·cases e
theorem putIts_bytes {i:Nat}:∀ (l:List (List Int×List Int)) {V V':Areas×List TM},(∀ p∈l,∀ x∈p.2,0≤x∧x≤255)→BytesOk V.1→xG V i l=some V'→BytesOk V'.1
 | [],V,V',_,h,e=>by have:V=V':=by simpa[xG]using e
                     subst this;exact h
 | p :: l,V,V',hl,h,e=>by
  rw[xG]at e
  split at e
  ·exact putIts_bytes l (fun q hq=>hl q (List.mem_cons_of_mem _ hq)) (rput_bytes h _ _ (hl p List.mem_cons_self) _) e
  ·cases e
theorem putAll_bytes:∀ (ls:List (List (List Int×List Int))) (i:Nat) {V V':Areas×List TM},(∀ l∈ls,∀ p∈l,∀ x∈p.2,0≤x∧x≤255)→BytesOk V.1→yW V i ls=some V'→BytesOk V'.1
 | [],i,V,V',_,h,e=>by have:V=V':=by simpa[yW]using e
                       subst this;exact h
 | l :: ls,i,V,V',hl,h,e=>by
  rw[yW,Option.bind_eq_some_iff]at e
  obtain⟨V1,h1,h2⟩:=e
  exact putAll_bytes ls (i+1) (fun q hq=>hl q (List.mem_cons_of_mem _ hq)) (putIts_bytes l (hl l List.mem_cons_self) h h1) h2
theorem new_bytes {L:List Ins}{e:EnvD}{σ:RS}(h:RS.new L e=some σ)(hc:∀ x∈e.ctx,0≤x∧x≤255)(hi:∀ l∈e.items,∀ p∈l,∀ x∈p.2,0≤x∧x≤255):BytesOk σ.V.1:=by
 unfold RS.new at h
 split at h
 ·cases h
 ·rw[Option.bind_eq_some_iff]at h
  obtain⟨V,h1,h2⟩:=h
  rw[Option.map_eq_some_iff]at h2
  obtain⟨V',h3,h4⟩:=h2
  subst h4
  refine putAll_bytes _ _ hi (rnew_bytes ?_ h1) h3
  unfold xS
  exact uJ (uJ (fun q hq=>by cases hq) _ hc _ _) _ small_512 _ _
section
variable {σ:RS}
end
section
variable {σ:RS}
/-! No error is the one that tells of fuel. -/
theorem n0:(0:Int)≠111:=by decide
theorem n1:(1:Int)≠111:=by decide
def isD (id:Int):Bool:=id == 5 || id == 7 || id == 8
def cntD:List Cl→Nat
 | []=>0
 | c :: cs=>(if isD c.id then 1 else 0)+cntD cs
def DrawnOk (ds:List Int)(cs:List Cl):Prop:=∀ (j:Nat) c,cs[j]?=some c→isD c.id=true→cntD (cs.take j) < ds.length∧(c.id=5→ds[cntD (cs.take j)]?=some c.ret)
structure StayI (ds:List Int)(σ:RS):Prop where
 r10:σ.R 10=8589935104
 s10:σ.S 10=true
 code:σ.code≠111
 dr:σ.dr=ds.drop (cntD σ.calls)
 ok:DrawnOk ds σ.calls
/-! In two parts as at once. -/
theorem step_le1 (hi:σ.Inv):σ.step.1.steps≤σ.steps+1:=by
 obtain⟨x,hon⟩:=hi.on
 unfold RS.step
 by_cases h:σ.over=true
 ·rw[if_pos h];show σ.steps≤σ.steps+1;omega
 rw[if_neg h,hon.code]
 simp only
 by_cases he:(σ.does x (zL x)).2.2≠0
 ·rw[if_pos he];show (σ.does x (zL x)).1.steps≤σ.steps+1;rw[kB];omega
 ·rw[if_neg he];show (σ.does x (zL x)).1.steps+1≤σ.steps+1;rw[kB];omega
end
structure NewF (e:EnvD)(σ:RS):Prop where
 inv:σ.Inv
 u8:BytesOk σ.V.1
 defs:DefsOk σ.D
 sm:CallsSm σ
 D:σ.D=e.defs
 dl:σ.D.length≤1000000
 steps:σ.steps=0
 over:σ.over=false
 stay:StayI e.draws σ
theorem new_facts {L:List Ins}{e:EnvD}{σ:RS}(h:RS.new L e=some σ)(hok:InsOk L)(hd:U64s e.draws)(hl:e.draws.length≤1000000)(hc:∀ x∈e.ctx,0≤x∧x≤255)(hi:∀ l∈e.items,∀ p∈l,∀ x∈p.2,0≤x∧x≤255):NewF e σ:=by
 obtain⟨h1,h2,h3,h4,h5,h6,h7,h8,h9⟩:=new_inv h hok hd hl
 refine⟨h1,new_bytes h hc hi,?_,(fun c hcc=>by rw[h8]at hcc;cases hcc),h3,by rw[h3];omega,h6,h5,?_⟩
 ·rw[h3]
  unfold RS.new at h
  split at h
  ·cases h
  rw[Option.bind_eq_some_iff]at h
  obtain⟨V,g1,g2⟩:=h
  unfold rnew at g1
  split at g1
  ·rename_i hr
   intro d hd'
   have:=(pV d).1 ((right_iff hr).2 d hd')
   rcases this.1 with h|h<;>omega
  ·cases g1
 ·unfold RS.new at h
  split at h
  ·cases h
  rw[Option.bind_eq_some_iff]at h
  obtain⟨V,g1,g2⟩:=h
  rw[Option.map_eq_some_iff]at g2
  obtain⟨V',g3,rfl⟩:=g2
  exact⟨rfl,rfl,by show (0:Int)≠111;decide,rfl,fun j c hj=>by rw[show (((RS.zero L e.defs e.draws V').setR 1 4294967296).setR 10 8589935104).calls=[] from rfl]at hj;simp at hj⟩
end Go.Proofs.YtppefchjoodgnaaGreat
