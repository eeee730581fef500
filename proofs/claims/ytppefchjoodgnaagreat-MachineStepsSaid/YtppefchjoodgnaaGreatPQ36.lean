import Derived.Test.YtppefchjoodgnaaGreatPQ35
import Derived.Deep.LoopGhost
import Derived.Test.YtppefchjoodgnaaGreatPQ34
import Derived.Test.YtppefchjoodgnaaGreatPQ19
set_option linter.unusedSimpArgs false
set_option linter.unusedVariables false
namespace Go.Proofs.YtppefchjoodgnaaGreat
open Go.RowKit
section
variable {F0 Z0:List Nat} {wf w w':World} {base mb:Nat} {σ:RS}
theorem PS.root (h:PS F0 Z0 wf base w mb σ):∃ F Z,(∀ j∈F,j < w.heap.size∧(j∈F0∨wf.heap.size≤j))∧(∀ j∈Z,j < w.heap.size∧(j∈Z0∨wf.heap.size≤j))∧(∀ w1,Ext w w1→PS F Z w1 base w1 mb σ)∧base≤wf.heap.size∧Keep F0 wf w:=by
 have hb:base≤wf.heap.size:=by obtain⟨_,_,_,hb,_⟩:=h;exact hb
 obtain⟨F,Z,h1,h2,h3,h4⟩:=h.relT.root PM.kept
 refine⟨F,Z,h2,h3,fun w1 he=>RelT.ps ?_ (Nat.le_trans hb (Nat.le_trans h.keep.size he.size)),hb,h.keep⟩
 obtain⟨k,f,z,g1,g2,g3⟩:=h1
 have hl:=PM.kept.lt g1
 exact⟨Keep.rfl' _ _,f,z,PM.kept.ext g1 he,fun j hj=>(g2 j hj).imp id (fun h=>by have:=hl.1 j hj;omega),fun j hj=>(g3 j hj).imp id (fun h=>by have:=hl.2 j hj;omega)⟩
structure OutAt (wr w:World)(q:Nat)(τ:RS)(ca:Option Addr)(cn cc:Nat)(ma:Option Addr)(mn mc:Nat)(cs:List CB)(rows:List SV):Prop where
 ext:Ext wr w
 box:w.heap[q]?=some (outObj (.int .i64 τ.endV.code) (.int .i64 τ.endV.at_) (.int .u64 τ.endV.r0) (.int .i64 τ.endV.steps) (.slice ca cn cc) (.slice ma mn mc))
 own:Own w (q+1) 76 6 CB.enc (.slice ca cn cc) cs
 each:∀ c∈cs,CAt w (q+1) c
 row:Own w (q+1) 34 1 encW (.slice ma mn mc) rows
 rat:RowsAt q (.slice ma mn mc) w rows (fun i=>pB τ.V (i:Int))
theorem ne_u8_called:5≠76:=by decide
theorem tH:29≠76:=by decide
theorem ne_u8_rows:5≠34:=by decide
theorem ne_u64_rows:29≠34:=by decide
theorem ne_called_rows:76≠34:=by decide
theorem CAt.grown {lo b sz:Nat}{e:TypeId}{α:Type}{enc:α→List Value}{xs:List α}{v:Value}{x:CB}(h:CAt w lo x)(ho:Own w b e sz enc v xs)(h1:5≠e)(h2:29≠e)(k:Keep v.ownBlock.toList w w'):CAt w' lo x :=
 ⟨h.key.keep k (fun j hj hj'=>h.key.type_ne ho h1 hj (by simpa using hj')),h.val.keep k (fun j hj hj'=>h.val.type_ne ho h1 hj (by simpa using hj')),h.n.keep k (fun j hj hj'=>h.n.type_ne ho h2 hj (by simpa using hj'))⟩
theorem OutAt.pushc {wr wc w5:World}{q:Nat}{τ:RS}{a2 a5:Option Addr}{k c2 c5:Nat}{cs2:List CB}{x':CB}{o:Obj}(h:OutAt wr w q τ a2 k c2 none 0 0 cs2 [])(he:Ext w wc)(hc:CAt wc (q+1) x')(hq:wr.heap.size≤q)(hg:(wc.alloc o).grownBy w5 (Value.slice a2 k c2).ownBlock)(hown:Own w5 (q+1) 76 6 CB.enc (.slice a5 (k+1) c5) (cs2++[x'])):
  OutAt wr (w5.setCell ⟨q,4,none⟩ (.slice a5 (k+1) c5)) q τ a5 (k+1) c5 none 0 0 (cs2++[x']) []:=by
 have hA:Ext w (wc.alloc o):=he.alloc' o
 have hg2:=yB hg
 have hk:Keep (Value.slice a2 k c2).ownBlock.toList w w5:=(Keep.of_ext hA).trans hg2
 have hlo:∀ j∈(Value.slice a2 k c2).ownBlock.toList,q+1≤j:=fun j hj=>(h.own.lt (by simpa using hj)).1
 have hE5:Ext wr w5:=hk.below h.ext h.ext.size (fun j hj=>by have:=hlo j hj;omega)
 have hbx:=hk.obj h.box (fun hj=>by have:=hlo _ hj;omega)
 have hlt:(⟨q,4,none⟩:Addr).block < q+1:=Nat.lt_succ_self q
 refine⟨hE5.setCell hq _,?_,hown.other hlt _,fun c hc'=>?_,Own.nil _ _ _ _ _,(fun j row hj=>by simp at hj)⟩
 ·have:=heap_setCell_same w5 q 4 _ _ (.slice a5 (k+1) c5) hbx
  rw[this]
  simp
 ·refine CAt.set ?_ hlt _
  rcases List.mem_append.1 hc' with hm|hm
  ·exact((h.each c hm).ext hA).grown (h.own.ext hA) ne_u8_called tH hg2
  ·rw[List.mem_singleton]at hm
   subst hm
   exact(hc.ext ((Ext.rfl' wc).alloc' o)).grown (h.own.ext hA) ne_u8_called tH hg2
theorem OutAt.pushm {wr w5 w8:World}{q:Nat}{τ:RS}{a2 ma la:Option Addr}{n2 c2 j mc lc:Nat}{cs2:List CB}{rows:List SV}{r:SV}(h:OutAt wr w q τ a2 n2 c2 ma j mc cs2 rows)(h5:Ext w w5)(k8:Keep (Value.slice ma j mc).ownBlock.toList w5 w8)(hq:wr.heap.size≤q)(hO8:Own w8 (q+1) 34 1 encW (.slice la (j+1) lc) (rows++[r]))
  (hR:RowsAt q (.slice la (j+1) lc) (w8.setCell ⟨q,5,none⟩ (.slice la (j+1) lc)) (rows++[r]) (fun i=>pB τ.V (i:Int))):OutAt wr (w8.setCell ⟨q,5,none⟩ (.slice la (j+1) lc)) q τ a2 n2 c2 la (j+1) lc cs2 (rows++[r]):=by
 have hlo:∀ x∈(Value.slice ma j mc).ownBlock.toList,q+1≤x:=fun x hx=>(h.row.lt (by simpa using hx)).1
 have hE5:=h.ext.trans' h5
 have hE8:Ext wr w8:=k8.below hE5 hE5.size (fun x hx=>by have:=hlo x hx;omega)
 have hbx:=k8.obj (h5.obj h.box) (fun hj=>by have:=hlo _ hj;omega)
 have hlt:(⟨q,5,none⟩:Addr).block < q+1:=Nat.lt_succ_self q
 refine⟨hE8.setCell hq _,?_,((h.own.ext h5).keep k8 (fun x hx hx'=>(h.own.ext h5).type_ne (h.row.ext h5) ne_called_rows hx (by simpa using hx'))).other hlt _,fun c hc=>(((h.each c hc).ext h5).grown (h.row.ext h5) ne_u8_rows ne_u64_rows k8).set hlt _,hO8.other hlt _,hR⟩
 have:=heap_setCell_same w8 q 5 _ _ (.slice la (j+1) lc) hbx
 rw[this]
 simp
theorem OutAt.runOk {wo wr:World}{F Z:List Nat}{q:Nat}{τ:RS}{ca ma:Option Addr}{cn cc mn mc:Nat}{cs:List CB}{rows:List SV}(h:OutAt wo wr q τ ca cn cc ma mn mc cs rows)(hq:wo.heap.size≤q)(hP:PS F Z (w.alloc endZ) base wo mb τ)(hF:∀ j∈F,j < w.heap.size∧(j∈F0∨wf.heap.size≤j))(hZ:∀ j∈Z,j < w.heap.size∧(j∈Z0∨wf.heap.size≤j))(hkw:Keep F0 wf w)(hl:rows.length=τ.D.length)(hcs:cs.map (·.c)=τ.calls)(v0 v1 v2 v3 v4 v5:Value):
  RunOk F0 Z0 wf base mb τ wo.heap.size ((((((wr.setCell ⟨w.heap.size,0,none⟩ v0).setCell ⟨w.heap.size,1,none⟩ v1).setCell ⟨w.heap.size,2,none⟩ v2).setCell ⟨w.heap.size,3,none⟩ v3).setCell ⟨w.heap.size,4,none⟩ v4).setCell ⟨w.heap.size,5,none⟩ v5) (.slice ca cn cc) (.slice ma mn mc):=by
 have hsz:w.heap.size+1=(w.alloc endZ).heap.size:=by simp
 have hkk:∀ W:World,Keep [w.heap.size] W ((((((W.setCell ⟨w.heap.size,0,none⟩ v0).setCell ⟨w.heap.size,1,none⟩ v1).setCell ⟨w.heap.size,2,none⟩ v2).setCell ⟨w.heap.size,3,none⟩ v3).setCell ⟨w.heap.size,4,none⟩ v4).setCell ⟨w.heap.size,5,none⟩ v5):=fun W=>((((((Keep.rfl' _ _).setCell (by simp) v0).setCell (by simp) v1).setCell (by simp) v2).setCell (by simp) v3).setCell (by simp) v4).setCell (by simp) v5
 have hk:=hkk wr
 have hws:=hP.keep.size
 have hfs:=hkw.size
 have hes:=h.ext.size
 have hblt:w.heap.size < q+1:=by omega
 obtain⟨k0,f,z,g1,g2,g3⟩:=hP.relT
 have hlt:=PM.kept.lt g1
 have hf:∀ j∈f,(j∈F0∨wf.heap.size≤j)∧j < wo.heap.size:=fun j hj=>⟨(g2 j hj).elim (fun h=>(hF j h).2) (fun h=>.inr (by omega)),hlt.1 j hj⟩
 have hz:∀ j∈z,(j∈Z0∨wf.heap.size≤j)∧j < wo.heap.size:=fun j hj=>⟨(g3 j hj).elim (fun h=>(hZ j h).2) (fun h=>.inr (by omega)),hlt.2 j hj⟩
 refine⟨?_,⟨f,z,PM.kept.keep (PM.kept.ext g1 h.ext) hk (fun j hj=>?_) (fun j hj=>?_),hf,hz⟩,⟨by omega,Nat.le_trans hes hk.size⟩,⟨cs,(h.own.chain6 hblt v0 v1 v2 v3 v4 v5).mono (by omega),hcs,fun c hc=>((h.each c hc).chain6 hblt v0 v1 v2 v3 v4 v5).mono (by omega)⟩,⟨rows,(h.row.chain6 hblt v0 v1 v2 v3 v4 v5).mono (by omega),hl,fun j row hj Fu u hFu ku=>?_⟩⟩
 ·have a1:Keep F0 wf (w.alloc endZ):=hkw.through (F:=[]) (Keep.of_ext ((Ext.rfl' w).alloc' _)) (fun _ hj=>by cases hj)
  have a2:Keep F0 wf wo:=a1.through k0 (fun j hj=>(hF j hj).2)
  have a3:Keep F0 wf wr:=a2.through (F:=[]) (Keep.of_ext h.ext) (fun _ hj=>by cases hj)
  exact a3.through hk (fun j hj=>by rw[List.mem_singleton]at hj;subst hj;exact .inr hfs)
 ·rw[List.mem_singleton]
  rintro rfl
  exact(g2 _ hj).elim (fun h=>by have:=(hF _ h).1;omega) (fun h=>by omega)
 ·rw[List.mem_singleton]
  rintro rfl
  exact(g3 _ hj).elim (fun h=>by have:=(hZ _ h).1;omega) (fun h=>by omega)
 ·obtain⟨A,B,a1,a2,a3,a4⟩:=(h.rat.chain6 (x:=w.heap.size) (by omega) v0 v1 v2 v3 v4 v5) j row hj
  exact a4 Fu u (fun x hx=>.inl (by have:=hFu x hx;omega)) ku
theorem step_le (hi:σ.Inv):σ.step.1.steps≤σ.steps+1:=by
 obtain⟨x,hon⟩:=hi.on
 unfold RS.step
 by_cases h:σ.over=true
 ·rw[if_pos h];show σ.steps≤_;omega
 rw[if_neg h,hon.code]
 simp only
 by_cases he:(σ.does x (zL x)).2.2≠0
 ·rw[if_pos he];show (σ.does x (zL x)).1.steps≤_;rw[kB];omega
 ·rw[if_neg he];show (σ.does x (zL x)).1.steps+1≤_;rw[kB];exact Int.le_refl _
set_option maxRecDepth 20000 in
set_option maxHeartbeats 20000000 in
theorem p_Run (fuel:Int)(h:PS F0 Z0 wf base w mb σ)(hi:σ.Inv)(hD:DefsOk σ.D)(hsm:CallsSm σ)(hst:σ.steps≤1000000)(hf:fuel≤1000000)(hDl:σ.D.length≤1000000):
  Calls Tryz.prog 25 #[.pointer (some ⟨mb,0,none⟩),.int .i64 fuel] w (RunP F0 Z0 wf base mb (σ.run fuel)):=by
 have HI:=η hi
 have HSM:=η hsm
 have HDD:=η hD
 have hlt:=h.lt
 have hsz:=h.keep.size
 obtain⟨F,Z,hF,hZ,hroot,hbw,hkw⟩:=h.root
 have HF:=η hF
 have HZ:=η hZ
 have HKW:=η hkw
 have HM:=η (hroot (w.alloc endZ) ((Ext.rfl' w).alloc' _))
 have HRB:Hid (∀ u σ',PS F Z (w.alloc endZ) base u mb σ'→u.heap[w.heap.size]?=some endZ∧w.heap.size+1≤u.heap.size):=η (fun u σ' hu=>⟨hu.keep.obj (zD w endZ rfl) (fun hq=>by have:=(hF _ hq).1;omega),by have:=hu.keep.size;simpa using this⟩)
 clear h hi hF hZ hroot hsm hD hkw
 obtain⟨τ,hτ⟩:∃ t,σ.run fuel=t:=⟨_,rfl⟩
 rw[hτ]
 have HTAU:=η hτ
 clear hτ
 go_enter Tryz.func25,Tryz.ntmps25
 go_wp2_with fail
 go_loopg [24] ((fuel - σ.steps).toNat+1) (fun gk s7 wr=>∃ σ',Hid (PS F Z (w.alloc endZ) base wr mb σ'∧σ'.Inv∧σ'.run fuel=σ.run fuel∧(fuel - σ'.steps).toNat+(if σ'.over then 0 else 1)≤gk∧σ'.D=σ.D∧CallsSm σ'∧σ'.steps≤1000000))
 case atStart=>exact⟨σ,η ⟨HM.out,HI.out,rfl,by split<;>omega,rfl,HSM.out,hst⟩⟩
 case round =>
  obtain⟨σ',HR⟩:=hrel
  obtain⟨hM,hI,hrun,hgk,hDD,hSM,hst6⟩:=HR.out
  have HST6:=η hst6
  have hdn8:Hid (σ'.D.length≤1000000):=η (by rw[hDD];exact hDl)
  have HDS:=η hDD
  have HDK:Hid (DefsOk σ'.D):=η (by rw[hDD];exact HDD.out)
  have HM1:=η hM
  have HI1:=η hI
  have HRUN:=η hrun
  have HGK:=η hgk
  have HSM1:=η hSM
  have hbu:=η hM.u8
  obtain⟨hres,hws⟩:=HRB.out _ _ hM
  have hmb:=hM.lt
  obtain⟨T,_,h0,hl,l,g1,g2,g3⟩:=hM
  have c28:=g1.cell 28 rfl
  have c30:=g1.cell 30 rfl
  rw[show (σ'.vt T).over=σ'.over from rfl]at c28
  rw[show (σ'.vt T).steps=σ'.steps from rfl]at c30
  have HRES:=η hres
  clear h0 hl g1 g2 g3 hI hrun hgk HR hres hDD hSM hst6
  go_upto_region 3 with fail
  go_cut [24] from 12 to 25 (fun v wx=>v=.bool (!σ'.over && decide (σ'.steps < fuel))∧wx=wr)
  case first =>
   cases hov:σ'.over
   ·rw[hov]at c28
    by_cases hst:σ'.steps < fuel
    all_goals
     go_wp2_with fail
     go_meet
     exact⟨by simp[hov,hst],rfl⟩
   ·rw[hov]at c28
    go_wp2_with fail
    go_meet
    exact⟨by simp[hov],rfl⟩
  case rest =>
   obtain⟨rfl,hwc⟩:=hcut
   obtain rfl:=hwc.symm
   by_cases hgo:(!σ'.over && decide (σ'.steps < fuel))=true
   ·have hov:σ'.over=false:=by simp at hgo;exact hgo.1
    have hst:σ'.steps < fuel:=by simp at hgo;exact hgo.2
    have hsl:=HI1.out.good (by omega)
    have HOV:=η hov
    have HST:=η hst
    rw[hgo]
    clear hov hst hgo
    go_wp2_with fail
    refine(p_Step HM1.out hsl HDK.out (fun _=>⟨_,HI1.out.on⟩)).mono ?_
    rintro e w3 ⟨rfl,hM3⟩
    have HM3:=η hM3
    have HINV:=η (HI1.out.step hbu.out).1
    have HD2:=η ((HI1.out.step hbu.out).2.2.trans HDS.out)
    have HSS:=η (step_steps HOV.out HI1.out)
    have HSM3:=η (step_sm HSM1.out)
    have hst:=HST.out
    have HSL3:Hid (σ'.step.1.steps≤1000000):=η (by have:=step_le HI1.out;omega)
    have hg1:(fuel - σ'.steps).toNat+1≤gk:=by have:=HGK.out;rw[HOV.out]at this;simpa using this
    have HG2:Hid ((fuel - σ'.step.1.steps).toNat+(if σ'.step.1.over then 0 else 1)≤gk - 1):=η (by
     rcases HSS.out with h1|h1
     ·rw[h1,if_pos rfl]
      have h2:σ'.steps≤σ'.step.1.steps:=step_mono HI1.out
      omega
     ·rw[h1]
      split<;>omega)
    clear hM3 hsl hst
    go_wp2_with fail
    go_roundg (gk - 1)
    case measure=>omega
    case rel=>exact⟨σ'.step.1,η ⟨HM3.out,HINV.out,(run_step HOV.out HST.out HI1.out).trans HRUN.out,HG2.out,HD2.out,HSM3.out,HSL3.out⟩⟩
   ·have hno:σ'.over=true∨fuel≤σ'.steps:=by
     by_cases h:σ'.over=true
     ·exact .inl h
     ·right;simp at h;simp[h]at hgo;exact hgo
    have hgf:(!σ'.over && decide (σ'.steps < fuel))=false:=by simpa using hgo
    rw[hgf]
    have HT:Hid (σ.run fuel=σ'):=η (HRUN.out.symm.trans (run_stop hno))
    clear hno hgf hgo HRUN HGK HRB
    obtain⟨tb,ct,HIT⟩:=HM1.out.items
    obtain⟨T,_,h0,hl,l,g1,g2,g3⟩:=HM1.out
    have HCS:=η g1
    obtain⟨ca,cn,cc,hcv,hcn,hCN⟩:=(g1.calls.rd xK).val
    obtain⟨da,dn,dc,hdv,hdn,hDN⟩:=g1.defs.val
    have hv31:wr.cell? ⟨mb,31,none⟩=some (.slice ca cn cc):=by have:=g1.cell 31 rfl;rw[hcv]at this;exact this
    have hv25:wr.cell? ⟨mb,25,none⟩=some (.slice da dn dc):=by have:=g1.cell 25 rfl;rw[hdv]at this;exact this
    have hv29:=g1.cell 29 rfl
    have hv27:=g1.cell 27 rfl
    have hv1:=g1.cell 1 rfl
    rw[show (σ'.vt T).code=σ'.code from rfl]at hv29
    rw[show (σ'.vt T).place=σ'.place from rfl]at hv27
    rw[show (σ'.vt T).R 0=σ'.R 0 from rfl]at hv1
    have HC25:=η (fun W (he:Ext wr W)=>he.cellOf hv25)
    have HC24:=η (fun W (he:Ext wr W)=>he.cellOf ct)
    have HC28:=η (fun W (he:Ext wr W)=>he.cellOf c28)
    have HC29:=η (fun W (he:Ext wr W)=>he.cellOf hv29)
    have HC1:=η (fun W (he:Ext wr W)=>he.cellOf hv1)
    have HC31:=η (fun W (he:Ext wr W)=>he.cellOf hv31)
    have HS4:Hid (∀ w',Ext wr w'→w'.cell? ⟨mb,29,none⟩=some (.int .i64 σ'.code)∧w'.cell? ⟨mb,27,none⟩=some (.int .i64 σ'.place)∧w'.cell? ⟨mb,30,none⟩=some (.int .i64 σ'.steps)):=η (fun w' he=>⟨he.cellOf hv29,he.cellOf hv27,he.cellOf c30⟩)
    have HDN:Hid (dn=σ'.D.length):=hDN
    have HCV:=η hcv
    have HCL:=η g1.cls
    have hcln:cn≤1000000:=by
     have h1:=congrArg List.length g1.cls
     rw[List.length_map]at h1
     have h2:=HI1.out.calls
     have h3:σ'.calls.length≤1000000:=by have:=HST6.out;omega
     rw[hCN.out,h1];exact h3
    clear h0 hl g1 g2 g3 hcv hdv hv25 hv1 ct hDN
    go_upto_region 5 with fail
    go_cut [5] from 27 to 40 (fun v wx=>∃ q,v=.pointer (some ⟨q,0,none⟩)∧Hid (wr.heap.size≤q∧Ext wr wx∧wx.heap[q]?=some (outObj (.int .i64 σ'.code) (.int .i64 σ'.place) (.int .u64 0) (.int .i64 σ'.steps) (.slice none 0 0) (.slice none 0 0))))
    case first =>
     go_region_held3 (fun w'=>w'.cell? ⟨mb,29,none⟩=some (.int .i64 σ'.code)∧w'.cell? ⟨mb,27,none⟩=some (.int .i64 σ'.place)∧w'.cell? ⟨mb,30,none⟩=some (.int .i64 σ'.steps))
      ((refine HS4.out _ ?_;(repeat (first|exact xE0 _|assumption|refine xE1 ?_ _|refine xE2 ?_|refine xE3 ?_ _|refine Below.setCell ?_ (by first|(simp;done)|(simp;omega)|omega) _|refine Ext.trans' ?_ (by assumption)))))
      (fail)
     all_goals
      go_wp2_with fail
      go_meet
      exact⟨_,rfl,η ⟨Nat.le_refl _,by (repeat (first|exact xE0 _|assumption|refine xE1 ?_ _|refine xE2 ?_|refine xE3 ?_ _|refine Below.setCell ?_ (by first|(simp;done)|(simp;omega)|omega) _|refine Ext.trans' ?_ (by assumption))),zD _ _ rfl⟩⟩
    case rest =>
     obtain⟨q,rfl,HC⟩:=hcut
     obtain⟨hq,hE1,hbq⟩:=HC.out
     have HE1:=η hE1
     have HBQ:=η hbq
     have hql:=zE hbq
     clear hv29 hv27 hv31 c30 HC hbq c28
     go_upto_block 2 with fail
     go_cut [40] (fun _ wx=>Hid (Ext wr wx∧wx.heap[q]?=some (outObj (.int .i64 σ'.endV.code) (.int .i64 σ'.endV.at_) (.int .u64 σ'.endV.r0) (.int .i64 σ'.endV.steps) (.slice none 0 0) (.slice none 0 0))))
     case first =>
      have c28:=HC28.out _ hE1
      have c29:=HC29.out _ hE1
      have c1:=HC1.out _ hE1
      have hmbq:=hE1.size
      (obtain⟨b0,b1,b2,b3,b4,b5⟩:=κ6 (HBQ.out);have bf:=fun i=>zA (i:=i) (HBQ.out);skip)
      cases hov:σ'.over
      ·rw[hov]at c28
       have he1:σ'.codeV=111:=by rw[RS.codeV,if_neg (by rw[hov];decide)]
       have HEV:Hid (σ'.endV.code=111∧σ'.endV.at_=σ'.place∧σ'.endV.r0=0∧σ'.endV.steps=σ'.steps):=η ⟨he1,rfl,by simp only[RS.endV,he1];rfl,rfl⟩
       have HQ0:Hid ((wc.setCell ⟨q,0,none⟩ (.int .i64 111)).heap[q]?=some (outObj (.int .i64 111) (.int .i64 σ'.place) (.int .u64 0) (.int .i64 σ'.steps) (.slice none 0 0) (.slice none 0 0))∧Ext wr (wc.setCell ⟨q,0,none⟩ (.int .i64 111))):=η ⟨by have:=heap_setCell_same wc q 0 _ _ (.int .i64 111) HBQ.out;rw[this];rfl,HE1.out.setCell hq _⟩
       clear he1 hov
       go_wp2_with fail
       go_meet
       refine η ⟨HQ0.out.2,?_⟩
       rw[HEV.out.1,HEV.out.2.1,HEV.out.2.2.1,HEV.out.2.2.2]
       exact HQ0.out.1
      ·rw[hov]at c28
       have he1:σ'.codeV=σ'.code:=by rw[RS.codeV,if_pos hov]
       by_cases hz:σ'.code=0
       ·have HEV:Hid (σ'.endV.code=0∧σ'.endV.at_=σ'.place∧σ'.endV.r0=σ'.R 0∧σ'.endV.steps=σ'.steps):=η ⟨he1.trans hz,rfl,by simp only[RS.endV,he1,hz];rfl,rfl⟩
        rw[hz]at c29 b0
        have HQ0:Hid ((wc.setCell ⟨q,2,none⟩ (.int .u64 (σ'.R 0))).heap[q]?=some (outObj (.int .i64 0) (.int .i64 σ'.place) (.int .u64 (σ'.R 0)) (.int .i64 σ'.steps) (.slice none 0 0) (.slice none 0 0))∧Ext wr (wc.setCell ⟨q,2,none⟩ (.int .u64 (σ'.R 0)))):=η ⟨by have:=heap_setCell_same wc q 2 _ _ (.int .u64 (σ'.R 0)) HBQ.out;rw[this,hz];rfl,HE1.out.setCell hq _⟩
        clear he1 hov hz
        go_wp2_with fail
        go_meet
        refine η ⟨HQ0.out.2,?_⟩
        rw[HEV.out.1,HEV.out.2.1,HEV.out.2.2.1,HEV.out.2.2.2]
        exact HQ0.out.1
       ·have HEV:Hid (σ'.endV.code=σ'.code∧σ'.endV.at_=σ'.place∧σ'.endV.r0=0∧σ'.endV.steps=σ'.steps):=η ⟨he1,rfl,by simp only[RS.endV,he1];rw[if_neg hz],rfl⟩
        have hz2:(σ'.code == 0)=false:=by simpa using hz
        clear he1 hov hz
        go_wp2_with fail
        go_meet
        refine η ⟨HE1.out,?_⟩
        rw[HEV.out.1,HEV.out.2.1,HEV.out.2.2.1,HEV.out.2.2.2]
        exact HBQ.out
     case rest =>
      obtain⟨hE1,hbq⟩:=hcut.out
      have HE1:=η hE1
      have HBQ:=η hbq
      have hql:=zE hbq
      have c31:=HC31.out _ hE1
      have hmbq:=hE1.size
      clear hcut hE1 hbq
      have HLC:=η (show Rd wr 6 CB.enc (.slice ca cn cc) l.cs by have:=HCS.out.calls.rd xK;rw[HCV.out]at this;exact this)
      have HCNL:=η (show cn=l.cs.length from hCN.out)
      have HCSL:=η (show l.cs.map (·.c)=σ'.calls from HCS.out.cls)
      have HSLC:=η (show ∀ c∈l.cs,Sl wr .u8 c.kv c.c.key∧Sl wr .u8 c.vv c.c.val∧Sl wr .u64 c.nv c.c.n from HCS.out.callS)
      have HO0:Hid (OutAt wr wc q σ' none 0 0 none 0 0 [] []):=η ⟨HE1.out,HBQ.out,Own.nil _ _ _ _ _,(fun c hc=>by cases hc),Own.nil _ _ _ _ _,(fun j row hj=>by simp at hj)⟩
      go_wp2_with fail
      obtain⟨wo,rfl⟩:∃ u,u=wr:=⟨_,rfl⟩
      go_loopw [65] (fun i wr2=>∃ (k:Nat) (a2:Option Addr) (c2:Nat) (cs2:List CB),k≤cn∧i=.int .i64 k∧Hid (cs2.length=k)∧Hid (OutAt wo wr2 q σ' a2 k c2 none 0 0 cs2 [])∧Hid (cs2.map (·.c)=σ'.calls.take k)) (fun i _=>cn - (intOf i).toNat)
      case atStart=>exact⟨0,none,0,[],Nat.zero_le _,rfl,η rfl,HO0,η rfl⟩
      case round =>
       obtain⟨k,a2,c2,cs2,hk,rfl,HCL2,HOA,HTK⟩:=hrel
       have HE2:=η HOA.out.ext
       have hqlt:=zE HOA.out.box
       by_cases hkc:(k:Int) < cn
       ·obtain⟨x,hx⟩:=zK (xs:=l.cs) (k:=k) (by have:=HCNL.out;omega)
        have HX:=η hx
        have hxs:=HSLC.out x (List.mem_of_getElem? hx)
        have hsmx:ClSm x.c:=HSM1.out x.c (by rw[← HCSL.out];exact List.mem_map.2 ⟨x,List.mem_of_getElem? hx,rfl⟩)
        have ix:=fun W=>(HLC.out).run_at (P:=Tryz.prog) el_called.under el_called.size .i64 (k:Int) (by omega) (by omega) W
        simp only[Int.toNat_natCast]at ix
        obtain⟨e0,e1,e2,e3,e4,e5⟩:=cb_at (HLC.out.ext HE2.out) hx
        have HKC:=η (fun W (he:Ext wo W)=>clone_u8 x.kv x.c.key W (hxs.1.ext he) (by have:=hsmx.1;omega))
        have HVC:=η (fun W (he:Ext wo W)=>clone_u8 x.vv x.c.val W (hxs.2.1.ext he) (by have:=hsmx.2.1;omega))
        have HNC:=η (fun W (he:Ext wo W)=>clone_u64 x.nv x.c.n W (hxs.2.2.ext he) (by have:=hsmx.2.2;omega))
        clear hx hxs hsmx
        go_upto_region 13 with fail
        have HP3:Hid ((wr.alloc (yU x)).heap[wr.heap.size]?=some (yU x)):=η (zD _ _ rfl)
        have HE3:Hid (Ext wo (wr.alloc (yU x))):=η (HE2.out.trans' (by (repeat (first|exact xE0 _|assumption|refine xE1 ?_ _|refine xE2 ?_|refine xE3 ?_ _|refine xE4 ?_ (by assumption)))))
        have HOA3:Hid (Ext wr (wr.alloc (yU x))):=η (by (repeat (first|exact xE0 _|assumption|refine xE1 ?_ _|refine xE2 ?_|refine xE3 ?_ _|refine xE4 ?_ (by assumption))))
        simp only[yU]at HP3 HE3 HOA3
        generalize wr.alloc (.cells #[.int .i64 x.c.id,.int .i64 x.c.map,.slice x.ka x.c.key.length x.kc,.slice x.va x.c.val.length x.vc,.slice x.na x.c.n.length x.nc,.int .u64 x.c.ret] 76 (0,0))=w3 at HP3 HE3 HOA3 ⊢
        clear e0 e1 e2 e3 e4 e5 ix
        have hp3:=zE HP3.out
        have HPB:Hid (∀ u,Ext w3 u→u.heap[wr.heap.size]?=some (yU x)):=η (fun u he=>he.obj HP3.out)
        generalize hpp:wr.heap.size=p at *
        go_cut [77] from 69 to 81 (fun _ wx=>∃ x':CB,Hid (x'.c=x.c∧wx.heap[p]?=some (yU x')∧CAt wx (p+1) x'∧Ext wr wx))
        case first =>
         have HSB:Hid (∀ w',Ext w3 w'→w'.cell? ⟨p,2,none⟩=some (.slice x.ka x.c.key.length x.kc)∧w'.cell? ⟨p,3,none⟩=some (.slice x.va x.c.val.length x.vc)∧w'.cell? ⟨p,4,none⟩=some (.slice x.na x.c.n.length x.nc)):=η (fun w' he=>⟨cO (HPB.out w' he),cO (HPB.out w' he),cO (HPB.out w' he)⟩)
         refine wp_region_G (fun w'=>w'.cell? ⟨p,2,none⟩=some (.slice x.ka x.c.key.length x.kc)∧w'.cell? ⟨p,3,none⟩=some (.slice x.va x.c.val.length x.vc)∧w'.cell? ⟨p,4,none⟩=some (.slice x.na x.c.n.length x.nc)) 10 (by kernel_rfl) ?_
         have hD3:Ext w3 w3.drew:=Ext.drew' (Ext.rfl' w3)
         have hG:GS (fun w'=>w'.cell? ⟨p,2,none⟩=some (.slice x.ka x.c.key.length x.kc)∧w'.cell? ⟨p,3,none⟩=some (.slice x.va x.c.val.length x.vc)∧w'.cell? ⟨p,4,none⟩=some (.slice x.na x.c.n.length x.nc)) 10 (Array.replicate 15 false) w3.drew:=Or.inr (HSB.out _ hD3)
         refine jH (i:=0) (v:=.pointer (some ⟨p,2,none⟩)) (by decide) rfl (by kernel_rfl) (by kernel_rfl) (by kernel_rfl) (fun _ _ _ h=>h) (Or.inl ⟨by rfl,?_⟩) hG ?_
         ·intro w' _;go_simp
         replace hG:=hG.set (i:=0) (by decide)
         simp only[Act.put,List.setIfInBounds_toArray,List.set_cons_zero,List.set_cons_succ]
         refine gS (i:=1) (v:=.slice x.ka x.c.key.length x.kc) (by decide) rfl (by kernel_rfl) (by kernel_rfl) (by kernel_rfl) (by kernel_rfl) (by kernel_rfl) (fun _ _ _ h=>h) (Or.inl ⟨by rfl,?_⟩) hG ?_
         ·intro w' hSw;obtain⟨t2,t3,t4⟩:=hSw;go_simp
         replace hG:=hG.set (i:=1) (by decide)
         simp only[Act.put,List.setIfInBounds_toArray,List.set_cons_zero,List.set_cons_succ]
         refine jH (i:=3) (v:=.pointer (some ⟨p,3,none⟩)) (by decide) rfl (by kernel_rfl) (by kernel_rfl) (by kernel_rfl) (fun _ _ _ h=>h) (Or.inl ⟨by rfl,?_⟩) hG ?_
         ·intro w' _;go_simp
         replace hG:=hG.set (i:=3) (by decide)
         simp only[Act.put,List.setIfInBounds_toArray,List.set_cons_zero,List.set_cons_succ]
         refine gS (i:=4) (v:=.slice x.va x.c.val.length x.vc) (by decide) rfl (by kernel_rfl) (by kernel_rfl) (by kernel_rfl) (by kernel_rfl) (by kernel_rfl) (fun _ _ _ h=>h) (Or.inl ⟨by rfl,?_⟩) hG ?_
         ·intro w' hSw;obtain⟨t2,t3,t4⟩:=hSw;go_simp
         replace hG:=hG.set (i:=4) (by decide)
         simp only[Act.put,List.setIfInBounds_toArray,List.set_cons_zero,List.set_cons_succ]
         refine jH (i:=6) (v:=.pointer (some ⟨p,4,none⟩)) (by decide) rfl (by kernel_rfl) (by kernel_rfl) (by kernel_rfl) (fun _ _ _ h=>h) (Or.inl ⟨by rfl,?_⟩) hG ?_
         ·intro w' _;go_simp
         replace hG:=hG.set (i:=6) (by decide)
         simp only[Act.put,List.setIfInBounds_toArray,List.set_cons_zero,List.set_cons_succ]
         refine gS (i:=7) (v:=.slice x.na x.c.n.length x.nc) (by decide) rfl (by kernel_rfl) (by kernel_rfl) (by kernel_rfl) (by kernel_rfl) (by kernel_rfl) (fun _ _ _ h=>h) (Or.inl ⟨by rfl,?_⟩) hG ?_
         ·intro w' hSw;obtain⟨t2,t3,t4⟩:=hSw;go_simp
         replace hG:=hG.set (i:=7) (by decide)
         simp only[Act.put,List.setIfInBounds_toArray,List.set_cons_zero,List.set_cons_succ]
         refine jV (k:=2) (by kernel_rfl) rfl (fun K hK=>?_)
         go_simp
         go_wp2_with (go_at_call 55;refine(HKC.out _ (HE3.out.trans' hD3)).mono ?_;rintro e w5 ⟨vK,rfl,hOK,hEK⟩;obtain⟨Ka,Kn,Kc,rfl,hKn,HKN⟩:=(hOK.rd (zG _)).val;have hXK:Ext w3 w5:=(hD3).trans' hEK;have OK:=η hOK)
         refine hK.out _ _ (Or.inr (HSB.out _ hXK)) (fun hG=>?_)
         clear hK K
         refine jH (i:=9) (v:=.pointer (some ⟨p,2,none⟩)) (by decide) rfl (by kernel_rfl) (by kernel_rfl) (by kernel_rfl) (fun _ _ _ h=>h) (Or.inl ⟨by rfl,?_⟩) hG ?_
         ·intro w' _;go_simp
         replace hG:=GS.set hG (i:=9) (by decide)
         simp only[Act.put,List.setIfInBounds_toArray,List.set_cons_zero,List.set_cons_succ]
         refine jV (k:=5) (by kernel_rfl) rfl (fun K hK=>?_)
         go_simp
         go_wp2_with (go_at_call 55;refine(HVC.out _ (HE3.out.trans' hXK)).mono ?_;rintro e w6 ⟨vV,rfl,hOV,hEV⟩;obtain⟨Va,Vn,Vc,rfl,hVn,HVN⟩:=(hOV.rd (zG _)).val;have hXV:Ext w3 w6:=(hXK).trans' hEV;have OV:=η hOV)
         refine hK.out _ _ (Or.inr (HSB.out _ hXV)) (fun hG=>?_)
         clear hK K
         refine jV (k:=8) (by kernel_rfl) rfl (fun K hK=>?_)
         go_simp
         go_wp2_with (go_at_call 51;refine(HNC.out _ (HE3.out.trans' hXV)).mono ?_;rintro e w7 ⟨vN,rfl,hON,hEN⟩;obtain⟨Na,Nn,Nc,rfl,hNn,HNN⟩:=(hON.rd (zG _)).val;have hXN:Ext w3 w7:=(hXV).trans' hEN;have ON:=η hON)
         refine hK.out _ _ (Or.inr (HSB.out _ hXN)) (fun hG=>?_)
         clear hK K
         have c2N:w7.cell? ⟨p,2,none⟩=some (.slice x.ka x.c.key.length x.kc):=cO (HPB.out w7 hXN)
         have c3N:w7.cell? ⟨p,3,none⟩=some (.slice x.va x.c.val.length x.vc):=cO (HPB.out w7 hXN)
         have c4N:w7.cell? ⟨p,4,none⟩=some (.slice x.na x.c.n.length x.nc):=cO (HPB.out w7 hXN)
         have fN:=fun i=>zA (i:=i) (HPB.out w7 hXN)
         refine jV (k:=10) (by kernel_rfl) rfl (fun K hK=>?_)
         go_simp
         refine hK.out _ _ (Or.inl (by kernel_rfl)) (fun hG=>?_)
         clear hK K
         refine jH (i:=11) (v:=.pointer (some ⟨p,3,none⟩)) (by decide) rfl (by kernel_rfl) (by kernel_rfl) (by kernel_rfl) (fun _ _ _ h=>h) (Or.inl ⟨by rfl,?_⟩) hG ?_
         ·intro w' _;go_simp
         replace hG:=GS.set hG (i:=11) (by decide)
         simp only[Act.put,List.setIfInBounds_toArray,List.set_cons_zero,List.set_cons_succ]
         refine jV (k:=12) (by kernel_rfl) rfl (fun K hK=>?_)
         go_simp
         refine hK.out _ _ (Or.inl (by kernel_rfl)) (fun hG=>?_)
         clear hK K
         refine jH (i:=13) (v:=.pointer (some ⟨p,4,none⟩)) (by decide) rfl (by kernel_rfl) (by kernel_rfl) (by kernel_rfl) (fun _ _ _ h=>h) (Or.inl ⟨by rfl,?_⟩) hG ?_
         ·intro w' _;go_simp
         replace hG:=GS.set hG (i:=13) (by decide)
         simp only[Act.put,List.setIfInBounds_toArray,List.set_cons_zero,List.set_cons_succ]
         refine jV (k:=14) (by kernel_rfl) rfl (fun K hK=>?_)
         go_simp
         refine hK.out _ _ (Or.inl (by kernel_rfl)) (fun hG=>?_)
         clear hK K
         refine wpAnyG_done (by kernel_rfl) ?_ _
         obtain rfl:=HKN.out
         obtain rfl:=HVN.out
         obtain rfl:=HNN.out
         have hlt:∀ i:Nat,(⟨p,i,none⟩:Addr).block < p+1:=fun i=>Nat.lt_succ_self p
         have z5:=hXK.size
         have z6:=hXV.size
         have z3:=hD3.size
         have HCC:Hid (CAt w7 (p+1) {c:=x.c,ka:=Ka,kc:=Kc,va:=Va,vc:=Vc,na:=Na,nc:=Nc}):=η ⟨(OK.out.mono (by omega)).ext (hEV.trans' hEN),(OV.out.mono (by omega)).ext hEN,ON.out.mono (by omega)⟩
         have HX7:=η (HOA3.out.trans' hXN)
         have s2:=heap_setCell_same w7 p 2 _ _ (.slice Ka x.c.key.length Kc) (HPB.out w7 hXN)
         have s3:=heap_setCell_same _ p 3 _ _ (.slice Va x.c.val.length Vc) s2
         have s4:=heap_setCell_same _ p 4 _ _ (.slice Na x.c.n.length Nc) s3
         go_wp2_with fail
         go_meet
         refine⟨{c:=x.c,ka:=Ka,kc:=Kc,va:=Va,vc:=Vc,na:=Na,nc:=Nc},η ⟨rfl,?_,CAt.set (CAt.set (CAt.set HCC.out (hlt 2) _) (hlt 3) _) (hlt 4) _,Below.setCell (Below.setCell (Below.setCell HX7.out (Nat.le_of_eq hpp) _) (Nat.le_of_eq hpp) _) (Nat.le_of_eq hpp) _⟩⟩
         rw[s4]
         simp
        case rest =>
         obtain⟨x',HX'⟩:=hcut
         have hbq2:=HX'.out.2.2.2.obj HOA.out.box
         have hbp2:=HX'.out.2.1
         have hCX:CAt wc (q+1) x':=HX'.out.2.2.1.mono (by omega)
         have HCX:=η hCX
         have HBQ2:=η hbq2
         have hcl2:cs2.length=k:=HCL2.out
         have hqwc:q+1≤wc.heap.size:=zE hbq2
         clear HPB HP3 HE3 HOA3 hp3 HKC HVC HNC hCX
         (obtain⟨b0,b1,b2,b3,b4,b5⟩:=κ6 (hbp2);have bf:=fun i=>zA (i:=i) (hbp2);skip)
         (obtain⟨o0,o1,o2,o3,o4,o5⟩:=κ6 (HBQ2.out);have of:=fun i=>zA (i:=i) (HBQ2.out);skip)
         clear hbp2 hbq2
         go_wp2_with (at_builtin;refine xM el_called xK rfl _ _ rfl rfl ((HOA.out.own.ext HX'.out.2.2.2).alloc _) rfl (ys:=[x']) ?q1 ?q2 ?q3 ?q4)
         case q1=>exact(Own.lit xK (base:=0) (w:=wc) [x'] rfl rfl (Nat.zero_le _) (by simp[maxLen])).rd xK
         case q2=>exact⟨by simp;omega,by simp;omega⟩
         case q3=>first|omega|(simp;omega)
         intro v5 w5 hown hgrow hbel
         obtain⟨a5,n5,c5,rfl,hn5,hN5⟩:=(hown.rd xK).val
         have hN6:n5=k+1:=by have:=hN5.out;rw[List.length_append,hcl2]at this;exact this
         subst hN6
         have HNX:=η (HOA.out.pushc HX'.out.2.2.2 HCX.out hq hgrow hown)
         have hk5:=yB hgrow
         have HB5:=η (hk5.obj (zB _ HBQ2.out) (fun hj=>by have:=(HOA.out.own.lt (by simpa using hj)).1;omega))
         have HTX:Hid ((cs2++[x']).map (·.c)=σ'.calls.take (k+1)):=η (by
          rw[List.map_append,HTK.out,List.take_add_one,← HCSL.out,List.getElem?_map,HX.out]
          simp[HX'.out.1])
         have HLX:Hid ((cs2++[x']).length=k+1):=η (by simp[hcl2])
         clear b0 b1 b2 b3 b4 b5 bf o0 o1 o2 o3 o4 o5 of hown hgrow hbel hk5 hcl2
         (obtain⟨o0,o1,o2,o3,o4,o5⟩:=κ6 (HB5.out);have of:=fun i=>zA (i:=i) (HB5.out);skip)
         go_wp2_with fail
         go_roundw
         case rel=>exact⟨k+1,a5,c5,cs2++[x'],by omega,by go_num,HLX,HNX,HTX⟩
         case measure=>simp[intOf];omega
       ·obtain rfl:k=cn:=by omega
        have HTA:Hid (cs2.map (·.c)=σ'.calls):=η (by
         rw[HTK.out,List.take_of_length_le (by have:=HCNL.out;have h1:=congrArg List.length HCSL.out;rw[List.length_map]at h1;omega)])
        have c25:=HC25.out _ HE2.out
        have hmb2:=HE2.out.size
        have HOA2:=HOA
        clear HOA HTK HCL2
        go_wp2_with fail
        go_loopw [93] (fun i wr3=>∃ (j:Nat) (ma:Option Addr) (mc:Nat) (rows:List SV),j≤dn∧i=.int .i64 j∧Hid (rows.length=j)∧Hid (OutAt wo wr3 q σ' a2 k c2 ma j mc cs2 rows)) (fun i _=>dn - (intOf i).toNat)
        case atStart=>exact⟨0,none,0,[],Nat.zero_le _,rfl,η rfl,HOA2⟩
        case round =>
         obtain⟨j,ma,mc,rows,hj,rfl,HRL,HOA⟩:=hrel
         have HE3:=η HOA.out.ext
         have hq3:=zE HOA.out.box
         have c24:=HC24.out _ HE3.out
         have hmb3:=HE3.out.size
         by_cases hjd:(j:Int) < dn
         ·have HFF:Hid (∀ u,Ext wr u→u.cell? ⟨q,5,none⟩=some (.slice ma j mc)∧u.frozen? ⟨q,5,none⟩=false∧u.cell? ⟨mb,24,none⟩=some (.pointer (some ⟨tb,0,none⟩))):=η (fun u he=>⟨cO (he.obj HOA.out.box),zA (he.obj HOA.out.box),he.cellOf c24⟩)
          obtain⟨b5,bf5,-⟩:=HFF.out _ (Ext.rfl' _)
          have hqn:q ∉ (Value.slice ma j mc).ownBlock.toList:=fun hb=>by have:=(HOA.out.row.lt (by simpa using hb)).1;omega
          have hkb:rows.length≤1000000:=by have:=HRL.out;have:=HDN.out;have:=hdn8.out;omega
          go_upto_region 19 with fail
          go_region_law
           ((first
            | (go_simp;go_at_call 56;refine(HIT.out _ (j:Int) (HE3.out.trans' (by (repeat (first|exact xE0 _|assumption|refine xE1 ?_ _|refine xE2 ?_|refine xE3 ?_ _|refine xE4 ?_ (by assumption)))))).mono ?_;rintro e w5 ⟨v5,I5,rfl,hO5,hS5,hM5,hE5⟩;obtain⟨va,vn,vc,rfl,hvn,hVN⟩:=(hO5.rd vQ).val;have hE6:Ext wr w5:=(by (repeat (first|exact xE0 _|assumption|refine xE1 ?_ _|refine xE2 ?_|refine xE3 ?_ _|refine xE4 ?_ (by assumption))));have HO5:=η hO5;have HS5:=η hS5;have HM5:=η hM5;have HE6:=η hE6;obtain⟨x5,xf5,x24⟩:=HFF.out w5 hE6;have y5:=(fun o=>(HFF.out (w5.alloc o) (hE6.alloc' o)).1);clear hO5 hS5 hM5 hE5)
            | (apply qT el_itemrows tF (xs:=rows) (ys:=[⟨va,vn,vc⟩]) (base:=q+1);(case hw=>rfl);(case ho=>rfl);(case hs=>rfl);(case hown=>exact HOA.out.row.ext (by (repeat (first|exact xE0 _|assumption|refine xE1 ?_ _|refine xE2 ?_|refine xE3 ?_ _|refine xE4 ?_ (by assumption)))));(case hx=>rfl);(case hy=>exact(Own.lit tF (base:=0) (w:=w5) [⟨va,vn,vc⟩] rfl rfl (Nat.zero_le _) (by simp[maxLen])).rd tF);(case hbytes=>simp;omega);(case hbase=>have:=HE6.out.size;simp;omega);intro lv w8 hown8 hg8 hmv8;have HO8:=η hown8;have K8:Hid (Keep (Value.slice ma j mc).ownBlock.toList w5 w8):=η ((Keep.of_ext ((Ext.rfl' w5).alloc' (.cells #[.slice va vn vc] 34))).trans (yB hg8));have M8:Hid (∀ x,lv.ownBlock=some x→(Value.slice ma j mc).ownBlock=some x∨w5.heap.size≤x):=η (fun x hx=>(hmv8 x hx).imp id (fun h=>by simp at h;omega));have HB8:=η (K8.out.obj (HE6.out.obj HOA.out.box) hqn);have z5:w8.cell? ⟨q,5,none⟩=some (.slice ma j mc):=cO HB8.out;have zf5:=zA (i:=5) HB8.out;obtain⟨la9,ln9,lc9,rfl,hln9,hLN9⟩:=(HO8.out.rd tF).val;clear hown8 hg8 hmv8)))
          all_goals
           have hn9:ln9=j+1:=by have:=hLN9.out;rw[List.length_append,HRL.out]at this;exact this
           subst hn9
           have HR9:=HOA.out.rat.next (r:=⟨va,vn,vc⟩) (fun x hx=>(HOA.out.row.lt hx).2) hq3 (Ext.rfl' _) HO5.out HS5.out (by rw[HRL.out];exact HM5.out) HE6.out K8.out M8.out 5 (.slice la9 (j+1) lc9)
           have HNX:=η (HOA.out.pushm HE6.out K8.out hq HO8.out HR9)
           have HLX:Hid ((rows++[(⟨va,vn,vc⟩:SV)]).length=j+1):=η (by simp[HRL.out])
           clear HR9
           go_wp2_with fail
           go_roundw
           case rel=>exact⟨j+1,la9,lc9,rows++[⟨va,vn,vc⟩],by omega,by go_num,HLX,HNX⟩
           case measure=>simp[intOf];omega
         ·obtain rfl:j=dn:=by omega
          have hrz:=HE3.out.obj HRES.out
          have HRZ:=η hrz
          have HBQ3:=η HOA.out.box
          obtain rfl:τ=σ':=by rw[← HTAU.out,HT.out]
          have HSF:=η (And.intro (set6_same hrz (.int .i64 τ.endV.code) (.int .i64 τ.endV.at_) (.int .u64 τ.endV.r0) (.int .i64 τ.endV.steps) (.slice a2 k c2) (.slice ma j mc)) (HOA.out.runOk (F0:=F0) (Z0:=Z0) hq HM1.out HF.out HZ.out HKW.out (by rw[HRL.out];exact HDN.out) HTA.out (.int .i64 τ.endV.code) (.int .i64 τ.endV.at_) (.int .u64 τ.endV.r0) (.int .i64 τ.endV.steps) (.slice a2 k c2) (.slice ma j mc)))
          clear hrz
          (obtain⟨b0,b1,b2,b3,b4,b5⟩:=κ6 (HBQ3.out);have bf:=fun i=>zA (i:=i) (HBQ3.out);skip)
          (obtain⟨r0,r1,r2,r3,r4,r5⟩:=κ6 (HRZ.out);have rf:=fun i=>zA (i:=i) (HRZ.out);skip)
          go_wp2_with fail
          (have hsf:=HSF.out;generalize hF:(World.setCell (World.setCell (World.setCell (World.setCell (World.setCell (World.setCell wr ⟨w.heap.size,0,none⟩ (.int .i64 τ.endV.code)) ⟨w.heap.size,1,none⟩ (.int .i64 τ.endV.at_)) ⟨w.heap.size,2,none⟩ (.int .u64 τ.endV.r0)) ⟨w.heap.size,3,none⟩ (.int .i64 τ.endV.steps)) ⟨w.heap.size,4,none⟩ (.slice a2 k c2)) ⟨w.heap.size,5,none⟩ (.slice ma j mc))=wF at hsf ⊢;obtain⟨hs,he⟩:=hsf;clear hF;(try simp only[Exit.then]);(repeat (first|go_skip|go_step));obtain⟨r0,r1,r2,r3,r4,r5⟩:=κ6 hs;refine bodyPost_ret (by simp[results,Tryz.results25,go_sem,r0,r1,r2,r3,r4,r5];try rfl) rfl ?_)
          exact⟨_,_,_,rfl,he⟩
end
theorem run_make512 (u:World):(Instr.makeSlice 23 (.int .i64 512) (.int .i64 512)).run Tryz.prog u=.ok (.slice (some ⟨u.heap.size,0,none⟩) 512 512) (u.alloc (.cells (madeCells #[.int .u8 0] 512) 5)):=by
 obtain⟨i0,hi0,hz0,hz1,hz2⟩:=info_parts el_u8.info
 have h:=run_make (P:=Tryz.prog) u 23 5 i0 (.int .u8 0) el_u8.under hi0 hz0 .i64 .i64 512 512 (by omega) (Int.le_refl _) (by rw[hz2];omega) (by omega)
 simpa[hz1,Value.cells]using h
theorem rd_zeros (n:Nat)(hn:n≤1000)(u:World)(b:Nat)(hb:b=u.heap.size):Sl (u.alloc (.cells (madeCells #[.int .u8 0] n) 5)) .u8 (.slice (some ⟨b,0,none⟩) n n) (List.replicate n 0):=by
 have e:(madeCells #[.int .u8 0] n:Array Value)=((List.replicate n (0:Int)).flatMap fun x=>[Value.int .u8 x]).toArray:=by
  apply Array.toList_inj.1
  rw[toList_madeCells_one,qJ,List.map_replicate]
 rw[e]
 exact(Own.lit (zG .u8) (base:=0) _ hb (by simp) (Nat.zero_le _) (by simp[maxLen];omega)).rd (zG .u8)
theorem rd_512 (u:World):Sl (u.alloc (.cells (madeCells #[.int .u8 0] 512) 5)).drew .u8 (.slice (some ⟨u.heap.size,0,none⟩) 512 512) (List.replicate 512 0):=(rd_zeros 512 (by decide) u _ rfl).ext (Ext.drew' (Ext.rfl' _))
theorem small_512:∀ x∈List.replicate 512 (0:Int),0≤x∧x≤255:=fun x hx=>by rw[List.eq_of_mem_replicate hx];decide
structure EnvD  where
 ctx:List Int
 defs:List TDef
 items:List (List (List Int×List Int))
 draws:List Int
structure EnvR (w:World)(e:EnvD)(cv dv iv rv:Value)(rows:List SV):Prop where
 ctx:Sl w .u8 cv e.ctx
 u8:∀ x∈e.ctx,0≤x∧x≤255
 defs:Rd w 4 TDef.enc dv e.defs
 draws:Sl w .u64 rv e.draws
 rowsR:Rd w 1 encW iv rows
 len:rows.length=e.items.length
 items:∀ (i:Nat) (row:SV) l,rows[i]?=some row→e.items[i]?=some l→∃ I:List IT,Rd w 2 IT.enc row.v I∧(∀ x∈I,Sl w .u8 x.kv x.key∧Sl w .u8 x.vv x.val)∧I.map (fun x=>(x.key,x.val))=l
 ib:∀ l∈e.items,∀ p∈l,∀ x∈p.2,0≤x∧x≤255
theorem EnvR.ext {w w':World}{e:EnvD}{cv dv iv rv:Value}{rows:List SV}(h:EnvR w e cv dv iv rv rows)(k:Ext w w'):EnvR w' e cv dv iv rv rows :=
 ⟨h.ctx.ext k,h.u8,h.defs.ext k,h.draws.ext k,h.rowsR.ext k,h.len,fun i row l h1 h2=>by
  obtain⟨I,a,b,c⟩:=h.items i row l h1 h2
  exact⟨I,a.ext k,fun x hx=>⟨(b x hx).1.ext k,(b x hx).2.ext k⟩,c⟩,h.ib⟩
def xS (ctx:List Int):Areas:=(yG (yG [] 1 ctx false true).1 2 (List.replicate 512 0) true false).1
def xG (V:Areas×List TM)(i:Nat):List (List Int×List Int)→Option (Areas×List TM)
 | []=>some V
 | p :: l=>if (rput V i p.1 p.2 0).2.1=0∧(rput V i p.1 p.2 0).2.2=0 then xG (rput V i p.1 p.2 0).1 i l else none
def yW (V:Areas×List TM):Nat→List (List (List Int×List Int))→Option (Areas×List TM)
 | _,[]=>some V
 | i,l :: ls=>(xG V i l).bind fun V'=>yW V' (i+1) ls
def RS.zero (L:List Ins)(D:List TDef)(dr:List Int)(V:Areas×List TM):RS:=⟨L,fun _=>0,fun _=>false,V,D,dr,0,false,0,0,[]⟩
def RS.new (L:List Ins)(e:EnvD):Option RS :=
 if yX L=false∨64 < e.ctx.length∨e.defs.length < e.items.length then none
 else (rnew (xS e.ctx) e.defs).bind fun V=>(yW V 0 e.items).map fun V'=>((RS.zero L e.defs e.draws V').setR 1 4294967296).setR 10 8589935104
abbrev mz (lv dv drv tp:Value)(b:Nat):Obj:=.cells #[lv,.int .u64 0,.int .u64 0,.int .u64 0,.int .u64 0,.int .u64 0,.int .u64 0,.int .u64 0,.int .u64 0,.int .u64 0,.int .u64 0,.int .u64 0,.bool false,.bool false,.bool false,.bool false,.bool false,.bool false,.bool false,.bool false,.bool false,.bool false,.bool false,.pointer (some ⟨b,0,none⟩),tp,dv,drv,.int .i64 0,.bool false,.int .i64 0,.int .i64 0,.slice none 0 0] 50 (0,0)
structure NewR (Q:List Nat)(w0:World)(b:Nat)(M:Areas)(w:World):Prop where
 ext:Ext w0 w
 mem:∃ lv L,RefAt w w0.heap.size b lv L∧zV L=M∧∀ q∈Q,q ∉ yA b lv L∧q < w.heap.size
theorem NewR.go {Q:List Nat}{w0 w w':World}{b:Nat}{M:Areas}(h:NewR Q w0 b M w)(k:Ext w w'):NewR Q w0 b M w':=by
 obtain⟨h1,lv,L,h3,h4,h5⟩:=h
 exact⟨h1.trans' k,lv,L,h3.ext k,h4,fun q hq=>⟨(h5 q hq).1,Nat.lt_of_lt_of_le (h5 q hq).2 k.size⟩⟩
theorem new_make {Q:List Nat}{w0 w:World}{b:Nat}{M:Areas}(h:NewR Q w0 b M w)(n:Int)(v:Value)(xs:List Int)(blank fixed:Bool)(hv:Sl w .u8 v xs)(hu:∀ x∈xs,0≤x∧x≤255):
  Calls Tryz.prog 33 #[.pointer (some ⟨b,0,none⟩),.int .i64 n,v,.bool blank,.bool fixed] w fun e w'=>(∃ er:Int,e=.returned (.int .i64 er))∧NewR Q w0 b (yG M n xs blank fixed).1 w'∧∀ q∈Q,∀ o,w.heap[q]?=some o→w'.heap[q]?=some o:=by
 obtain⟨h1,lv,L,h3,h4,h5⟩:=h
 refine(ref_make w0.heap.size b lv L n v xs blank fixed w h3 h1.size hv hu).mono ?_
 rintro e w' ⟨rfl,hk,lv',L2,g1,g2,g3⟩
 rw[h4]at g2
 have hlt:=h3.lt
 refine⟨⟨_,rfl⟩,⟨hk.below h1 h1.size (fun k hk=>(hlt k hk).1),lv',L2,g1,g2,fun q hq=>⟨fun hm=>?_,Nat.lt_of_lt_of_le (h5 q hq).2 hk.size⟩⟩,fun q hq o ho=>hk.obj ho (h5 q hq).1⟩
 rcases g3 q hm with h|h
 ·exact(h5 q hq).1 h
 ·have:=(h5 q hq).2;omega
theorem fill_both {M:Areas}{T:List TM}{t:TM}{val:Nat}(h0:t.made=0)(hs:t.slots=[]):∀ k:Nat,k≤1024 →
  vM (M,T++[t]) (T.length:Int) val k=(qA M (T.length:Int) val k).map fun M'=>(M',T++[{t with slots:=nums k,made:=k}])
 | 0,_=>by
  obtain⟨_,_,_,_,_,_⟩:=t
  simp only at h0 hs
  subst h0;subst hs
  rfl
 | k+1,hk=>by
  rw[vM,fill_both h0 hs k (by omega),qA]
  cases hr:qA M (T.length:Int) val k with
  | none=>rfl
  | some M' =>
   simp only[Option.map_some,Option.bind_some]
   rw[kV,vS]
   simp only[List.getElem?_append_right (Nat.le_refl _),Nat.sub_self,List.getElem?_cons_zero]
   rw[if_neg (by omega)]
   by_cases hm:(yG M' (zS T.length k) (List.replicate val 0) false false).2=0
   ·rw[if_pos hm,if_pos hm]
    simp only[Option.map_some,yF,Int.toNat_natCast,nums_succ]
    simp
   ·rw[if_neg hm,if_neg hm];rfl
theorem new1_both {V:Areas×List TM}{d:TDef}(hd:mayD d=true):tnew1 V d=rnew1 V d:=by
 have hm:=(pV d).1 hd
 unfold tnew1 rnew1
 cases hh:d.hash with
 | true=>rfl
 | false =>
  simp only[Bool.false_eq_true,if_false]
  rw[fill_both rfl rfl d.max.toNat (by omega)]
  rfl
theorem news_both {M:Areas}{ds:List TDef}(hd:∀ d∈ds,mayD d=true):∀ k:Nat,uF M ds k=kW M ds k
 | 0=>rfl
 | k+1=>by
  rw[uF,kW,news_both hd k]
  cases hr:kW M ds k with
  | none=>rfl
  | some V =>
   cases hk:ds[k]? with
   | none=>rfl
   | some d =>
    simp only[Option.bind_some]
    exact new1_both (hd d (List.mem_of_getElem? hk))
theorem right_iff {ds:List TDef}(h:xC ds=true):ds.length≤8∧∀ d∈ds,mayD d=true:=by
 simpa only[xC,Bool.and_eq_true,decide_eq_true_eq,List.all_eq_true]using h
theorem new_both (M:Areas)(ds:List TDef):tnew M ds=rnew M ds:=by
 unfold tnew rnew
 cases hr:xC ds with
 | false=>rfl
 | true =>
  simp only[if_true]
  exact news_both (right_iff hr).2 _
theorem rnews_maps {M:Areas}{ds:List TDef}:∀ (k:Nat) {V:Areas×List TM},kW M ds k=some V→V.2=(ds.take k).map kL
 | 0,V,h=>by
  rw[kW]at h
  injection h with h
  subst h
  simp
 | k+1,V,h=>by
  rw[kW]at h
  cases hr:kW M ds k with
  | none=>rw[hr]at h;cases h
  | some V1 =>
   have ih:=rnews_maps k hr
   rw[hr]at h
   simp only[Option.bind_some]at h
   cases hk:ds[k]? with
   | none=>rw[hk]at h;cases h
   | some d =>
    rw[hk]at h
    simp only[Option.bind_some]at h
    have htk:(ds.take (k+1)).map kL=(ds.take k).map kL++[kL d]:=by rw[List.take_add_one,hk];simp
    rw[htk]
    unfold rnew1 at h
    cases hh:d.hash with
    | true =>
     rw[hh]at h
     simp only[if_true]at h
     injection h with h
     subst h
     simp only[ih,kL,hh,if_true]
    | false =>
     rw[hh]at h
     simp only[Bool.false_eq_true,if_false]at h
     cases hf:qA V1.1 (V1.2.length:Int) d.val.toNat d.max.toNat with
     | none=>rw[hf]at h;cases h
     | some M' =>
      rw[hf]at h
      simp only[Option.map_some]at h
      injection h with h
      subst h
      simp only[ih,kL,hh,Bool.false_eq_true,if_false,TDef.full]
theorem new_vrel {M:Areas}{ds:List TDef}{V:Areas×List TM}(h:rnew M ds=some V):VRel V V:=by
 unfold rnew at h
 cases hr:xC ds with
 | false=>rw[hr]at h;cases h
 | true =>
  rw[hr,if_pos rfl]at h
  have hm:=rnews_maps _ h
  rw[List.take_length]at hm
  obtain⟨M0,-,e2,-⟩:=tnew_spec hr
  refine⟨rfl,rfl,fun i t t' h1 h2=>?_⟩
  rw[h1]at h2
  injection h2 with h2
  subst h2
  rw[hm]at h1
  have hk:=(e2.maps t (List.mem_of_getElem? h1)).kw
  rw[List.getElem?_map,Option.map_eq_some_iff]at h1
  obtain⟨d,hd,rfl⟩:=h1
  exact full_rel ((right_iff hr).2 d (List.mem_of_getElem? hd)) hk
end Go.Proofs.YtppefchjoodgnaaGreat
