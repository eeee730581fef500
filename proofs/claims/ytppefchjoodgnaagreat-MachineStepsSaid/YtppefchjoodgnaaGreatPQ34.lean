import Derived.Test.YtppefchjoodgnaaGreatPQ33
import Derived.Deep.CutBlock
import Derived.Test.YtppefchjoodgnaaGreatPQ09
import Derived.Deep.LoopGhost
set_option linter.unusedSimpArgs false
set_option linter.unusedVariables false
namespace Go.Proofs.YtppefchjoodgnaaGreat
open Go.RowKit
section
variable {F0 Z0:List Nat} {wf w w':World} {base mb:Nat} {σ:RS} {l:PLay}
structure CallP (Q F0 Z0:List Nat)(wf:World)(base mb:Nat)(σ:RS)(p q:Nat)(sv:Value)(id:Int)(w:World)(y:CB):Prop where
 rel:PRelQ Q F0 Z0 wf base w mb σ
 sig:w.heap[p]?=some (jM sv (tells id) (draws id) (most id))
 box:w.heap[q]?=some (yU y)
 c:CAt w 0 y
 hp:p∈Q∧wf.heap.size≤p∧p≠q∧p≠mb
 hq:q∈Q∧wf.heap.size≤q∧q≠mb
 hy:∀ j∈vblk y.kv++(vblk y.vv++vblk y.nv),j∈Q∧wf.heap.size≤j∧j≠q
theorem CallP.step {Q:List Nat}{p q:Nat}{sv:Value}{id:Int}{y:CB}(h:CallP Q F0 Z0 wf base mb σ p q sv id w y){σ':RS}{w5:World}(hr:PRelQ Q F0 Z0 wf base w5 mb σ')(hk:∀ j∈Q,∀ o,w.heap[j]?=some o→w5.heap[j]?=some o):CallP Q F0 Z0 wf base mb σ' p q sv id w5 y:=by
 have hv:∀ {v:Value} {e:TypeId} {sz:Nat} {α:Type} {enc:α→List Value} {xs:List α},Own w 0 e sz enc v xs→(∀ j∈vblk v,j∈Q)→Own w5 0 e sz enc v xs:=fun ho hj=>own_objs ho (fun j o h1 h2=>hk j (hj j (by rw[yR ho];simp[h1])) o h2)
 exact⟨hr,hk p h.hp.1 _ h.sig,hk q h.hq.1 _ h.box,⟨hv h.c.key (fun j hj=>(h.hy j (by simp[hj])).1),hv h.c.val (fun j hj=>(h.hy j (by simp[hj])).1),hv h.c.n (fun j hj=>(h.hy j (by simp[hj])).1)⟩,h.hp,h.hq,h.hy⟩
theorem CallP.ret {Q:List Nat}{p q:Nat}{sv:Value}{id:Int}{y:CB}(h:CallP Q F0 Z0 wf base mb σ p q sv id w y)(n:Int):CallP Q F0 Z0 wf base mb σ p q sv id (w.setCell ⟨q,5,none⟩ (.int .u64 n)) {y with c:={y.c with ret:=n}}:=by
 have k:Keep [q] w (w.setCell ⟨q,5,none⟩ (.int .u64 n)):=(Keep.rfl' _ _).setCell (by simp) _
 have hv:∀ {v:Value} {e:TypeId} {sz:Nat} {α:Type} {enc:α→List Value} {xs:List α},Own w 0 e sz enc v xs→(∀ j∈vblk v,j≠q)→Own (w.setCell ⟨q,5,none⟩ (.int .u64 n)) 0 e sz enc v xs:=fun ho hj=>ho.keep k (fun j h1 h2=>by rw[List.mem_singleton]at h2;exact hj j (by rw[yR ho];simp[h1]) h2)
 refine⟨h.rel.box h.hq.1 h.hq.2.1 5 _,(heap_setCell_other w _ _ _ (show p≠q from h.hp.2.2.1)).trans h.sig,?_,⟨hv h.c.key (fun j hj=>(h.hy j (List.mem_append_left _ hj)).2.2),hv h.c.val (fun j hj=>(h.hy j (List.mem_append_right _ (List.mem_append_left _ hj))).2.2),hv h.c.n (fun j hj=>(h.hy j (List.mem_append_right _ (List.mem_append_right _ hj))).2.2)⟩,h.hp,h.hq,h.hy⟩
 have:=heap_setCell_same w q 5 _ _ (.int .u64 n) h.box
 rw[this]
 rfl
theorem CallP.new (h:PRel F0 Z0 wf base w mb σ){w1 w2 w3:World}{B p:Nat}{sv:Value}{id:Int}{y:CB}(h1:Ext w w1)(hp:w.heap.size≤p)(hs:w1.heap[p]?=some (jM sv (tells id) (draws id) (most id)))(hb:w.heap.size≤B)(hc:CAt w2 B y)(h2:Ext w1 w2)(hA:Ext w2 w3)(ho:w3.heap[w2.heap.size]?=some (yU y)):
  ∃ Q,CallP Q F0 Z0 wf base mb σ p w2.heap.size sv id w3 y:=by
 have hpl:=zE hs
 have hsz:=h2.size
 have hmb:=h.lt
 have hwf:=h.keep.size
 have hS:=zE ho
 have hvb:∀ {v:Value} {e:TypeId} {sz:Nat} {α:Type} {enc:α→List Value} {xs:List α},Own w2 B e sz enc v xs→∀ j∈vblk v,B≤j∧j < w2.heap.size:=fun ho j hj=>ho.lt (by rw[yR ho]at hj;simpa using hj)
 have hy:∀ j∈vblk y.kv++(vblk y.vv++vblk y.nv),B≤j∧j < w2.heap.size:=fun j hj=>by
  rcases List.mem_append.1 hj with hj|hj
  ·exact hvb hc.key j hj
  ·rcases List.mem_append.1 hj with hj|hj
   ·exact hvb hc.val j hj
   ·exact hvb hc.n j hj
 refine⟨p :: w2.heap.size :: (vblk y.kv++(vblk y.vv++vblk y.nv)),h.apart ((h1.trans' h2).trans' hA) (fun q hq=>?_),hA.obj (h2.obj hs),ho,(hc.ext hA).mono (Nat.zero_le _),⟨by simp,by omega,by omega,by omega⟩,⟨by simp,by omega,by omega⟩,fun j hj=>⟨by simp only[List.mem_cons];exact .inr (.inr hj),by have:=hy j hj;omega,by have:=hy j hj;omega⟩⟩
 simp only[List.mem_cons]at hq
 rcases hq with rfl|rfl|hq
 ·omega
 ·have:=h1.size;omega
 ·have:=hy q hq;omega
def ten0:List Value:=[.int .u64 0,.bool false,.int .u64 0,.bool false,.int .u64 0,.bool false,.int .u64 0,.bool false,.int .u64 0,.bool false]
theorem ten0_eq (w:World)(b:Nat):w.setCells b 3 ten0=(((((((((w.setCell ⟨b,3,none⟩ (.int .u64 0)).setCell ⟨b,4,none⟩ (.bool false)).setCell ⟨b,5,none⟩ (.int .u64 0)).setCell ⟨b,6,none⟩ (.bool false)).setCell ⟨b,7,none⟩ (.int .u64 0)).setCell ⟨b,8,none⟩ (.bool false)).setCell ⟨b,9,none⟩ (.int .u64 0)).setCell ⟨b,10,none⟩ (.bool false)).setCell ⟨b,11,none⟩ (.int .u64 0)).setCell ⟨b,12,none⟩ (.bool false):=rfl
theorem ten0_other (w:World){b j:Nat}(h:j≠b):(w.setCells b 3 ten0).heap[j]?=w.heap[j]?:=by
 rw[ten0_eq]
 rw[heap_setCell_other _ _ _ _ h,heap_setCell_other _ _ _ _ h,heap_setCell_other _ _ _ _ h,heap_setCell_other _ _ _ _ h,heap_setCell_other _ _ _ _ h,heap_setCell_other _ _ _ _ h,heap_setCell_other _ _ _ _ h,heap_setCell_other _ _ _ _ h,heap_setCell_other _ _ _ _ h,heap_setCell_other _ _ _ _ h]
theorem clr5_eq (σ:RS):({σ with R:=updN (updN (updN (updN (updN σ.R 1 0) 2 0) 3 0) 4 0) 5 0,S:=updN (updN (updN (updN (updN σ.S 1 false) 2 false) 3 false) 4 false) 5 false}:RS)=clrN σ 5:=by
 unfold clrN
 congr 1
 ·funext j
  simp only[updN]
  by_cases h:1≤j∧j≤5
  ·rw[if_pos h]
   repeat' split
   all_goals first|rfl|omega
  ·rw[if_neg h]
   repeat' split
   all_goals first|rfl|omega
 ·funext j
  simp only[updN]
  by_cases h:1≤j∧j≤5
  ·rw[if_pos h]
   repeat' split
   all_goals first|rfl|omega
  ·rw[if_neg h]
   repeat' split
   all_goals first|rfl|omega
theorem PRel.clr5 (h:PRel F0 Z0 wf base w mb σ):PRel F0 Z0 wf base (w.setCells mb 3 ten0) mb (clrN σ 5):=by
 rw[ten0_eq,← clr5_eq]
 have a1:=h.cell1 3 _ (fun l=>pset_R σ l (d:=1) (by decide) 0)
 have b1:=a1.cell1 4 _ (fun l=>pset_S _ l (d:=1) (by decide) false)
 have a2:=b1.cell1 5 _ (fun l=>pset_R _ l (d:=2) (by decide) 0)
 have b2:=a2.cell1 6 _ (fun l=>pset_S _ l (d:=2) (by decide) false)
 have a3:=b2.cell1 7 _ (fun l=>pset_R _ l (d:=3) (by decide) 0)
 have b3:=a3.cell1 8 _ (fun l=>pset_S _ l (d:=3) (by decide) false)
 have a4:=b3.cell1 9 _ (fun l=>pset_R _ l (d:=4) (by decide) 0)
 have b4:=a4.cell1 10 _ (fun l=>pset_S _ l (d:=4) (by decide) false)
 have a5:=b4.cell1 11 _ (fun l=>pset_R _ l (d:=5) (by decide) 0)
 exact a5.cell1 12 _ (fun l=>pset_S _ l (d:=5) (by decide) false)
theorem zero_reg (w:World):(zeroValue 105).run Tryz.prog w=.ok (.agg #[.int .u64 0,.bool false]) w:=by kernel_rfl
theorem run_clear5 (h:PRel F0 Z0 wf base w mb σ)(ty:TypeId)(c:Nat):(Builtin.clear_ #[197] ty #[.slice (some ⟨mb,3,none⟩) 5 c]).run Tryz.prog w=.ok (.tuple #[]) (w.setCells mb 3 ten0):=by
 obtain⟨h0,hl,l,g1,g2,g3⟩:=h
 have hzc:(Builtin.zeroCells (Value.agg #[.int .u64 0,.bool false]).cells 5).toList=ten0:=by
  simp only[Builtin.zeroCells,Value.cells,ten0]
  simp[List.range,List.range.loop]
 have hc:∀ j,j < ten0.length→(w.cell? ⟨mb,3+j,none⟩).isSome=true:=fun j hj=>by
  have hj:j < 10:=hj
  rw[cO g1.head]
  simp only[List.getElem?_toArray]
  rw[List.getElem?_eq_getElem (by simp only[xZ,List.length_cons,List.length_nil];omega)]
  rfl
 have hst:=run_storeCells_cells (P:=Tryz.prog) mb 3 ten0 0 w (by simpa using hc) (by intro j _;exact zA g1.head) (by intro v hv;simp only[ten0,List.mem_cons,List.not_mem_nil,or_false]at hv;rcases hv with rfl|rfl|rfl|rfl|rfl|rfl|rfl|rfl|rfl|rfl<;>rfl)
 simp only[Nat.add_zero]at hst
 simp[Builtin.clear_,run_underlying Tryz.underlying197,zero_reg,hzc,hst]
end
section
variable {F0 Z0:List Nat} {wf w w':World} {base mb:Nat} {σ:RS} {l:PLay}
set_option maxRecDepth 20000 in
set_option maxHeartbeats 4000000 in
theorem p_call (x:Ins)(h:PS F0 Z0 wf base w mb σ)(ho:σ.Ok)(hD:DefsOk σ.D)(hdl:σ.dr.length≤1000000)(hcl:σ.calls.length≤1000000)(hx:x.Ok):
  Calls Tryz.prog 96 #[.pointer (some ⟨mb,0,none⟩),x.agg] w (PSAns F0 Z0 wf base mb (σ.call x).1 (.int .i64 (σ.call x).2)):=by
 obtain⟨op,dst,src,off,imm⟩:=x
 have HX:=η hx.imm
 have HBU:=η h.u8
 obtain⟨T,hr,h⟩:=h
 have HVR:=η hr
 have HM:=η h
 have HO:=η ho
 have HDO:=η hD
 have hlt:=h.lt
 have HRES:=η (fun c=>@call_helps σ ⟨op,dst,src,off,imm⟩ c)
 have HRES2:Hid (∀ _:xF imm=false,σ.call ⟨op,dst,src,off,imm⟩=(σ,112)):=η (fun hh=>by rw[RS.call,if_pos hh])
 have HRES3:Hid (∀ _:xF imm=true,(σ.told imm).2≠0→σ.call ⟨op,dst,src,off,imm⟩=(σ,(σ.told imm).2)):=η (fun hh ht=>by rw[RS.call,if_neg (by rw[hh];decide),if_pos ht])
 obtain⟨res,hres⟩:∃ r,RS.call σ ⟨op,dst,src,off,imm⟩=r:=⟨_,rfl⟩
 rw[hres]at HRES HRES2 HRES3 ⊢
 have hwi:wrap64 imm=imm:=by have:=HX.out;simp only at this;unfold wrap64;omega
 have HTOLD:=η (fun W tl mo dw sv (he:Ext w W) (hs:Sl W .u8 sv (zU imm))=>(p_told (σ:=σ.vt T) imm tl mo dw sv (HM.out.go he) HO.out hs))
 have HDL:=η hdl
 have HCLN:=η hcl
 clear h ho hx hres hr hD hdl hcl
 go_enter Tryz.func96,Tryz.ntmps96
 go_upto_region 1 with fail
 go_cut [5,6] from 9 to 16 (fun v6 v7 wx=>∃ p sv,v6=.pointer (some ⟨p,0,none⟩)∧v7=.bool (xF imm)∧Hid (w.heap.size≤p∧Ext w wx∧wx.heap[p]?=some (jM sv (tells imm) (draws imm) (most imm))∧Sl wx .u8 sv (zU imm)∧wx.cell? ⟨w.heap.size,4,none⟩=some (.int .i32 imm)))
 case first =>
  go_wp2_with fail
  refine(psig _ _).mono ?_
  rintro e w1 ⟨sv,rfl,hv,hE⟩
  obtain⟨sa,sn,sc,rfl,hsn,hSN⟩:=hv.val
  have HV:=η hv
  have hz:w.heap.size≤w1.heap.size:=by have:=hE.size;simp at this;omega
  have HB4:Hid (w1.cell? ⟨w.heap.size,4,none⟩=some (.int .i32 imm)):=η (cO (hE.obj (zD w (.cells #[.int .u8 op,.int .u8 dst,.int .u8 src,.int .i16 off,.int .i32 imm] 58 (0,0)) rfl)))
  clear hv
  go_wp2_with fail
  go_meet
  exact⟨_,_,rfl,rfl,η ⟨hz,by (repeat (first|exact xE0 _|assumption|refine xE1 ?_ _|refine xE2 ?_|refine xE3 ?_ _|refine xE4 ?_ (by assumption))),zD _ _ rfl,HV.out.ext (by (repeat (first|exact xE0 _|assumption|refine xE1 ?_ _|refine xE2 ?_|refine xE3 ?_ _|refine xE4 ?_ (by assumption)))),Ext.cellOf (by (repeat (first|exact xE0 _|assumption|refine xE1 ?_ _|refine xE2 ?_|refine xE3 ?_ _|refine xE4 ?_ (by assumption)))) HB4.out⟩⟩
 case rest =>
  obtain⟨p,sv,rfl,rfl,HC⟩:=hcut
  obtain⟨hp,hE1,hsg,hsl,hx4⟩:=HC.out
  obtain⟨sa,sn,sc,rfl,hsn,hSN⟩:=hsl.val
  have HE1:=η hE1
  have HSG:=η hsg
  have HSL:=η hsl
  clear hE1 hsg hsl HC
  (obtain⟨s0,s1,s2,s3⟩:=κ4 (HSG.out);have sf:=fun i=>zA (i:=i) (HSG.out);skip)
  cases hh:xF imm
  ·have HH:=η hh
   go_wp2_with fail
   go_returns
   obtain rfl:res=(σ,112):=HRES2.out HH.out
   exact⟨rfl,T,HVR.out,HM.out.go HE1.out⟩
  ·have HH:=η hh
   clear HRES2
   go_upto_region 4 with fail
   go_cut [7,8] from 18 to 27 (fun v8 v9 wy=>∃ q er Q y,v8=.pointer (some ⟨q,0,none⟩)∧v9=.int .i64 er∧Hid (y.c=(σ.told imm).1∧er=(σ.told imm).2)∧Hid (CallP Q F0 Z0 wf base mb (σ.vt T) p q (.slice sa sn sc) imm wy y))
   case first =>
    go_wp2_with fail
    refine(HTOLD.out _ _ _ _ _ HE1.out HSL.out).mono ?_
    rintro e w2 ⟨y,hr,hyc,hca,hE2⟩
    rw[vt_told]at hr hyc
    obtain rfl:e=.returned (.tuple #[.agg #[.int .i64 y.c.id,.int .i64 y.c.map,.slice y.ka y.c.key.length y.kc,.slice y.va y.c.val.length y.vc,.slice y.na y.c.n.length y.nc,.int .u64 y.c.ret],.int .i64 (σ.told imm).2]):=hr
    have hEx:Ext w2 (w2.alloc (yU y)):=(Ext.rfl' _).alloc' _
    have hbx:=zD w2 (yU y) rfl
    have HNEW:=η (CallP.new HM.out HE1.out hp HSG.out HE1.out.size hca hE2 hEx hbx)
    have HYC:=η hyc
    have HE2:=η hE2
    clear hca hyc hE2 hbx hEx
    go_wp2_with fail
    go_meet
    obtain⟨Q,hQ⟩:=HNEW.out
    exact⟨_,_,Q,y,rfl,rfl,η ⟨HYC.out,rfl⟩,η hQ⟩
   case rest =>
    obtain⟨q,er,Q,y,rfl,rfl,HY,HCL⟩:=hcut
    clear s0 s1 s2 s3 sf hx4
    by_cases her:(er != 0)=true
    ·go_wp2_with fail
     go_returns
     obtain rfl:res=(σ,er):=by
      have h1:=HRES3.out HH.out (by rw[← HY.out.2];simpa using her)
      rw[h1,← HY.out.2]
     exact⟨rfl,T,HVR.out,HCL.out.rel.rel⟩
    ·obtain rfl:er=0:=by simpa using her
     have HTD:=η (told_id HY.out.2.symm)
     have HTT:Hid (σ.told imm=(y.c,0)):=η (by rw[HY.out.1,HY.out.2])
     have HG:=η (HRES.out y.c HH.out HTT.out)
     have HYI:Hid (y.c.id=imm):=η (by rw[HY.out.1];exact HTD.out.1)
     clear her HRES HRES3
     have HHP:Hid (Calls Tryz.prog 132 #[.pointer (some ⟨mb,0,none⟩),.agg y.enc.toArray,.agg #[.slice sa sn sc,.int .u8 (tells imm),.bool (draws imm),.int .u64 (most imm)]] wc (HelpsA Q F0 Z0 wf base mb (σ.helps y.c) wc)):=η (by
      have:=p_helps (sv:=.slice sa sn sc) HCL.out.rel HVR.out HCL.out.c (fun j hj=>(HCL.out.hy j hj).1) (by rw[HYI.out];exact HH.out) (by rw[HYI.out];exact HTT.out) HO.out HDO.out HBU.out HDL.out
      rw[HYI.out]at this
      exact this)
     obtain⟨τ,n,er,hhp⟩:∃ a b c,σ.helps y.c=(a,b,c):=⟨_,_,_,rfl⟩
     have HTC:Hid (τ.calls=σ.calls):=η (by
      have:(σ.helps y.c).1.calls=σ.calls:=by
       unfold RS.helps
       split
       ·show (if yH y.c.id σ.dr≠0 then σ else _).calls=_
        split<;>rfl
       ·rfl
      rw[hhp]at this
      exact this)
     rw[hhp]at HHP HG
     clear hhp
     have hcbx:=HCL.out.box
     have hsbx:=HCL.out.sig
     (obtain⟨b0,b1,b2,b3,b4,b5⟩:=κ6 (hcbx);have bf:=fun i=>zA (i:=i) (hcbx);skip)
     (obtain⟨s0,s1,s2,s3⟩:=κ4 (hsbx);have sf:=fun i=>zA (i:=i) (hsbx);skip)
     go_upto_region 7 with fail
     go_cut [8] from 30 to 38 (fun v8 wy=>v8=.int .i64 er∧Hid (∃ T',VRel (τ.V.1,T') τ.V∧CallP Q F0 Z0 wf base mb (τ.vt T') p q (.slice sa sn sc) imm wy {y with c:={y.c with ret:=n}}))
     case first =>
      go_wp2_with fail
      refine HHP.out.mono ?_
      rintro e w5 ⟨rfl,⟨T',hr',hp'⟩,hk⟩
      have hC:=HCL.out.step hp' hk
      have HRT:=η (⟨T',hr',hC.ret n⟩:∃ T',VRel (τ.V.1,T') τ.V∧CallP Q F0 Z0 wf base mb (τ.vt T') p q (.slice sa sn sc) imm _ {y with c:={y.c with ret:=n}})
      have hc5:=hC.box
      clear hr' hp' hk hC b0 b1 b2 b3 b4 b5 bf s0 s1 s2 s3 sf
      (obtain⟨b0,b1,b2,b3,b4,b5⟩:=κ6 (hc5);have bf:=fun i=>zA (i:=i) (hc5);skip)
      go_wp2_with fail
      go_meet
      exact⟨rfl,HRT⟩
     case rest =>
      obtain⟨rfl,HC2⟩:=hcut
      clear b0 b1 b2 b3 b4 b5 bf s0 s1 s2 s3 sf hcbx hsbx HHP
      obtain⟨T',hr',hC2⟩:=HC2.out
      have HV2:=η hr'
      have HT:=η hC2
      clear hr' hC2 HC2
      by_cases her:(er != 0)=true
      ·go_wp2_with fail
       go_returns
       obtain rfl:res=(τ,er):=by rw[HG.out,if_pos (by simpa using her)]
       exact⟨rfl,T',HV2.out,HT.out.rel.rel⟩
      ·obtain rfl:er=0:=by simpa using her
       have HRS:Hid (res=(RS.done τ {y.c with ret:=n},0)):=η (by rw[HG.out,if_neg (by simp)])
       obtain⟨yt,hyt⟩:∃ s,({y with c:={y.c with ret:=n}}:CB)=s:=⟨_,rfl⟩
       have hyc:({y.c with ret:=n}:Cl)=yt.c:=by rw[← hyt]
       have hny:n=yt.c.ret:=by rw[← hyt]
       rw[hyc]at HRS
       rw[hyt]at HT
       obtain⟨st,hst⟩:∃ s,τ.vt T'=s:=⟨_,rfl⟩
       rw[hst]at HT
       have HCN:Hid (st.calls.length≤1000000):=η (by rw[← hst];show τ.calls.length≤1000000;rw[HTC.out];exact HCLN.out)
       have HST:=η hst
       have hcx:=HT.out.box
       clear HG her hyc hny hyt hst
       obtain⟨h0,hl,l,g1,g2,g3,g4⟩:=HT.out.rel
       obtain⟨ca,cn,cc,hcv,hcn,hCN⟩:=(g1.calls.rd xK).val
       have hcl2:l.cs.length≤1000000:=by have:=congrArg List.length g1.cls;rw[List.length_map]at this;rw[this];exact HCN.out
       have hnod:=List.nodup_cons.1 g1.apart
       have hown0:=g1.calls
       rw[hcv]at hown0
       have hmbn:mb ∉ (Value.slice ca cn cc).ownBlock.toList:=fun hb=>hnod.1 (List.mem_append_left _ (by rw[hcv];exact hb))
       have hqn:q ∉ (Value.slice ca cn cc).ownBlock.toList:=fun hb=>(g4 q HT.out.hq.1).2.1 (by simp only[zW,List.mem_cons,List.mem_append];exact .inr (.inl (by rw[hcv];exact hb)))
       have hlow:base≤wc.heap.size:=Nat.le_trans hl h0.size
       have HOWN:=η hown0
       have HMB:=η g1.head
       have hbb:wc.cell? ⟨mb,31,none⟩=some (.slice ca cn cc):=by have:=g1.cell 31 rfl;rw[hcv]at this;exact this
       have hbz:=hbb
       have HBX:=η HT.out.box
       have HY1:Hid (Rd (wc.alloc (.cells #[.int .i64 yt.c.id,.int .i64 yt.c.map,.slice yt.ka yt.c.key.length yt.kc,.slice yt.va yt.c.val.length yt.vc,.slice yt.na yt.c.n.length yt.nc,.int .u64 yt.c.ret] 76)) 6 CB.enc (.slice (some ⟨wc.heap.size,0,none⟩) 1 1) [yt]):=η ((Own.lit xK (base:=0) (w:=wc) [yt] rfl rfl (Nat.zero_le _) (by simp[maxLen])).rd xK)
       have HF5:Hid (∀ u':World,(wc.alloc (.cells #[.int .i64 yt.c.id,.int .i64 yt.c.map,.slice yt.ka yt.c.key.length yt.kc,.slice yt.va yt.c.val.length yt.vc,.slice yt.na yt.c.n.length yt.nc,.int .u64 yt.c.ret] 76)).grownBy u' (Value.slice ca cn cc).ownBlock→Keep (Value.slice ca cn cc).ownBlock.toList wc u'∧u'.cell? ⟨mb,31,none⟩=some (.slice ca cn cc)∧u'.frozen? ⟨mb,31,none⟩=false∧u'.heap[q]?=some (yU yt)):=η fun u' hg=>by
        have hk:Keep (Value.slice ca cn cc).ownBlock.toList wc u':=(Keep.of_ext ((Ext.rfl' wc).alloc' _)).trans (yB hg)
        exact⟨hk,yJ (a:=⟨mb,31,none⟩) (fun o ho=>hk.obj ho hmbn) hbz,zA (hk.obj HMB.out hmbn),hk.obj HBX.out hqn⟩
       have hfz:=zA (i:=31) g1.head
       have hfz2:(wc.alloc (.cells #[.int .i64 yt.c.id,.int .i64 yt.c.map,.slice yt.ka yt.c.key.length yt.kc,.slice yt.va yt.c.val.length yt.vc,.slice yt.na yt.c.n.length yt.nc,.int .u64 yt.c.ret] 76)).drew.frozen? ⟨mb,31,none⟩=false:=zA (i:=31) (zB (.cells #[.int .i64 yt.c.id,.int .i64 yt.c.map,.slice yt.ka yt.c.key.length yt.kc,.slice yt.va yt.c.val.length yt.vc,.slice yt.na yt.c.n.length yt.nc,.int .u64 yt.c.ret] 76) g1.head)
       have hbw4:(wc.alloc (.cells #[.int .i64 yt.c.id,.int .i64 yt.c.map,.slice yt.ka yt.c.key.length yt.kc,.slice yt.va yt.c.val.length yt.vc,.slice yt.na yt.c.n.length yt.nc,.int .u64 yt.c.ret] 76)).drew.cell? ⟨mb,31,none⟩=some (.slice ca cn cc):=yJ (w:=wc) (a:=⟨mb,31,none⟩) (fun o ho=>zB _ ho) hbb
       have hqmb:q≠mb:=HT.out.hq.2.2
       (obtain⟨b0,b1,b2,b3,b4,b5⟩:=κ6 (HBX.out);have bf:=fun i=>zA (i:=i) (HBX.out);skip)
       have HL:=η (And.intro h0 (And.intro hl (And.intro g1 (And.intro g2 (And.intro g3 (And.intro g4 hcv))))))
       clear h0 hl g1 g2 g3 g4 hcv hnod hown0 hbz hcx
       go_upto_region 10 with fail
       go_region_law
        ((apply qT el_called xK (xs:=l.cs) (ys:=[yt]) (base:=base);(case hw=>rfl);(case ho=>rfl);(case hs=>rfl);(case hown=>exact(HOWN.out.alloc _).drew);(case hx=>rfl);(case hy=>exact HY1.out.ext (Ext.drew' (Ext.rfl' _)));(case hbytes=>simp;omega);(case hbase=>simp;omega);intro lv w5 hown5 hgrow5 hmv5;obtain⟨hk5,d0,d1,d2⟩:=HF5.out w5 ⟨hgrow5.os,hgrow5.tape,hgrow5.output,hgrow5.size,hgrow5.block⟩;have HO5:=η hown5;have HK5:=η hk5;have HB5:=η d2;have HMV5:Hid (∀ k,lv.ownBlock=some k→(Value.slice ca cn cc).ownBlock=some k∨wc.heap.size≤k):=η (fun k hk=>(hmv5 k hk).imp id (fun h=>by simp at h;omega));clear hown5 hgrow5 hmv5 hk5 d2;obtain⟨la,ln,lc,rfl,hln,hLN⟩:=(HO5.out.rd xK).val))
       all_goals
        obtain⟨h0,hl,g1,g2,g3,g4,hcv⟩:=HL.out
        have hpu:=PRelQ.push (x:=yt) (v:=.slice la ln lc) h0 hl g1 g2 g3 g4 (fun j hj=>⟨(HT.out.hy j hj).1,(HT.out.hy j hj).2.1⟩) ⟨HT.out.c.key.rd (zG _),HT.out.c.val.rd (zG _),HT.out.c.n.rd (zG _)⟩ (by rw[hcv];exact HK5.out) HO5.out (by rw[hcv];exact HMV5.out)
        have HM6:=η hpu.1
        have HB6:=η (hpu.2 q HT.out.hq.1 _ HBX.out)
        clear hpu h0 hl g1 g2 g3 g4 hcv b0 b1 b2 b3 b4 b5 bf hbb hfz hfz2 hbw4 HL HF5 HY1 d0 d1
        generalize hw6:(World.setCell w5 ⟨mb,31,none⟩ (.slice la ln lc))=w6 at *
        clear hw6
        have hcl5:=fun ty=>run_clear5 HM6.out ty 10
        have HM7:=η HM6.out.clr5
        have HB7:=η ((ten0_other w6 hqmb).trans HB6.out)
        have hlt6:=HM6.out.lt
        go_upto_region 11 with fail
        go_wp2_with (simp only[hcl5])
        generalize w6.setCells mb 3 ten0=w7 at HM7 HB7 ⊢
        have z5:w7.cell? ⟨q,5,none⟩=some (.int .u64 yt.c.ret):=cO HB7.out
        have z5g:=Grow.cell z5
        clear z5 hcl5
        (refine zR 7 (by kernel_rfl) (by kernel_rfl) ?_;simp only[List.take_succ_cons,List.take_zero];(repeat (go_big_quiet_step ((fail))));refine wpQuiet_nil ?_;rintro wz ⟨nz,hz⟩;have hwq:=nz.ext;rw[← hz]at hwq;simp only[List.drop_succ_cons,List.drop_zero];clear hz)
        have HM8:=η (HM7.out.go hwq)
        have HM9:=η (HM8.out.setR (d:=0) (by decide) yt.c.ret)
        obtain⟨h0,hl,l8,g1,g2,g3⟩:=HM8.out
        have m1:=g1.cell 1 rfl
        have m2:=g1.cell 2 rfl
        have mf:=fun i=>zA (i:=i) g1.head
        clear h0 hl g1 g2 g3
        go_wp2_with fail
        go_returns
        obtain rfl:=HRS.out
        have hst:=HST.out
        subst hst
        exact⟨rfl,T',HV2.out,HM9.out⟩
end
def ItemsO (l:List (ByteArray×List Int))(w:World)(e:Ending)(w':World):Prop :=
 ∃ v I,e=.returned v∧Own w' w.heap.size 36 2 IT.enc v I∧(∀ y∈I,∀ F u,(∀ q∈F,q < w.heap.size∨q∈v.ownBlock.toList)→Keep F w' u→Sl u .u8 y.kv y.key∧Sl u .u8 y.vv y.val)∧I.map (fun x=>(strOfNums x.key,x.val))=l∧Ext w w'
theorem items_step2 {wr w6 w8:World}{v lv:Value}{I:List IT}{y:IT}{B0:Nat}(hB:B0≤wr.heap.size)(hE:Ext wr w6)(hold:∀ q∈v.ownBlock.toList,q < wr.heap.size)
  (HSI:∀ y∈I,∀ F w',(∀ q∈F,q < B0∨q∈v.ownBlock.toList)→Keep F wr w'→Sl w' .u8 y.kv y.key∧Sl w' .u8 y.vv y.val)
  (hk:Sl w6 .u8 y.kv y.key) (hkb:∀ a n c,y.kv=.slice (some a) n c→wr.heap.size≤a.block∧a.block < w6.heap.size) (hv:Sl w6 .u8 y.vv y.val) (hvb:∀ a n c,y.vv=.slice (some a) n c→wr.heap.size≤a.block∧a.block < w6.heap.size)
  {o:Obj} (hg:(w6.alloc o).grownBy w8 v.ownBlock) (hmv:∀ q∈lv.ownBlock.toList,q∈v.ownBlock.toList∨w6.heap.size≤q) :
  ∀ z∈I++[y],∀ F w',(∀ q∈F,q < B0∨q∈lv.ownBlock.toList)→Keep F w8 w'→Sl w' .u8 z.kv z.key∧Sl w' .u8 z.vv z.val:=by
 have hk8:=yB hg
 have hk9:Keep v.ownBlock.toList wr w8:=(Keep.of_ext (hE.alloc' o)).trans hk8
 have hs:=hE.size
 intro z hz F w' hF k'
 rcases List.mem_append.1 hz with hz|hz
 ·refine HSI z hz (v.ownBlock.toList++F.filter (fun q=>decide (q < wr.heap.size))) w' (fun q hq=>?_) ((hk9.mono fun q hq=>.inl (List.mem_append_left _ hq)).through k' (fun q hq=>?_))
  ·rcases List.mem_append.1 hq with hq|hq
   ·exact .inr hq
   ·have h1:=List.mem_filter.1 hq
    have h2:q < wr.heap.size:=by simpa using h1.2
    rcases hF q h1.1 with h|h
    ·exact .inl h
    ·exact(hmv q h).elim .inr (fun h=>by omega)
  ·by_cases h2:q < wr.heap.size
   ·exact .inl (List.mem_append_right _ (List.mem_filter.2 ⟨hq,by simpa using h2⟩))
   ·exact .inr (by omega)
 ·rw[List.mem_singleton]at hz
  subst hz
  have hx:Ext w6 (w6.alloc o):=(Ext.rfl' w6).alloc' o
  have go:∀ (u:Value) (xs:List Int),Sl w6 .u8 u xs→(∀ a n c,u=.slice (some a) n c→wr.heap.size≤a.block∧a.block < w6.heap.size)→Sl w' .u8 u xs:=fun u xs h hb=>by
   refine((h.ext hx).keep hk8 (fun a n c e hq=>?_)).keep k' (fun a n c e hq=>?_)
   ·have:=hold _ hq;have:=(hb a n c e).1;omega
   ·rcases hF _ hq with h0|h0
    ·have:=(hb a n c e).1;omega
    ·rcases hmv _ h0 with h1|h1
     ·have:=hold _ h1;have:=(hb a n c e).1;omega
     ·have:=(hb a n c e).2;omega
  exact⟨go _ _ hk hkb,go _ _ hv hvb⟩
structure EV  where
 code:Int
 at_:Int
 r0:Int
 steps:Int
 calls:List Cl
 maps:List (List (ByteArray×List Int))
def RS.codeV (τ:RS):Int:=if τ.over then τ.code else 111
def RS.endV (τ:RS):EV:=⟨τ.codeV,τ.place,if τ.codeV=0 then τ.R 0 else 0,τ.steps,τ.calls,(List.range τ.D.length).map (fun i:Nat=>pB τ.V (i:Int))⟩
structure SV  where
 a:Option Addr
 n:Nat
 c:Nat
def SV.v (x:SV):Value:=.slice x.a x.n x.c
abbrev encW:SV→List Value:=fun x=>[x.v]
theorem tF:Enc 1 encW:=⟨fun _=>rfl,fun x u hu=>by
 simp only[List.mem_singleton]at hu
 subst hu;rfl⟩
section
variable {F0 Z0:List Nat} {wf w w':World} {base mb:Nat} {σ:RS} {l:RLay}
theorem iter_over:∀ (n:Nat) (σ:RS),σ.over=true→RS.iter n σ=σ
 | 0,σ,h=>rfl
 | n+1,σ,h=>by rw[RS.iter,if_pos h]
theorem step_steps (h:σ.over=false)(hi:σ.Inv):σ.step.1.over=true∨σ.step.1.steps=σ.steps+1:=by
 obtain⟨x,hon⟩:=hi.on
 unfold RS.step
 rw[if_neg (by rw[h];decide),hon.code]
 simp only
 by_cases he:(σ.does x (zL x)).2.2≠0
 ·rw[if_pos he];exact .inl rfl
 ·rw[if_neg he];right;show (σ.does x (zL x)).1.steps+1=_;rw[kB]
theorem step_mono (hi:σ.Inv):σ.steps≤σ.step.1.steps:=by
 obtain⟨x,hon⟩:=hi.on
 unfold RS.step
 by_cases h:σ.over=true
 ·rw[if_pos h];exact Int.le_refl _
 rw[if_neg h,hon.code]
 simp only
 by_cases he:(σ.does x (zL x)).2.2≠0
 ·rw[if_pos he];show σ.steps≤(σ.does x (zL x)).1.steps;rw[kB];exact Int.le_refl _
 ·rw[if_neg he];show σ.steps≤(σ.does x (zL x)).1.steps+1;rw[kB];omega
theorem run_stop {fuel:Int}(h:σ.over=true∨fuel≤σ.steps):σ.run fuel=σ:=by
 unfold RS.run
 rcases h with h|h
 ·exact iter_over _ _ h
 ·rw[show (fuel - σ.steps).toNat=0 by omega];rfl
theorem run_step {fuel:Int}(h:σ.over=false)(hs:σ.steps < fuel)(hi:σ.Inv):σ.step.1.run fuel=σ.run fuel:=by
 obtain⟨n,hn⟩:∃ n,(fuel - σ.steps).toNat=n+1:=⟨(fuel - σ.steps).toNat - 1,by omega⟩
 have e:σ.run fuel=RS.iter n σ.step.1:=by rw[RS.run,hn,RS.iter,if_neg (by rw[h];decide)]
 rw[e]
 rcases step_steps h hi with h1|h1
 ·rw[run_stop (.inl h1),iter_over _ _ h1]
 ·rw[RS.run,h1,show (fuel - (σ.steps+1)).toNat=n by omega]
abbrev endZ:Obj:=.cells #[.int .i64 0,.int .i64 0,.int .u64 0,.int .i64 0,.slice none 0 0,.slice none 0 0] 45
abbrev outObj (a b c d cv mv:Value):Obj:=.cells #[a,b,c,d,cv,mv] 45 (0,0)
theorem el_itemrows:El Tryz.prog 25 34 1 24 (.slice none 0 0):=⟨Tryz.underlying25,by kernel_rfl,rfl,by decide,fun _=>by kernel_rfl⟩
def RowsAt (q:Nat)(mv:Value)(wr:World)(rows:List SV)(f:Nat→List (ByteArray×List Int)):Prop :=
 ∀ (j:Nat) row,rows[j]?=some row→∃ A B,q < A∧B≤wr.heap.size∧(∀ x,mv.ownBlock=some x→x < A∨B≤x)∧∀ F u,(∀ x∈F,x < A∨B≤x)→Keep F wr u→IsItems u row.v (f j)
theorem RowsAt.next {q:Nat}{mv mv':Value}{wr wI w5 w8:World}{rows:List SV}{f:Nat→List (ByteArray×List Int)}{r:SV}{I:List IT}(h:RowsAt q mv wr rows f)(hm:∀ x,mv.ownBlock=some x→x < wr.heap.size)(hq:q < wr.heap.size)(hI:Ext wr wI)
  (hO:Own w5 wI.heap.size 36 2 IT.enc r.v I) (hS:∀ y∈I,∀ F u,(∀ q∈F,q < wI.heap.size∨q∈r.v.ownBlock.toList)→Keep F w5 u→Sl u .u8 y.kv y.key∧Sl u .u8 y.vv y.val) (hl:I.map (fun x=>(strOfNums x.key,x.val))=f rows.length) (h5:Ext wI w5)
  (k8:Keep mv.ownBlock.toList w5 w8) (hmv:∀ x,mv'.ownBlock=some x→mv.ownBlock=some x∨w5.heap.size≤x) (i:Nat) (z:Value):RowsAt q mv' (w8.setCell ⟨q,i,none⟩ z) (rows++[r]) f:=by
 have k9:Keep [q] w8 (w8.setCell ⟨q,i,none⟩ z):=(Keep.rfl' _ _).setCell (by simp) z
 have kq:Keep (q :: mv.ownBlock.toList) w5 (w8.setCell ⟨q,i,none⟩ z):=(k8.mono fun x hx=>.inl (List.mem_cons_of_mem _ hx)).trans (k9.mono fun x hx=>.inl (by rw[List.mem_singleton]at hx;subst hx;exact List.mem_cons_self))
 have s1:=hI.size
 have s2:=h5.size
 have s3:=kq.size
 intro j row hj
 by_cases hjr:j < rows.length
 ·rw[List.getElem?_append_left hjr]at hj
  obtain⟨A,B,h1,h2,h3,h4⟩:=h j row hj
  refine⟨A,B,h1,by omega,fun x hx=>?_,fun F u hF k=>h4 ((q :: mv.ownBlock.toList)++F) u (fun x hx=>?_) ?_⟩
  ·rcases hmv x hx with hx|hx
   ·exact h3 x hx
   ·exact .inr (by omega)
  ·rcases List.mem_append.1 hx with hx|hx
   ·rcases List.mem_cons.1 hx with rfl|hx
    ·exact .inl h1
    ·exact h3 x (by simpa using hx)
   ·exact hF x hx
  ·exact((Keep.of_ext (hI.trans' h5)).trans (kq.mono fun x hx=>.inl (List.mem_append_left _ hx))).trans (k.mono fun x hx=>.inl (List.mem_append_right _ hx))
 ·have hj2:j=rows.length:=by
   have:=(List.getElem?_eq_some_iff.1 hj).1
   rw[List.length_append,List.length_singleton]at this
   omega
  subst hj2
  rw[List.getElem?_append_right (Nat.le_refl _),Nat.sub_self]at hj
  obtain rfl:r=row:=by simpa using hj
  refine⟨wI.heap.size,w5.heap.size,by omega,by omega,fun x hx=>?_,fun F u hF k=>?_⟩
  ·rcases hmv x hx with hx|hx
   ·exact .inl (by have:=hm x hx;omega)
   ·exact .inr hx
  ·have ku:Keep ((q :: mv.ownBlock.toList)++F) w5 u:=(kq.mono fun x hx=>.inl (List.mem_append_left _ hx)).trans (k.mono fun x hx=>.inl (List.mem_append_right _ hx))
   have hlow:∀ x∈(q :: mv.ownBlock.toList)++F,x < wI.heap.size∨w5.heap.size≤x:=fun x hx=>by
    rcases List.mem_append.1 hx with hx|hx
    ·rcases List.mem_cons.1 hx with rfl|hx
     ·exact .inl (by omega)
     ·exact .inl (by have:=hm x (by simpa using hx);omega)
    ·exact hF x hx
   have ku2:Keep (((q :: mv.ownBlock.toList)++F).filter fun x=>decide (x < wI.heap.size)) w5 u:=(Keep.rfl' _ w5).through ku (fun x hx=>(hlow x hx).elim (fun h=>.inl (List.mem_filter.2 ⟨hx,by simpa using h⟩)) .inr)
   have hfl:∀ x∈((q :: mv.ownBlock.toList)++F).filter (fun x=>decide (x < wI.heap.size)),x < wI.heap.size:=fun x hx=>by simpa using (List.mem_filter.1 hx).2
   refine⟨I,(hO.keep ku2 (fun x hx hx'=>by have:=hfl x hx';have:=(hO.lt hx).1;omega)).rd vQ,fun y hy=>hS y hy _ u (fun x hx=>.inl (hfl x hx)) ku2,hl⟩
theorem Own.chain6 {α:Type}{w:World}{base:Nat}{e:TypeId}{sz:Nat}{enc:α→List Value}{v:Value}{xs:List α}(h:Own w base e sz enc v xs){b:Nat}(hb:b < base)(v0 v1 v2 v3 v4 v5:Value):Own ((((((w.setCell ⟨b,0,none⟩ v0).setCell ⟨b,1,none⟩ v1).setCell ⟨b,2,none⟩ v2).setCell ⟨b,3,none⟩ v3).setCell ⟨b,4,none⟩ v4).setCell ⟨b,5,none⟩ v5) base e sz enc v xs :=
 (((((h.other hb _).other hb _).other hb _).other hb _).other hb _).other hb _
theorem RowsAt.set {q x:Nat}{mv:Value}{wr:World}{rows:List SV}{f:Nat→List (ByteArray×List Int)}(h:RowsAt q mv wr rows f)(hx:x≤q)(i:Nat)(z:Value):RowsAt q mv (wr.setCell ⟨x,i,none⟩ z) rows f:=fun j row hj=>by
 obtain⟨A,B,h1,h2,h3,h4⟩:=h j row hj
 have k9:Keep [x] wr (wr.setCell ⟨x,i,none⟩ z):=(Keep.rfl' _ _).setCell (by simp) z
 exact⟨A,B,h1,Nat.le_trans h2 k9.size,h3,fun F u hF k=>h4 ([x]++F) u (fun y hy=>by
  rcases List.mem_append.1 hy with hy|hy
  ·rw[List.mem_singleton]at hy;subst hy;exact .inl (by omega)
  ·exact hF y hy) ((k9.mono fun y hy=>.inl (List.mem_append_left _ hy)).trans (k.mono fun y hy=>.inl (List.mem_append_right _ hy)))⟩
theorem RowsAt.chain6 {q x:Nat}{mv:Value}{wr:World}{rows:List SV}{f:Nat→List (ByteArray×List Int)}(h:RowsAt q mv wr rows f)(hx:x≤q)(v0 v1 v2 v3 v4 v5:Value):RowsAt q mv ((((((wr.setCell ⟨x,0,none⟩ v0).setCell ⟨x,1,none⟩ v1).setCell ⟨x,2,none⟩ v2).setCell ⟨x,3,none⟩ v3).setCell ⟨x,4,none⟩ v4).setCell ⟨x,5,none⟩ v5) rows f :=
 (((((h.set hx _ _).set hx _ _).set hx _ _).set hx _ _).set hx _ _).set hx _ _
theorem set6_same {w:World}{B:Nat}{t:TypeId}{a0 a1 a2 a3 a4 a5:Value}(h:w.heap[B]?=some (.cells #[a0,a1,a2,a3,a4,a5] t (0,0)))(v0 v1 v2 v3 v4 v5:Value):
  ((((((w.setCell ⟨B,0,none⟩ v0).setCell ⟨B,1,none⟩ v1).setCell ⟨B,2,none⟩ v2).setCell ⟨B,3,none⟩ v3).setCell ⟨B,4,none⟩ v4).setCell ⟨B,5,none⟩ v5).heap[B]?=some (.cells #[v0,v1,v2,v3,v4,v5] t (0,0)) :=
 (uS (w0:={w with heap:=#[]}) h ⟨rfl,rfl,rfl,Nat.zero_le _,fun k hk=>absurd hk (Nat.not_lt_zero _)⟩ (Nat.zero_le _) v0 v1 v2 v3 v4 v5).1
end
section
variable {F0 Z0:List Nat} {wf w w':World} {base mb:Nat} {σ:RS} {l:PLay}
theorem gQ {α:Type}{f:RS→α}{c:Prop}[Decidable c]{a b:RS×Int×Int}{n:α}(ha:f a.1=n)(hb:f b.1=n):f (if c then a else b).1=n:=by split<;>assumption
theorem vX {α:Type}{f:RS→α}{c:Prop}[Decidable c]{a b:RS×Int}{n:α}(ha:f a.1=n)(hb:f b.1=n):f (if c then a else b).1=n:=by split<;>assumption
theorem does_same {α:Type}(f:RS→α)(hR:∀ (s:RS) d n,f (s.setR d n)=f s)(hM:∀ (s:RS) M,f (s.setM M)=f s)(hV:∀ (s:RS) V,f {s with V:=V}=f s)(hdr:∀ (s:RS) d,f {s with dr:=d}=f s)(hdo:∀ (s:RS) c,f (s.done c)=f s)(x:Ins)(k:Wh)(ho:k.kind=12→σ.S 0=true→f {σ with over:=true}=f σ):f (σ.does x k).1=f σ:=by
 unfold RS.does
 refine gQ (vX rfl (hR _ _ _)) (gQ (gQ rfl (hR _ _ _)) (gQ ?_ (gQ (gQ rfl (hR _ _ _)) (gQ (vX rfl (vX rfl (hR _ _ _))) (gQ (vX rfl (vX (vX rfl (hM _ _)) (hM _ _))) (gQ rfl (gQ (gQ rfl rfl) (gQ (vX rfl (vX rfl (vX (vX rfl ((hdo _ _).trans (hdr _ _))) (vX (hV _ _) ((hdo _ _).trans (hV _ _)))))) ?_))))))))
 ·cases σ.L[σ.place.toNat+1]? with
  | none=>rfl
  | some y=>exact hR _ _ _
 ·by_cases h12:k.kind=12
  ·rw[if_pos h12]
   cases hs:σ.S 0 with
   | false=>rfl
   | true=>exact ho h12 hs
  ·rw[if_neg h12]
theorem does_L (x:Ins)(k:Wh):(σ.does x k).1.L=σ.L:=does_same (fun s=>s.L) (fun _ _ _=>rfl) (fun _ _=>rfl) (fun _ _=>rfl) (fun _ _=>rfl) (fun _ _=>rfl) x k (fun _ _=>rfl)
theorem does_place (x:Ins)(k:Wh):(σ.does x k).1.place=σ.place:=does_same (fun s=>s.place) (fun _ _ _=>rfl) (fun _ _=>rfl) (fun _ _=>rfl) (fun _ _=>rfl) (fun _ _=>rfl) x k (fun _ _=>rfl)
theorem does_over (x:Ins)(k:Wh)(h:k.kind≠12):(σ.does x k).1.over=σ.over:=does_same (fun s=>s.over) (fun _ _ _=>rfl) (fun _ _=>rfl) (fun _ _=>rfl) (fun _ _=>rfl) (fun _ _=>rfl) x k (fun h'=>absurd h' h)
theorem does_over12 (x:Ins)(k:Wh)(h:k.kind=12)(he:(σ.does x k).2.2=0):(σ.does x k).1.over=true:=by
 have e:σ.does x k=if σ.S 0=false then (σ,0,110) else ({σ with over:=true},σ.place,0):=by simp only[RS.does,h];simp
 rw[e]at he ⊢
 cases hs:σ.S 0 with
 | false=>rw[hs]at he;simp at he
 | true=>simp
def PSAns2 (F0 Z0:List Nat)(wf:World)(base mb:Nat)(r:RS×Bool×Int)(e:Ending)(w':World):Prop:=e=.returned (.tuple #[.bool r.2.1,.int .i64 r.2.2])∧PS F0 Z0 wf base w' mb r.1
set_option maxHeartbeats 2000000 in
theorem p_does11 (x:Ins)(k:Wh)(h:PS F0 Z0 wf base w mb σ)(ho:σ.Ok)(hD:DefsOk σ.D)(hdl:σ.dr.length≤1000000)(hcl:σ.calls.length≤1000000)(hx:x.Ok)(h1:k.kind=11):
  Calls Tryz.prog 57 #[.pointer (some ⟨mb,0,none⟩),x.agg,k.agg] w (PSAns2 F0 Z0 wf base mb ((σ.call x).1,false,(σ.call x).2)):=by
 have HL:=η (fun W (he:Ext w W)=>p_call x (h.go he) ho hD hdl hcl hx)
 obtain⟨res,hres⟩:∃ r,RS.call σ x=r:=⟨_,rfl⟩
 rw[hres]at HL ⊢
 obtain⟨op,dst,src,off,imm⟩:=x
 obtain⟨kind,kop,wide,reg,sg,size⟩:=k
 simp only at h1
 subst h1
 clear hres h hx ho
 go_enter Tryz.func57,Tryz.ntmps57
 go_wp2_with fail
 refine(HL.out _ (by (repeat (first|exact xE0 _|assumption|refine xE1 ?_ _|refine xE2 ?_|refine xE3 ?_ _|refine xE4 ?_ (by assumption))))).mono ?_
 rintro e w1 ⟨rfl,hM⟩
 have HM:=η hM
 clear hM
 go_wp2_with fail
 go_returns
 exact⟨rfl,HM.out⟩
theorem p_doesA (x:Ins)(k:Wh)(p:Nat)(h:PS F0 Z0 wf base w mb σ)(ho:σ.Ok)(hD:DefsOk σ.D)(hdl:σ.dr.length≤1000000)(hcl:σ.calls.length≤1000000)(hio:InsOk σ.L)(hl:σ.L.length≤512)(hx:x.Ok)(hk:KindOk x k)(hp:σ.place=p)(hy:k.kind=3→∃ y,σ.L[p+1]?=some y)(hr:k.kind=2→k.reg=false):
  ∃ hops,NextOk σ x k hops∧Calls Tryz.prog 57 #[.pointer (some ⟨mb,0,none⟩),x.agg,k.agg] w (PSAns2 F0 Z0 wf base mb ((σ.does x k).1,hops,(σ.does x k).2.2)):=by
 by_cases h11:k.kind=11
 ·have e:σ.does x k=((σ.call x).1,((zT x σ.place.toNat:Nat):Int),(σ.call x).2):=by simp only[RS.does,h11];simp
  refine⟨false,fun he=>?_,?_⟩
  ·rw[e,if_neg (by omega)];rfl
  ·rw[e];exact p_does11 x k h ho hD hdl hcl hx h11
 ·obtain⟨T,r,h⟩:=h
  obtain⟨hops,h1,h2⟩:=p_doesN (σ:=σ.vt T) x k p h ho hio hl hx hk hp hy hr h11
  have hv:=vt_does (σ:=σ) (T:=T) x k h11
  refine⟨hops,?_,h2.mono ?_⟩
  ·have:NextOk (σ.vt T) x k hops:=h1
   unfold NextOk at this ⊢
   rw[hv]at this
   exact this
  ·rintro e w' ⟨rfl,hM⟩
   rw[hv]at hM ⊢
   exact⟨rfl,PS.of r (does_v x k h11) hM⟩
end
section
variable {F0 Z0:List Nat} {wf w w':World} {base mb:Nat} {σ:RS} {l:PLay}
theorem swapped_reg (x:Ins)(h:(zL x).kind=2):(zL x).reg=false:=by
 unfold zL at h ⊢
 cases hw:xH x with
 | none=>rfl
 | some y =>
  rw[hw]at h
  simp only[Option.getD_some]at h ⊢
  unfold xH at hw
  split at hw
  ·cases hw
  split at hw
  ·unfold gV at hw
   repeat' split at hw
   all_goals first|(cases hw;done)|(cases hw;simp at h)
  split at hw
  ·unfold vL at hw
   repeat' split at hw
   all_goals first|(cases hw;done)|(cases hw;rfl)
  split at hw
  ·unfold xD at hw
   repeat' split at hw
   all_goals first|(cases hw;done)|(cases hw;simp at h)
  split at hw
  ·unfold kJ at hw
   repeat' split at hw
   all_goals first|(cases hw;done)|(cases hw;simp at h)
  split at hw
  ·cases hw
  ·unfold uM at hw
   repeat' split at hw
   all_goals first|(cases hw;done)|(cases hw;simp at h)
set_option maxRecDepth 20000 in
set_option maxHeartbeats 4000000 in
theorem p_Step (h:PS F0 Z0 wf base w mb σ)(hg:σ.Good)(hD:DefsOk σ.D)(ho:σ.over=false→∃ p x,σ.On p x):
  Calls Tryz.prog 27 #[.pointer (some ⟨mb,0,none⟩)] w (PSAns F0 Z0 wf base mb σ.step.1 (.int .i64 σ.step.2)):=by
 have HM:=η h
 have HG:=η hg
 have hlt:=h.lt
 obtain⟨res,hres⟩:∃ r,RS.step σ=r:=⟨_,rfl⟩
 rw[hres]
 have HRES:=η hres
 clear hres hg
 obtain⟨T,_,h0,hl,l,g1,g2,g3⟩:=h
 have HAT:=η g1
 have hc28:=g1.cell 28 rfl
 clear h0 hl g2 g3
 cases hov:σ.over
 case true =>
  rw[show (σ.vt T).over=true from hov]at hc28
  have HOV:=η hov
  clear g1 hov ho
  go_enter Tryz.func27,Tryz.ntmps27
  go_wp2_with fail
  go_returns
  obtain rfl:res=(σ,114):=by rw[← HRES.out,RS.step,if_pos HOV.out]
  exact⟨rfl,HM.out⟩
 case false =>
  rw[show (σ.vt T).over=false from hov]at hc28
  obtain⟨p,x,hon⟩:=ho hov
  have HOV:=η hov
  have HON:=η hon
  obtain⟨la,ln,lc,hlv,hln,hLN⟩:=g1.code.val
  have hcd:=g1.code
  have hc0:=g1.cell 0 rfl
  have hc27:=g1.cell 27 rfl
  rw[hlv]at hcd hc0
  rw[show (σ.vt T).place=(p:Int) from hon.place]at hc27
  have hpl:p < ln:=by rw[hLN.out];exact(List.getElem?_eq_some_iff.1 hon.code).1
  have hl5:ln≤512:=by rw[hLN.out];exact HG.out.len
  have ix:=fun W=>hcd.run_at (P:=Tryz.prog) el_ins.under el_ins.size .i64 (p:Int) (by omega) (by omega) W
  simp only[Int.toNat_natCast]at ix
  have hpt:σ.place.toNat=p:=by have:=hon.place;omega
  have HR:Hid (res=if (σ.does x (zL x)).2.2≠0 then ({(σ.does x (zL x)).1 with over:=true,code:=(σ.does x (zL x)).2.2},(σ.does x (zL x)).2.2) else ({(σ.does x (zL x)).1 with place:=(σ.does x (zL x)).2.1,steps:=(σ.does x (zL x)).1.steps+1},0)):=η (by
   rw[← HRES.out,RS.step,if_neg (by rw[hov];decide),hpt,hon.code])
  have HPT:=η hpt
  have HWH:=η (fun W=>p_What x W HON.out.ok)
  have HSS:Hid (∀ w',Ext w w'→w'.cell? ⟨mb,0,none⟩=some (.slice la ln lc)∧w'.cell? ⟨mb,27,none⟩=some (.int .i64 (p:Int))∧w'.cell? (elt (.slice la ln lc) (p * 5))=some (.int .u8 x.op)∧w'.cell? ⟨(elt (.slice la ln lc) (p * 5)).block,(elt (.slice la ln lc) (p * 5)).off+1,none⟩=some (.int .u8 x.dst)∧w'.cell? ⟨(elt (.slice la ln lc) (p * 5)).block,(elt (.slice la ln lc) (p * 5)).off+2,none⟩=some (.int .u8 x.src)∧w'.cell? ⟨(elt (.slice la ln lc) (p * 5)).block,(elt (.slice la ln lc) (p * 5)).off+3,none⟩=some (.int .i16 x.off)∧w'.cell? ⟨(elt (.slice la ln lc) (p * 5)).block,(elt (.slice la ln lc) (p * 5)).off+4,none⟩=some (.int .i32 x.imm)):=η (fun w' he=>by
   obtain⟨e0,e1,e2,e3,e4⟩:=yQ (hcd.ext he) hon.code
   exact⟨he.cellOf hc0,he.cellOf hc27,e0,e1,e2,e3,e4⟩)
  clear g1 hov ho hon hlv hcd hpt hc0 hc27
  go_enter Tryz.func27,Tryz.ntmps27
  go_upto_region 5 with fail
  go_cut [3] from 16 to 26 (fun v wx=>∃ q,v=.pointer (some ⟨q,0,none⟩)∧Hid (w.heap.size≤q∧Ext w wx∧wx.heap[q]?=some (zQ x)))
  case first =>
   obtain⟨i0,i1,i2,i3,i4,i5,i6⟩:=HSS.out w (Ext.rfl' _)
   go_region_held3 (fun w'=>w'.cell? ⟨mb,0,none⟩=some (.slice la ln lc)∧w'.cell? ⟨mb,27,none⟩=some (.int .i64 (p:Int))∧w'.cell? (elt (.slice la ln lc) (p * 5))=some (.int .u8 x.op)∧w'.cell? ⟨(elt (.slice la ln lc) (p * 5)).block,(elt (.slice la ln lc) (p * 5)).off+1,none⟩=some (.int .u8 x.dst)∧w'.cell? ⟨(elt (.slice la ln lc) (p * 5)).block,(elt (.slice la ln lc) (p * 5)).off+2,none⟩=some (.int .u8 x.src)∧w'.cell? ⟨(elt (.slice la ln lc) (p * 5)).block,(elt (.slice la ln lc) (p * 5)).off+3,none⟩=some (.int .i16 x.off)∧w'.cell? ⟨(elt (.slice la ln lc) (p * 5)).block,(elt (.slice la ln lc) (p * 5)).off+4,none⟩=some (.int .i32 x.imm))
    ((refine HSS.out _ ?_;(repeat (first|exact xE0 _|assumption|refine xE1 ?_ _|refine xE2 ?_|refine xE3 ?_ _|refine Below.setCell ?_ (by first|(simp;done)|(simp;omega)|omega) _|refine Ext.trans' ?_ (by assumption)))))
    (fail)
   all_goals
    go_wp2_with fail
    go_meet
    exact⟨_,rfl,η ⟨Nat.le_refl _,by (repeat (first|exact xE0 _|assumption|refine xE1 ?_ _|refine xE2 ?_|refine xE3 ?_ _|refine Below.setCell ?_ (by first|(simp;done)|(simp;omega)|omega) _|refine Ext.trans' ?_ (by assumption))),zD _ _ rfl⟩⟩
  case rest =>
   obtain⟨q,rfl,HC⟩:=hcut
   obtain⟨hq,hE1,hb⟩:=HC.out
   have HE1:=η hE1
   have HO1:=η hb
   clear hE1 hb HC
   (have o1:=HO1.out;obtain⟨a0,a1,a2,a3,a4⟩:=κ5 o1;clear o1)
   go_upto_region 6 with fail
   go_cut [4] from 26 to 31 (fun v wx=>∃ r,v=.pointer (some ⟨r,0,none⟩)∧Hid (Ext w wx∧wx.heap[q]?=some (zQ x)∧wx.heap[r]?=some (zF (zL x))))
   case first =>
    go_wp2_with fail
    refine(HWH.out _).mono ?_
    rintro e w2 ⟨rfl,hE2⟩
    have HE2:=η hE2
    clear hE2
    go_wp2_with fail
    go_meet
    exact⟨_,rfl,η ⟨HE1.out.trans' (HE2.out.trans' ((Ext.rfl' _).alloc' _)),zB _ (HE2.out.obj HO1.out),zD _ _ rfl⟩⟩
   case rest =>
    obtain⟨r,rfl,HC⟩:=hcut
    obtain⟨hE2,hb,hb2⟩:=HC.out
    have HE2:=η hE2
    have HO1':=η hb
    have HO3:=η hb2
    clear hE2 hb hb2 HC a0 a1 a2 a3 a4 HO1
    have HO1:=HO1'
    clear HO1'
    obtain⟨hops,hnx,hdo⟩:=p_doesA x (zL x) p (HM.out.go HE2.out) HG.out.ok hD HG.out.drl HG.out.calls HG.out.ins HG.out.len HON.out.ok HON.out.kind HON.out.place HON.out.long (swapped_reg x)
    have HNX:=η hnx
    have HDO:=η hdo
    have HST:=η (kB (σ:=σ) x (zL x))
    have HLL:=η (does_L (σ:=σ) x (zL x))
    have HPP:=η (does_place (σ:=σ) x (zL x))
    have HOO:=η (does_over (σ:=σ) x (zL x))
    have HO12:=η (does_over12 (σ:=σ) x (zL x))
    obtain⟨τ,nx,er,hd⟩:∃ a b c,σ.does x (zL x)=(a,b,c):=⟨_,_,_,rfl⟩
    unfold NextOk at HNX
    rw[hd]at HNX HDO HST HLL HPP HOO HO12 HR
    simp only at HNX HDO HST HLL HPP HOO HO12 HR
    clear hd hnx hdo
    obtain⟨kd,hkd⟩:∃ n,(zL x).kind=n:=⟨_,rfl⟩
    rw[hkd]at HNX HOO HO12
    clear hkd
    (have o1:=HO1.out;have o3:=HO3.out;obtain⟨a0,a1,a2,a3,a4⟩:=κ5 o1;obtain⟨q0,q1,q2,q3,q4,q5⟩:=κ6 o3;clear o1 o3)
    go_wp2_with fail
    refine HDO.out.mono ?_
    rintro e w3 ⟨rfl,hM3⟩
    have HM3:=η hM3
    obtain⟨T3,hr3,hp3⟩:=hM3
    have HVR:=η hr3
    have HP3:=η hp3
    obtain⟨h0,hl,l3,g1,g2,g3⟩:=hp3
    have d28:=g1.cell 28 rfl
    have d29:=g1.cell 29 rfl
    have d30:=g1.cell 30 rfl
    have df:=fun i=>zA (i:=i) g1.head
    have hst:τ.steps=σ.steps:=HST.out
    have hd30:w3.cell? ⟨mb,30,none⟩=some (.int .i64 σ.steps):=by rw[d30];exact congrArg _ (congrArg _ hst)
    have hd28:w3.cell? ⟨mb,28,none⟩=some (.bool τ.over):=d28
    have hd29:w3.cell? ⟨mb,29,none⟩=some (.int .i64 τ.code):=d29
    have hs0:=HG.out.steps
    have hw1:wrap64 (σ.steps+1)=σ.steps+1:=by unfold wrap64;omega
    have hlt3:=zE g1.head
    clear h0 hl g1 g2 g3 hst a0 a1 a2 a3 a4 q0 q1 q2 q3 q4 q5 d28 d29 d30
    by_cases her:(er != 0)=true
    ·obtain rfl:res=({τ with over:=true,code:=er},er):=by rw[HR.out];exact if_pos (by simpa using her)
     go_wp2_with fail
     go_returns
     exact⟨rfl,T3,HVR.out,(HP3.out.cell1 28 (.bool true) (σ':=({τ with over:=true}:RS).vt T3) (fun l=>rfl)).cell1 29 (.int .i64 er) (fun l=>rfl)⟩
    ·obtain rfl:er=0:=by simpa using her
     have HRR:Hid (res=({τ with place:=nx,steps:=σ.steps+1},0)):=η (by rw[HR.out];rw[if_neg (by simp)];rw[show τ.steps=σ.steps from HST.out])
     have HS4:=η (HP3.out.cell1 30 (.int .i64 (σ.steps+1)) (σ':=({τ with steps:=σ.steps+1}:RS).vt T3) (fun l=>rfl))
     clear her HR
     cases hto:τ.over
     ·rw[hto]at hd28
      have hk12:kd≠12:=fun h=>by have:=HO12.out h rfl;rw[hto]at this;cases this
      have HNN:Hid (nx=if hops=true then (yT σ.L x p).getD 0 else ((zT x p:Nat):Int)):=η (by
       have:=HNX.out rfl
       rw[if_neg hk12,HPT.out]at this
       exact this)
      clear HNX HO12 HOO hk12
      have HX0:=HS4.out
      obtain⟨h0,hl,l4,g1,g2,g3⟩:=HS4.out
      obtain⟨ea,en,ec,hev,hen,hEN⟩:=g1.code.val
      have HCD:=η g1.code
      rw[hev]at HCD
      have k0:=g1.cell 0 rfl
      rw[hev]at k0
      have k27:=g1.cell 27 rfl
      rw[show (({τ with steps:=σ.steps+1}:RS).vt T3).place=(p:Int) from HPP.out.trans HON.out.place]at k27
      have k28:=g1.cell 28 rfl
      rw[show (({τ with steps:=σ.steps+1}:RS).vt T3).over=false from hto]at k28
      have hf4:=fun i=>zA (i:=i) g1.head
      have HOB:=η g1.head
      have HLX:Hid ((({τ with steps:=σ.steps+1}:RS).vt T3).L=σ.L):=HLL
      have hlt4:=zE g1.head
      rw[HLX.out]at HCD
      clear h0 hl g1 g2 g3 hto hev
      cases hops
      ·go_upto_region 12 with fail
       generalize w3.setCell ⟨mb,30,none⟩ (.int .i64 (σ.steps+1))=w4 at *
       have k0g:=Grow.cell k0
       have k27g:=Grow.cell k27
       clear k0 k27
       have HNC:=η (fun W (he:Ext w4 W)=>p_Next _ σ.L p x W (HCD.out.ext he) (by have:=HG.out.len;omega) HON.out.code)
       (refine zR 12 (by kernel_rfl) (by kernel_rfl) ?_;simp only[List.take_succ_cons,List.take_zero];(repeat (go_big_quiet_step ((go_at_call 59;exact Calls.grow (HNC.out _ (Grow.ext _))))));refine wpQuiet_nil ?_;rintro wz ⟨nz,hz⟩;have hwq:=nz.ext;rw[← hz]at hwq;simp only[List.drop_succ_cons,List.drop_zero];clear hz)
       have HP6:=η (HS4.out.go hwq)
       obtain⟨h0,hl,l6,g1,g2,g3⟩:=HP6.out
       have m27:=g1.cell 27 rfl
       have mf:=fun i=>zA (i:=i) g1.head
       clear h0 hl g1 g2 g3
       go_wp2_with fail
       go_returns
       obtain rfl:=HRR.out
       refine⟨rfl,T3,HVR.out,?_⟩
       rw[HNN.out]
       exact HP6.out.cell1 27 (.int .i64 ((zT x p:Nat):Int)) (fun l=>rfl)
      ·go_upto_region 15 with fail
       generalize w3.setCell ⟨mb,30,none⟩ (.int .i64 (σ.steps+1))=w4 at *
       have HNC:=η (fun W (he:Ext w4 W)=>p_Target _ σ.L p x W (HCD.out.ext he) (by have:=HG.out.len;omega) HON.out.code HON.out.ok)
       have HFM:=η (fun W (he:Ext w4 W)=>(⟨he.cellOf k27,zA (he.obj HOB.out)⟩:W.cell? ⟨mb,27,none⟩=some (.int .i64 (p:Int))∧W.frozen? ⟨mb,27,none⟩=false))
       go_region_law ((go_simp;go_at_call 58;refine(HNC.out _ (by (repeat (first|exact xE0 _|assumption|refine xE1 ?_ _|refine xE2 ?_|refine xE3 ?_ _|refine xE4 ?_ (by assumption))))).mono ?_;rintro e w6 ⟨rfl,hE6⟩;have hE7:Ext w4 w6:=(by (repeat (first|exact xE0 _|assumption|refine xE1 ?_ _|refine xE2 ?_|refine xE3 ?_ _|refine xE4 ?_ (by assumption))));have HP6:=η (HS4.out.go hE7);obtain⟨m27,mf⟩:=HFM.out w6 hE7;clear hE6 hE7))
       all_goals
        go_wp2_with fail
        go_returns
        obtain rfl:=HRR.out
        refine⟨rfl,T3,HVR.out,?_⟩
        rw[HNN.out]
        exact HP6.out.cell1 27 (.int .i64 ((yT σ.L x p).getD 0)) (fun l=>rfl)
     ·rw[hto]at hd28
      have hk12:kd=12:=by
       by_cases h:kd=12
       ·exact h
       ·have:=HOO.out h
        rw[hto]at this
        rw[HOV.out]at this
        cases this
      have HNN:Hid (nx=σ.place):=η (by have:=HNX.out rfl;rw[if_pos hk12]at this;exact this)
      have hc28':(w3.setCell ⟨mb,30,none⟩ (.int .i64 (σ.steps+1))).cell? ⟨mb,28,none⟩=some (.bool true):=by
       obtain⟨h0,hl,l4,g1,g2,g3⟩:=HS4.out
       have:=g1.cell 28 rfl
       rw[show (({τ with steps:=σ.steps+1}:RS).vt T3).over=true from hto]at this
       exact this
      clear HNX HO12 HOO hk12 hto
      go_wp2_with fail
      go_returns
      obtain rfl:=HRR.out
      refine⟨rfl,T3,HVR.out,?_⟩
      rw[HNN.out,← HPP.out]
      exact HS4.out
end
end Go.Proofs.YtppefchjoodgnaaGreat
