import Derived.Test.YtppefchjoodgnaaGreatPQ22
import Derived.Test.YtppefchjoodgnaaGreatPQ23
set_option linter.unusedSimpArgs false
set_option linter.unusedVariables false
namespace Go.Proofs.YtppefchjoodgnaaGreat
open Go.RowKit
abbrev defObj (d:TDef):Obj:=.cells #[.bool d.hash,.int .i64 d.key,.int .i64 d.val,.int .i64 d.max] 102 (0,0)
abbrev regObj (n:Int)(b:Bool):Obj:=.cells #[.int .u64 n,.bool b] 105 (0,0)
theorem isT_yes {d:Nat}{n:Int}(h:isT d n=true):0≤tblN d n∧tblN d n < d:=by
 unfold isT at h
 unfold tblN
 have h:=of_decide_eq_true h
 rw[if_pos h]
 omega
theorem isT_no {d:Nat}{n:Int}(h:isT d n=false):tblN d n=-1:=by
 unfold isT at h
 unfold tblN
 have h:=of_decide_eq_false h
 rw[if_neg h]
structure PLie (tl mo:Int)(dw:Bool)(sv:Value)(w wr:World)(x:CB)(d:TDef):Prop where
 ext:Ext w wr
 sig:wr.heap[w.heap.size]?=some (jM sv tl dw mo)
 res:wr.heap[w.heap.size+1]?=some (yU (CB.new 0))
 box:wr.heap[w.heap.size+1+1]?=some (yU x)
 dfo:wr.heap[w.heap.size+1+1+1]?=some (defObj d)
 c:CAt wr (w.heap.size+1+1+1+1) x
structure ToldI (σ:RS)(id tl mo:Int)(dw:Bool)(sv:Value)(w wr:World)(i:Nat)(x:CB)(d:TDef):Prop where
 lie:PLie tl mo dw sv w wr x d
 eq:σ.tells x.c i ((zU id).drop i)=σ.tells (Cl.new id) 0 (zU id)
 map:1≤i→(zU id)[0]?=some 1→pick σ.D x.c.map=some d
 few:x.c.n.length≤i
theorem cb_set {w:World}{B:Nat}{x y:CB}(h:w.heap[B]?=some (yU x))(j:Nat)(v:Value)
  (hy:([.int .i64 x.c.id,.int .i64 x.c.map,.slice x.ka x.c.key.length x.kc,.slice x.va x.c.val.length x.vc,.slice x.na x.c.n.length x.nc,.int .u64 x.c.ret]:List Value).set j v=[.int .i64 y.c.id,.int .i64 y.c.map,.slice y.ka y.c.key.length y.kc,.slice y.va y.c.val.length y.vc,.slice y.na y.c.n.length y.nc,.int .u64 y.c.ret]) :
  (w.setCell ⟨B,j,none⟩ v).heap[B]?=some (yU y):=by
 have:=heap_setCell_same w B j _ _ v h
 rw[this]
 have e:(#[.int .i64 x.c.id,.int .i64 x.c.map,.slice x.ka x.c.key.length x.kc,.slice x.va x.c.val.length x.vc,.slice x.na x.c.n.length x.nc,.int .u64 x.c.ret]:Array Value).setIfInBounds j v=#[.int .i64 y.c.id,.int .i64 y.c.map,.slice y.ka y.c.key.length y.kc,.slice y.va y.c.val.length y.vc,.slice y.na y.c.n.length y.nc,.int .u64 y.c.ret]:=by
  apply Array.ext'
  rw[Array.toList_setIfInBounds]
  exact hy
 first|rw[e]|(simp only[yU];rw[e])
section
variable {F0 Z0:List Nat} {wf w w' w3 wr:World} {base mb:Nat} {σ:RS} {id tl mo:Int} {dw:Bool} {sv:Value} {k:Nat} {x y:CB} {d e:TDef}
theorem PLie.go (h:PLie tl mo dw sv w wr x d)(he:Ext wr w3):PLie tl mo dw sv w w3 x d :=
 ⟨h.ext.trans' he,he.obj h.sig,he.obj h.res,he.obj h.box,he.obj h.dfo,h.c.ext he⟩
theorem ToldI.go (h:ToldI σ id tl mo dw sv w wr k x d)(he:Ext wr w3):ToldI σ id tl mo dw sv w w3 k x d :=
 ⟨h.lie.go he,h.eq,h.map,h.few⟩
theorem PLie.setb (h:PLie tl mo dw sv w wr x d)(j:Nat)(v:Value)
  (hy:([.int .i64 x.c.id,.int .i64 x.c.map,.slice x.ka x.c.key.length x.kc,.slice x.va x.c.val.length x.vc,.slice x.na x.c.n.length x.nc,.int .u64 x.c.ret]:List Value).set j v=[.int .i64 y.c.id,.int .i64 y.c.map,.slice y.ka y.c.key.length y.kc,.slice y.va y.c.val.length y.vc,.slice y.na y.c.n.length y.nc,.int .u64 y.c.ret])
  (hc:CAt wr (w.heap.size+1+1+1+1) y):PLie tl mo dw sv w (wr.setCell ⟨w.heap.size+1+1,j,none⟩ v) y d :=
 ⟨h.ext.setCell (by show w.heap.size≤w.heap.size+1+1;omega) _,(heap_setCell_other wr _ _ _ (show w.heap.size≠w.heap.size+1+1 by omega)).trans h.sig,(heap_setCell_other wr _ _ _ (show w.heap.size+1≠w.heap.size+1+1 by omega)).trans h.res,cb_set h.box j v hy,(heap_setCell_other wr _ _ _ (show w.heap.size+1+1+1≠w.heap.size+1+1 by omega)).trans h.dfo,hc.set (by omega) v⟩
theorem PLie.setd (h:PLie tl mo dw sv w wr x d)(e:TDef):PLie tl mo dw sv w ((((wr.setCell ⟨w.heap.size+1+1+1,0,none⟩ (.bool e.hash)).setCell ⟨w.heap.size+1+1+1,1,none⟩ (.int .i64 e.key)).setCell ⟨w.heap.size+1+1+1,2,none⟩ (.int .i64 e.val)).setCell ⟨w.heap.size+1+1+1,3,none⟩ (.int .i64 e.max)) x e:=by
 have hl2:w.heap.size≤w.heap.size+1+1+1:=by omega
 have o:∀ (q:Nat),q≠w.heap.size+1+1+1→((((wr.setCell ⟨w.heap.size+1+1+1,0,none⟩ (.bool e.hash)).setCell ⟨w.heap.size+1+1+1,1,none⟩ (.int .i64 e.key)).setCell ⟨w.heap.size+1+1+1,2,none⟩ (.int .i64 e.val)).setCell ⟨w.heap.size+1+1+1,3,none⟩ (.int .i64 e.max)).heap[q]?=wr.heap[q]?:=fun q h2=>by
  rw[heap_setCell_other _ _ _ _ h2,heap_setCell_other _ _ _ _ h2,heap_setCell_other _ _ _ _ h2,heap_setCell_other _ _ _ _ h2]
 have d1:=heap_setCell_same _ (w.heap.size+1+1+1) 0 _ _ (.bool e.hash) h.dfo
 have d2:=heap_setCell_same _ (w.heap.size+1+1+1) 1 _ _ (.int .i64 e.key) d1
 have d3:=heap_setCell_same _ (w.heap.size+1+1+1) 2 _ _ (.int .i64 e.val) d2
 have d4:=heap_setCell_same _ (w.heap.size+1+1+1) 3 _ _ (.int .i64 e.max) d3
 refine⟨(((h.ext.setCell hl2 _).setCell hl2 _).setCell hl2 _).setCell hl2 _,(o _ (by omega)).trans h.sig,(o _ (by omega)).trans h.res,(o _ (by omega)).trans h.box,by rw[d4];simp,(((h.c.set (by omega) _).set (by omega) _).set (by omega) _).set (by omega) _⟩
end
section
variable {F0 Z0:List Nat} {wf w w':World} {base mb:Nat} {σ:RS}
theorem def_four {w:World}{v:Value}{L:List TDef}(R:Rd w 4 TDef.enc v L){i:Nat}{x:TDef}(hx:L[i]?=some x):
  w.cell? (elt v (i * 4))=some (.bool x.hash)∧w.cell? ⟨(elt v (i * 4)).block,(elt v (i * 4)).off+1,none⟩=some (.int .i64 x.key)∧w.cell? ⟨(elt v (i * 4)).block,(elt v (i * 4)).off+2,none⟩=some (.int .i64 x.val)∧w.cell? ⟨(elt v (i * 4)).block,(elt v (i * 4)).off+3,none⟩=some (.int .i64 x.max):=by
 have E:=R.elt_add hx
 have F:∀ (p:Addr) (j:Nat),j≠0→(⟨p.block,p.off+j,none⟩:Addr)=p.add j:=fun p j h=>by simp[Addr.add,h]
 rw[F _ 1 (by decide),F _ 2 (by decide),F _ 3 (by decide),E,E,E]
 exact⟨R.cell hx (j:=0) rfl,R.cell hx (j:=1) rfl,R.cell hx (j:=2) rfl,R.cell hx (j:=3) rfl⟩
set_option maxRecDepth 20000 in
set_option maxHeartbeats 4000000 in
theorem p_told (id tl mo:Int)(dw:Bool)(sv:Value)(h:PRel F0 Z0 wf base w mb σ)(ho:σ.Ok)(hs:Sl w .u8 sv (zU id)):
  Calls Tryz.prog 131 #[.pointer (some ⟨mb,0,none⟩),.int .i64 id,.agg #[sv,.int .u8 tl,.bool dw,.int .u64 mo]] w (ToldA (σ.told id).1 (σ.told id).2 w):=by
 obtain⟨sa,sn,sc,rfl,hsn,hSN⟩:=hs.val
 have HM:=η h
 have HS:=η hs
 have HO:=η ho
 have hlt:=h.lt
 have h4:sn≤4:=by rw[hSN.out];exact tV id
 clear h hs ho
 go_enter Tryz.func131,Tryz.ntmps131
 go_wp2_with fail
 go_loopw [20] (fun q wr=>∃ (k:Nat) (x:CB) (d:TDef),k≤sn∧q=.int .i64 k∧Hid (ToldI σ id tl mo dw (.slice sa sn sc) w wr k x d)) (fun q _=>sn - (intOf q).toNat)
 case atStart=>exact⟨0,CB.new id,⟨false,0,0,0⟩,Nat.zero_le _,rfl,η ⟨⟨by (repeat (first|exact xE0 _|assumption|refine xE1 ?_ _|refine xE2 ?_|refine xE3 ?_ _|refine Below.setCell ?_ (by first|(simp;done)|(simp;omega)|omega) _|refine Ext.trans' ?_ (by assumption))),by (repeat (first|(refine zD _ _ ?_;simp;done)|refine zB _ ?_)),by (repeat (first|(refine zD _ _ ?_;simp;done)|refine zB _ ?_)),by (repeat (first|(refine zD _ _ ?_;simp;done)|refine zB _ ?_)),by (repeat (first|(refine zD _ _ ?_;simp;done)|refine zB _ ?_)),CAt.new _ _ _⟩,rfl,fun h=>absurd h (by decide),Nat.le_refl _⟩⟩
 case round =>
  obtain⟨k,x,d0,hk,rfl,HI⟩:=hrel
  have hE:=HI.out.lie.ext
  have HE0:=η hE
  have hsz:=hE.size
  by_cases hlt2:(k:Int) < sn
  ·obtain⟨t,ht⟩:∃ t,(zU id)[k]?=some t:=⟨_,List.getElem?_eq_getElem (by have:=hSN.out;omega)⟩
   have ht4:=tolds_in (List.mem_of_getElem? ht)
   have HT:=η ht
   have ix:=fun W=>(HS.out.ext hE).run_at (P:=Tryz.prog) el_u8.under el_u8.size .i64 (k:Int) (by omega) (by have:=hSN.out;omega) W
   have cx:=(HS.out.ext hE).cell ht (j:=0) rfl
   simp only[Nat.mul_one,Nat.add_zero,Int.toNat_natCast]at ix cx
   obtain⟨h0,hl,l,g0,g2,g3⟩:=HM.out
   have g1:=g0.ext hE
   clear h0 hl g2 g3
   have hw:wrap64 ((k:Int)+1)=((k+1:Nat):Int):=by unfold wrap64;omega
   have hw2:wrap64 (1+(k:Int))=1+(k:Int):=by unfold wrap64;omega
   have c1:=g1.cell _ (pU σ l (d:=k+1) (by omega))
   have c2:=g1.cell _ (pQ σ l (d:=k+1) (by omega))
   rw[show 1+2 * (k+1)=1+(1+k) * 2 by omega]at c1
   rw[show 2+2 * (k+1)=1+(1+k) * 2+1 by omega]at c2
   have hd3:1+(k:Int) < 11:=by omega
   have hd2:(0:Int)≤1+(k:Int):=by omega
   have hd1:1+(k:Int)≤10:=by omega
   have hmbr:=zE g1.head
   cases hs:σ.S (k+1)
   ·rw[hs]at c2
    have HTE:=η (qB HI.out.eq HT.out (by rw[RS.tell,if_pos hs];simp))
    have HTL:Hid ((σ.tell x.c k t).2=110):=η (by rw[RS.tell,if_pos hs])
    have hR:(wr.alloc (regObj (σ.R (k+1)) false)).heap[w.heap.size+1]?=some (yU (CB.new 0)):=zB _ HI.out.lie.res
    have HR:=η hR
    have HSF:=η (uS hR (hE.alloc' _) (Nat.le_succ _) (.int .i64 0) (.int .i64 0) (.slice none 0 0) (.slice none 0 0) (.slice none 0 0) (.int .u64 0))
    clear g1 g0 hR
    (obtain⟨r0,r1,r2,r3,r4,r5⟩:=κ6 (HR.out);have rf:=fun i=>zA (i:=i) (HR.out);skip)
    go_wp2_with fail
    (have hsf:=HSF.out;generalize hF:(World.setCell (World.setCell (World.setCell (World.setCell (World.setCell (World.setCell (wr.alloc (regObj (σ.R (k+1)) false)) ⟨w.heap.size+1,0,none⟩ (.int .i64 0)) ⟨w.heap.size+1,1,none⟩ (.int .i64 0)) ⟨w.heap.size+1,2,none⟩ (.slice none 0 0)) ⟨w.heap.size+1,3,none⟩ (.slice none 0 0)) ⟨w.heap.size+1,4,none⟩ (.slice none 0 0)) ⟨w.heap.size+1,5,none⟩ (.int .u64 0))=wF at hsf ⊢;obtain⟨hs,he⟩:=hsf;clear hF;(try simp only[Exit.then]);(repeat (first|go_skip|go_step));obtain⟨r0,r1,r2,r3,r4,r5⟩:=κ6 hs;refine bodyPost_ret (by simp[results,Tryz.results131,go_sem,r0,r1,r2,r3,r4,r5];try rfl) rfl ?_)
    exact⟨CB.new 0,by rw[HTE.out,HTL.out];rfl,by rw[HTE.out];rfl,CAt.new _ _ _,he⟩
   ·rw[hs]at c2
    have HTS:=η hs
    have HRr:=η (HO.out (k+1) (by omega))
    clear hs
    go_upto_region 10 with fail
    have HR1:=η (zD wr (regObj (σ.R (k+1)) true) rfl)
    have HX1:Hid (Ext wr (wr.alloc (regObj (σ.R (k+1)) true))):=η (by (repeat (first|exact xE0 _|assumption|refine xE1 ?_ _|refine xE2 ?_|refine xE3 ?_ _|refine xE4 ?_ (by assumption))))
    have HI1:=η (HI.out.go HX1.out)
    simp only[regObj]at HR1 HX1 HI1
    generalize hwr1:wr.alloc (.cells #[.int .u64 (σ.R (k+1)),.bool true] 105 (0,0))=wr1 at *
    have HE1:=η HI1.out.lie.ext
    have HB:=η HI1.out.lie.box
    have HRW:=η HI1.out.lie.res
    clear hwr1
    rcases ht4 with rfl|rfl|rfl|rfl
    ·have HWD:=η (fun W (he:Ext wr1 W)=>p_word (HM.out.go (HE1.out.trans' he)) (σ.R (k+1)) HRr.out)
     have r0:=cO (i:=0) HR1.out
     simp only[gA,gB,gC]at r0
     cases hT:isT σ.D.length (σ.R (k+1))
     ·rw[hT]at HWD
      have hTe:σ.tell x.c k 1=({x.c with map:=-1},113):=by rw[RS.tell,if_neg (by simp[HTS.out]),if_pos rfl,isT_no hT];rfl
      have HER:=η (qB HI1.out.eq HT.out (by rw[hTe];simp))
      rw[hTe]at HER
      clear hTe g1 g0 hT
      go_wp2_with fail
      refine(HWD.out _ (Ext.rfl' _)).mono ?_
      rintro e w3 ⟨rfl,hE3⟩
      have HB3:=η (hE3.obj HB.out)
      have q3:=HI1.out.lie.c.ext hE3
      have HL3:=η ((HI1.out.lie.go hE3).setb (y:={x with c:={x.c with map:=0}}) 1 (.int .i64 0) rfl ⟨q3.key,q3.val,q3.n⟩)
      clear hE3 q3
      (obtain⟨b0,b1,b2,b3,b4,b5⟩:=κ6 (HB3.out);have bf:=fun i=>zA (i:=i) (HB3.out);skip)
      have HSF:=η (uS HL3.out.res HL3.out.ext (Nat.le_succ _) (.int .i64 0) (.int .i64 0) (.slice none 0 0) (.slice none 0 0) (.slice none 0 0) (.int .u64 0))
      have HRR:=η HL3.out.res
      (obtain⟨r0,r1,r2,r3,r4,r5⟩:=κ6 (HRR.out);have rf:=fun i=>zA (i:=i) (HRR.out);skip)
      go_wp2_with fail
      (have hsf:=HSF.out;generalize hF:(World.setCell (World.setCell (World.setCell (World.setCell (World.setCell (World.setCell (World.setCell w3 ⟨w.heap.size+1+1,1,none⟩ (.int .i64 0)) ⟨w.heap.size+1,0,none⟩ (.int .i64 0)) ⟨w.heap.size+1,1,none⟩ (.int .i64 0)) ⟨w.heap.size+1,2,none⟩ (.slice none 0 0)) ⟨w.heap.size+1,3,none⟩ (.slice none 0 0)) ⟨w.heap.size+1,4,none⟩ (.slice none 0 0)) ⟨w.heap.size+1,5,none⟩ (.int .u64 0))=wF at hsf ⊢;obtain⟨hs,he⟩:=hsf;clear hF;(try simp only[Exit.then]);(repeat (first|go_skip|go_step));obtain⟨r0,r1,r2,r3,r4,r5⟩:=κ6 hs;refine bodyPost_ret (by simp[results,Tryz.results131,go_sem,r0,r1,r2,r3,r4,r5];try rfl) rfl ?_)
      exact⟨CB.new 0,by rw[HER.out];rfl,by rw[HER.out];rfl,CAt.new _ _ _,he⟩
     ·obtain⟨ht0,ht1⟩:=isT_yes hT
      rw[hT]at HWD
      simp only[if_true]at HWD
      obtain⟨m,hm⟩:∃ m:Nat,tblN σ.D.length (σ.R (k+1))=m:=⟨_,(Int.toNat_of_nonneg ht0).symm⟩
      have hTe:σ.tell x.c k 1=({x.c with map:=(m:Int)},0):=by rw[RS.tell,if_neg (by simp[HTS.out]),if_pos rfl,hm,if_neg (by omega)]
      rw[hm]at HWD ht1
      obtain⟨e0,he0⟩:∃ e0,σ.D[m]?=some e0:=⟨_,List.getElem?_eq_getElem (by omega)⟩
      have HOKK:=η (by have:=uA HI1.out.eq HT.out (by rw[hTe]);rw[hTe]at this;exact this:σ.tells {x.c with map:=(m:Int)} (k+1) ((zU id).drop (k+1))=σ.tells (Cl.new id) 0 (zU id))
      have HPK:Hid (pick σ.D (m:Int)=some e0):=η (by rw[vS];exact he0)
      obtain⟨da,dn,dc,hdv,hdn,hDN⟩:=g0.defs.val
      have hcd:=g0.cell 25 rfl
      have hdf:=g0.defs
      rw[hdv]at hcd hdf
      have hml:m < dn:=by rw[hDN.out];exact(List.getElem?_eq_some_iff.1 he0).1
      have ixd:=fun W=>hdf.run_at (P:=Tryz.prog) el_def.under el_def.size .i64 (m:Int) (by omega) (by omega) W
      simp only[Int.toNat_natCast]at ixd
      have HCD:=η hcd
      have HDF:=η hdf
      have HE00:=η he0
      have hsz1:=HE1.out.size
      clear hTe g1 g0 hT ht0 ht1 hm hdv hcd hdf he0
      go_wp2_with fail
      refine(HWD.out _ (Ext.rfl' _)).mono ?_
      rintro e w3 ⟨rfl,hE3⟩
      have HB3:=η (hE3.obj HB.out)
      have q3:=HI1.out.lie.c.ext hE3
      have HL3:=η ((HI1.out.lie.go hE3).setb (y:={x with c:={x.c with map:=(m:Int)}}) 1 (.int .i64 (m:Int)) rfl ⟨q3.key,q3.val,q3.n⟩)
      have hmb3:=hE3.size
      clear hE3 q3
      (obtain⟨b0,b1,b2,b3,b4,b5⟩:=κ6 (HB3.out);have bf:=fun i=>zA (i:=i) (HB3.out);skip)
      go_upto_region 15 with fail
      clear b0 b1 b2 b3 b4 b5 bf r0
      generalize w3.setCell ⟨w.heap.size+1+1,1,none⟩ (.int .i64 (m:Int))=w4 at HL3 ⊢
      have b1:w4.cell? ⟨w.heap.size+1+1,1,none⟩=some (.int .i64 (m:Int)):=cO HL3.out.box
      have cd4:=HL3.out.ext.cellOf HCD.out
      obtain⟨f0,f1,f2,f3⟩:=def_four (HDF.out.ext HL3.out.ext) HE00.out
      have b1g:=Grow.cell b1
      have cdg:=Grow.cell cd4
      have f0g:=Grow.cell f0
      have f1g:=Grow.cell f1
      have f2g:=Grow.cell f2
      have f3g:=Grow.cell f3
      clear b1 cd4 f0 f1 f2 f3
      (refine zR 8 (by kernel_rfl) (by kernel_rfl) ?_;simp only[List.take_succ_cons,List.take_zero];(repeat (go_big_quiet_step ((fail))));refine wpQuiet_nil ?_;rintro wz ⟨nz,hz⟩;have hwq:=nz.ext;rw[← hz]at hwq;simp only[List.drop_succ_cons,List.drop_zero];clear hz)
      have HL4:=η (HL3.out.go hwq)
      have HNX:=η (⟨HL4.out.setd e0,HOKK.out,fun _ _=>HPK.out,Nat.le_succ_of_le HI1.out.few⟩:ToldI σ id tl mo dw (.slice sa sn sc) w _ (k+1) _ _)
      have v0:=cO (i:=0) HL4.out.dfo
      have v1:=cO (i:=1) HL4.out.dfo
      have v2:=cO (i:=2) HL4.out.dfo
      have v3:=cO (i:=3) HL4.out.dfo
      have vf:=fun i=>zA (i:=i) HL4.out.dfo
      simp only[gA,gB,gC]at v0 v1 v2 v3
      go_wp2_with fail
      go_roundw
      case rel=>exact⟨k+1,_,e0,by omega,by go_num,HNX⟩
      case measure=>simp[intOf];omega
    ·obtain⟨hk1,h01⟩:=qV ht (by simp)
     have hd:=HI1.out.map hk1 h01
     obtain⟨rb,rr,L,cm,HV,HRF,_⟩:=(HM.out.go HE1.out).mem
     obtain⟨bs,er,hrd⟩:∃ bs er,yK σ.V.1 (σ.R (k+1)) d0.key=(bs,er):=⟨_,_,rfl⟩
     have hTe:σ.tell x.c k 2=({x.c with key:=bs},er):=by rw[RS.tell,if_neg (by simp[HTS.out])];simp[hd,hrd]
     have HTE:=η hTe
     have HRD:=η hrd
     have HMP:=η (fun _:(zU id)[0]?=some 1=>hd)
     have HZ1:=η (zE HI1.out.lie.dfo)
     have hsz1:=HE1.out.size
     have HSS:=η (fun W (he:Ext wr1 W)=>(⟨he.cellOf cm,he.cellOf (show wr1.cell? ⟨wr.heap.size,0,none⟩=some (.int .u64 (σ.R (k+1))) from cO HR1.out),he.cellOf (show wr1.cell? ⟨w.heap.size+1+1+1,1,none⟩=some (.int .i64 d0.key) from cO HI1.out.lie.dfo)⟩:W.cell? ⟨mb,23,none⟩=some (.pointer (some ⟨rb,0,none⟩))∧W.cell? ⟨wr.heap.size,0,none⟩=some (.int .u64 (σ.R (k+1)))∧W.cell? ⟨w.heap.size+1+1+1,1,none⟩=some (.int .i64 d0.key)))
     have HRDC:=η (fun W (he:Ext wr1 W)=>(mem_read rb rr L (σ.R (k+1)) d0.key W (HRF.out W he) HRr.out.1 (η HRr.out.2)).mono (R':=fun e w'=>∃ v,e=.returned (.tuple #[v,.int .i64 er])∧Own w' W.heap.size 5 1 encB v bs∧Ext W w') (fun e w' h=>by obtain⟨v,h1,h2,h3⟩:=h;rw[HV.out,HRD.out]at h1 h2;exact⟨v,h1,h2,h3⟩))
     have hrs:wr.heap.size≠w.heap.size+1+1:=by have:=zE HI.out.lie.box;omega
     clear g1 g0 hTe hd hrd h01 cm
     go_upto_region 18 with fail
     obtain⟨s1,s2,s3⟩:=HSS.out _ (Ext.rfl' _)
     go_region_held3 (fun w'=>w'.cell? ⟨mb,23,none⟩=some (.pointer (some ⟨rb,0,none⟩))∧w'.cell? ⟨wr.heap.size,0,none⟩=some (.int .u64 (σ.R (k+1)))∧w'.cell? ⟨w.heap.size+1+1+1,1,none⟩=some (.int .i64 d0.key))
      (first|exact s5|exact HSS.out _ (by (repeat (first|exact xE0 _|assumption|refine xE1 ?_ _|refine xE2 ?_|refine xE3 ?_ _|refine xE4 ?_ (by assumption)))))
      ((go_at_call 170;refine(HRDC.out _ (by (repeat (first|exact xE0 _|assumption|refine xE1 ?_ _|refine xE2 ?_|refine xE3 ?_ _|refine xE4 ?_ (by assumption))))).mono ?_;rintro e w5 ⟨v5,rfl,hO5,hE5⟩;obtain⟨a5,n5,c5,rfl,hn5,hN5⟩:=(hO5.rd (zG _)).val;have hE6:Ext wr1 w5:=(by (repeat (first|exact xE0 _|assumption|refine xE1 ?_ _|refine xE2 ?_|refine xE3 ?_ _|refine xE4 ?_ (by assumption))));have hb5:=hE6.obj HB.out;have y2:=cO (i:=2) hb5;have yf:=zA (i:=2) hb5;simp only[gA,gB,gC]at y2;have HO5:=η hO5;have HE6:=η hE6;have s5:=And.intro ((cell?_setCell_ne_block w5 ⟨w.heap.size+1+1,2,none⟩ ⟨mb,23,none⟩ (.slice a5 n5 c5) (by show mb≠w.heap.size+1+1;omega)).trans (HSS.out _ hE6).1) (And.intro ((cell?_setCell_ne_block w5 ⟨w.heap.size+1+1,2,none⟩ ⟨wr.heap.size,0,none⟩ (.slice a5 n5 c5) (show wr.heap.size≠w.heap.size+1+1 from hrs)).trans (HSS.out _ hE6).2.1) ((cell?_setCell_ne_block w5 ⟨w.heap.size+1+1,2,none⟩ ⟨w.heap.size+1+1+1,1,none⟩ (.slice a5 n5 c5) (show w.heap.size+1+1+1≠w.heap.size+1+1 by omega)).trans (HSS.out _ hE6).2.2));clear hO5 hb5))
     all_goals
      obtain rfl:=hN5.out
      clear y2 yf s5 s1 s2 s3
      have hz5:=HZ1.out
      have q5:=HI1.out.lie.c.ext HE6.out
      have HL5:=η ((HI1.out.lie.go HE6.out).setb (y:={x with c:={x.c with key:=bs},ka:=a5,kc:=c5}) 2 (.slice a5 bs.length c5) rfl ⟨HO5.out.mono (by first|omega|(simp;omega)),q5.val,q5.n⟩)
      clear q5
      by_cases her:(er != 0)=true
      ·have HER:=η (qB HI1.out.eq HT.out (by rw[HTE.out];simpa using her))
       rw[HTE.out]at HER
       have HSF:=η (uS HL5.out.res HL5.out.ext (Nat.le_succ _) (.int .i64 0) (.int .i64 0) (.slice none 0 0) (.slice none 0 0) (.slice none 0 0) (.int .u64 0))
       have HRR:=η HL5.out.res
       (obtain⟨r0,r1,r2,r3,r4,r5⟩:=κ6 (HRR.out);have rf:=fun i=>zA (i:=i) (HRR.out);skip)
       go_wp2_with fail
       (have hsf:=HSF.out;generalize hF:(World.setCell (World.setCell (World.setCell (World.setCell (World.setCell (World.setCell (World.setCell w5 ⟨w.heap.size+1+1,2,none⟩ (.slice a5 bs.length c5)) ⟨w.heap.size+1,0,none⟩ (.int .i64 0)) ⟨w.heap.size+1,1,none⟩ (.int .i64 0)) ⟨w.heap.size+1,2,none⟩ (.slice none 0 0)) ⟨w.heap.size+1,3,none⟩ (.slice none 0 0)) ⟨w.heap.size+1,4,none⟩ (.slice none 0 0)) ⟨w.heap.size+1,5,none⟩ (.int .u64 0))=wF at hsf ⊢;obtain⟨hs,he⟩:=hsf;clear hF;(try simp only[Exit.then]);(repeat (first|go_skip|go_step));obtain⟨r0,r1,r2,r3,r4,r5⟩:=κ6 hs;refine bodyPost_ret (by simp[results,Tryz.results131,go_sem,r0,r1,r2,r3,r4,r5];try rfl) rfl ?_)
       exact⟨CB.new 0,by rw[HER.out];rfl,by rw[HER.out];rfl,CAt.new _ _ _,he⟩
      ·obtain rfl:er=0:=by simpa using her
       have HNX:=η (⟨HL5.out,by have:=uA HI1.out.eq HT.out (by rw[HTE.out]);rw[HTE.out]at this;exact this,fun _ h0=>HMP.out h0,Nat.le_succ_of_le HI1.out.few⟩:ToldI σ id tl mo dw (.slice sa sn sc) w _ (k+1) _ _)
       go_wp2_with fail
       go_roundw
       case rel=>exact⟨k+1,_,d0,by omega,by go_num,HNX⟩
       case measure=>simp[intOf];omega
    ·obtain⟨hk1,h01⟩:=qV ht (by simp)
     have hd:=HI1.out.map hk1 h01
     obtain⟨rb,rr,L,cm,HV,HRF,_⟩:=(HM.out.go HE1.out).mem
     obtain⟨bs,er,hrd⟩:∃ bs er,yK σ.V.1 (σ.R (k+1)) d0.val=(bs,er):=⟨_,_,rfl⟩
     have hTe:σ.tell x.c k 3=({x.c with val:=bs},er):=by rw[RS.tell,if_neg (by simp[HTS.out])];simp[hd,hrd]
     have HTE:=η hTe
     have HRD:=η hrd
     have HMP:=η (fun _:(zU id)[0]?=some 1=>hd)
     have HZ1:=η (zE HI1.out.lie.dfo)
     have hsz1:=HE1.out.size
     have HSS:=η (fun W (he:Ext wr1 W)=>(⟨he.cellOf cm,he.cellOf (show wr1.cell? ⟨wr.heap.size,0,none⟩=some (.int .u64 (σ.R (k+1))) from cO HR1.out),he.cellOf (show wr1.cell? ⟨w.heap.size+1+1+1,2,none⟩=some (.int .i64 d0.val) from cO HI1.out.lie.dfo)⟩:W.cell? ⟨mb,23,none⟩=some (.pointer (some ⟨rb,0,none⟩))∧W.cell? ⟨wr.heap.size,0,none⟩=some (.int .u64 (σ.R (k+1)))∧W.cell? ⟨w.heap.size+1+1+1,2,none⟩=some (.int .i64 d0.val)))
     have HRDC:=η (fun W (he:Ext wr1 W)=>(mem_read rb rr L (σ.R (k+1)) d0.val W (HRF.out W he) HRr.out.1 (η HRr.out.2)).mono (R':=fun e w'=>∃ v,e=.returned (.tuple #[v,.int .i64 er])∧Own w' W.heap.size 5 1 encB v bs∧Ext W w') (fun e w' h=>by obtain⟨v,h1,h2,h3⟩:=h;rw[HV.out,HRD.out]at h1 h2;exact⟨v,h1,h2,h3⟩))
     have hrs:wr.heap.size≠w.heap.size+1+1:=by have:=zE HI.out.lie.box;omega
     clear g1 g0 hTe hd hrd h01 cm
     go_upto_region 20 with fail
     obtain⟨s1,s2,s3⟩:=HSS.out _ (Ext.rfl' _)
     go_region_held3 (fun w'=>w'.cell? ⟨mb,23,none⟩=some (.pointer (some ⟨rb,0,none⟩))∧w'.cell? ⟨wr.heap.size,0,none⟩=some (.int .u64 (σ.R (k+1)))∧w'.cell? ⟨w.heap.size+1+1+1,2,none⟩=some (.int .i64 d0.val))
      (first|exact s5|exact HSS.out _ (by (repeat (first|exact xE0 _|assumption|refine xE1 ?_ _|refine xE2 ?_|refine xE3 ?_ _|refine xE4 ?_ (by assumption)))))
      ((go_at_call 170;refine(HRDC.out _ (by (repeat (first|exact xE0 _|assumption|refine xE1 ?_ _|refine xE2 ?_|refine xE3 ?_ _|refine xE4 ?_ (by assumption))))).mono ?_;rintro e w5 ⟨v5,rfl,hO5,hE5⟩;obtain⟨a5,n5,c5,rfl,hn5,hN5⟩:=(hO5.rd (zG _)).val;have hE6:Ext wr1 w5:=(by (repeat (first|exact xE0 _|assumption|refine xE1 ?_ _|refine xE2 ?_|refine xE3 ?_ _|refine xE4 ?_ (by assumption))));have hb5:=hE6.obj HB.out;have y2:=cO (i:=3) hb5;have yf:=zA (i:=3) hb5;simp only[gA,gB,gC]at y2;have HO5:=η hO5;have HE6:=η hE6;have s5:=And.intro ((cell?_setCell_ne_block w5 ⟨w.heap.size+1+1,3,none⟩ ⟨mb,23,none⟩ (.slice a5 n5 c5) (by show mb≠w.heap.size+1+1;omega)).trans (HSS.out _ hE6).1) (And.intro ((cell?_setCell_ne_block w5 ⟨w.heap.size+1+1,3,none⟩ ⟨wr.heap.size,0,none⟩ (.slice a5 n5 c5) (show wr.heap.size≠w.heap.size+1+1 from hrs)).trans (HSS.out _ hE6).2.1) ((cell?_setCell_ne_block w5 ⟨w.heap.size+1+1,3,none⟩ ⟨w.heap.size+1+1+1,2,none⟩ (.slice a5 n5 c5) (show w.heap.size+1+1+1≠w.heap.size+1+1 by omega)).trans (HSS.out _ hE6).2.2));clear hO5 hb5))
     all_goals
      obtain rfl:=hN5.out
      clear y2 yf s5 s1 s2 s3
      have hz5:=HZ1.out
      have q5:=HI1.out.lie.c.ext HE6.out
      have HL5:=η ((HI1.out.lie.go HE6.out).setb (y:={x with c:={x.c with val:=bs},va:=a5,vc:=c5}) 3 (.slice a5 bs.length c5) rfl ⟨q5.key,HO5.out.mono (by first|omega|(simp;omega)),q5.n⟩)
      clear q5
      by_cases her:(er != 0)=true
      ·have HER:=η (qB HI1.out.eq HT.out (by rw[HTE.out];simpa using her))
       rw[HTE.out]at HER
       have HSF:=η (uS HL5.out.res HL5.out.ext (Nat.le_succ _) (.int .i64 0) (.int .i64 0) (.slice none 0 0) (.slice none 0 0) (.slice none 0 0) (.int .u64 0))
       have HRR:=η HL5.out.res
       (obtain⟨r0,r1,r2,r3,r4,r5⟩:=κ6 (HRR.out);have rf:=fun i=>zA (i:=i) (HRR.out);skip)
       go_wp2_with fail
       (have hsf:=HSF.out;generalize hF:(World.setCell (World.setCell (World.setCell (World.setCell (World.setCell (World.setCell (World.setCell w5 ⟨w.heap.size+1+1,3,none⟩ (.slice a5 bs.length c5)) ⟨w.heap.size+1,0,none⟩ (.int .i64 0)) ⟨w.heap.size+1,1,none⟩ (.int .i64 0)) ⟨w.heap.size+1,2,none⟩ (.slice none 0 0)) ⟨w.heap.size+1,3,none⟩ (.slice none 0 0)) ⟨w.heap.size+1,4,none⟩ (.slice none 0 0)) ⟨w.heap.size+1,5,none⟩ (.int .u64 0))=wF at hsf ⊢;obtain⟨hs,he⟩:=hsf;clear hF;(try simp only[Exit.then]);(repeat (first|go_skip|go_step));obtain⟨r0,r1,r2,r3,r4,r5⟩:=κ6 hs;refine bodyPost_ret (by simp[results,Tryz.results131,go_sem,r0,r1,r2,r3,r4,r5];try rfl) rfl ?_)
       exact⟨CB.new 0,by rw[HER.out];rfl,by rw[HER.out];rfl,CAt.new _ _ _,he⟩
      ·obtain rfl:er=0:=by simpa using her
       have HNX:=η (⟨HL5.out,by have:=uA HI1.out.eq HT.out (by rw[HTE.out]);rw[HTE.out]at this;exact this,fun _ h0=>HMP.out h0,Nat.le_succ_of_le HI1.out.few⟩:ToldI σ id tl mo dw (.slice sa sn sc) w _ (k+1) _ _)
       go_wp2_with fail
       go_roundw
       case rel=>exact⟨k+1,_,d0,by omega,by go_num,HNX⟩
       case measure=>simp[intOf];omega
    ·have hTe:σ.tell x.c k 4=({x.c with n:=x.c.n++[σ.R (k+1)]},0):=by rw[RS.tell,if_neg (by simp[HTS.out])];simp
     have HTE:=η hTe
     have hwr:w.heap.size+1+1+1+1≤wr1.heap.size:=zE HI1.out.lie.dfo
     have r0:=cO (i:=0) HR1.out
     simp only[gA,gB,gC]at r0
     clear g1 g0 hTe
     (obtain⟨b0,b1,b2,b3,b4,b5⟩:=κ6 (HB.out);have bf:=fun i=>zA (i:=i) (HB.out);skip)
     go_wp2_with (at_builtin;refine xM el_u64 (zG .u64) rfl _ _ rfl rfl (HI1.out.lie.c.n.alloc _) rfl (ys:=[σ.R (k+1)]) ?q1 ?q2 ?q3 ?q4)
     case q1=>exact(Own.lit (zG .u64) (base:=0) (w:=wr1) [σ.R (k+1)] rfl rfl (Nat.zero_le _) (by simp[maxLen])).rd (zG .u64)
     case q2=>exact⟨by have:=HI1.out.few;first|omega|(simp;omega)|(simp only[List.length_cons,List.length_nil];omega),by have:=HI1.out.few;first|omega|(simp;omega)|(simp only[List.length_cons,List.length_nil];omega)⟩
     case q3=>first|omega|(simp;omega)|(refine Nat.le_trans hwr ?_;simp)
     intro v5 w5 hown hgrow hbel
     have hE1:=HE1.out
     have hA1:Ext wr1 (wr1.alloc (.cells #[.int .u64 (σ.R (k+1))] 29)):=(Ext.rfl' wr1).alloc' _
     have hb5:Below (w.heap.size+1+1+1+1) wr1 w5:=hbel _ _ ⟨hA1.os,hA1.tape,hA1.output,hA1.size,fun j hj=>hA1.block j (by omega)⟩ (Nat.le_refl _)
     have hE5:Ext w w5:=hbel _ _ (hE1.trans' hA1) (by omega)
     obtain⟨a5,n5,c5,rfl,hn5,hN5⟩:=(hown.rd (zG .u64)).val
     have hN6:n5=x.c.n.length+1:=by simpa using hN5.out
     subst hN6
     have hgk:=yB hgrow
     have hkey:=(HI1.out.lie.c.key.ext hA1).keep hgk (fun j hj hj'=>HI1.out.lie.c.key.type_ne HI1.out.lie.c.n pP hj (by simpa[CB.nv]using hj'))
     have hval:=(HI1.out.lie.c.val.ext hA1).keep hgk (fun j hj hj'=>HI1.out.lie.c.val.type_ne HI1.out.lie.c.n pP hj (by simpa[CB.nv]using hj'))
     have HOKK:=η (by have:=uA HI1.out.eq HT.out (by rw[HTE.out]);rw[HTE.out]at this;exact this:σ.tells {x.c with n:=x.c.n++[σ.R (k+1)]} (k+1) ((zU id).drop (k+1))=σ.tells (Cl.new id) 0 (zU id))
     have hCA:CAt w5 (w.heap.size+1+1+1+1) {x with c:={x.c with n:=x.c.n++[σ.R (k+1)]},na:=a5,nc:=c5}:=⟨hkey,hval,by simpa[CB.nv]using hown⟩
     have hL5:PLie tl mo dw (.slice sa sn sc) w (w5.setCell ⟨w.heap.size+1+1,4,none⟩ (.slice a5 (x.c.n.length+1) c5)) {x with c:={x.c with n:=x.c.n++[σ.R (k+1)]},na:=a5,nc:=c5} d0:=by
      refine⟨hE5.setCell (by show w.heap.size≤w.heap.size+1+1;omega) _,(heap_setCell_other w5 _ _ _ (show w.heap.size≠w.heap.size+1+1 by omega)).trans (kH hb5 HI1.out.lie.sig (by omega)),(heap_setCell_other w5 _ _ _ (show w.heap.size+1≠w.heap.size+1+1 by omega)).trans (kH hb5 HI1.out.lie.res (by omega)),cb_set (kH hb5 HI1.out.lie.box (by omega)) 4 _ (by simp),(heap_setCell_other w5 _ _ _ (show w.heap.size+1+1+1≠w.heap.size+1+1 by omega)).trans (kH hb5 HI1.out.lie.dfo (by omega)),hCA.set (by omega) _⟩
     have HNX:=η (⟨hL5,HOKK.out,fun _ h0=>HI1.out.map (by rcases Nat.eq_zero_or_pos k with e|e<;>first|exact e|(subst e;rw[HT.out]at h0;cases h0)) h0,by have:=HI1.out.few;simp;omega⟩:ToldI σ id tl mo dw (.slice sa sn sc) w _ (k+1) _ _)
     have HB5:=η (kH hb5 HB.out (by omega))
     clear b0 b1 b2 b3 b4 b5 bf hown hgrow hbel hA1 hb5 hgk hkey hval hL5 hCA r0
     (obtain⟨b0,b1,b2,b3,b4,b5⟩:=κ6 (HB5.out);have bf:=fun i=>zA (i:=i) (HB5.out);skip)
     go_wp2_with fail
     go_roundw
     case rel=>exact⟨k+1,_,d0,by omega,by go_num,HNX⟩
     case measure=>simp[intOf];omega
  ·have HTE:=η (told_end HI.out.eq (by have:=hSN.out;omega))
   have HR:=η HI.out.lie.res
   have HB:=η HI.out.lie.box
   have HCC:=HI.out.lie.c.chain6 (b:=w.heap.size+1) (by omega) (.int .i64 x.c.id) (.int .i64 x.c.map) (.slice x.ka x.c.key.length x.kc) (.slice x.va x.c.val.length x.vc) (.slice x.na x.c.n.length x.nc) (.int .u64 x.c.ret)
   have HSF:=η (And.intro (uS HR.out hE (Nat.le_succ _) (.int .i64 x.c.id) (.int .i64 x.c.map) (.slice x.ka x.c.key.length x.kc) (.slice x.va x.c.val.length x.vc) (.slice x.na x.c.n.length x.nc) (.int .u64 x.c.ret)).1 (And.intro (uS HR.out hE (Nat.le_succ _) (.int .i64 x.c.id) (.int .i64 x.c.map) (.slice x.ka x.c.key.length x.kc) (.slice x.va x.c.val.length x.vc) (.slice x.na x.c.n.length x.nc) (.int .u64 x.c.ret)).2 (HCC.mono (b:=w.heap.size) (by omega))))
   clear HCC
   (obtain⟨r0,r1,r2,r3,r4,r5⟩:=κ6 (HR.out);have rf:=fun i=>zA (i:=i) (HR.out);skip)
   (obtain⟨b0,b1,b2,b3,b4,b5⟩:=κ6 (HB.out);have bf:=fun i=>zA (i:=i) (HB.out);skip)
   go_wp2_with fail
   (have hsf:=HSF.out;generalize hF:(World.setCell (World.setCell (World.setCell (World.setCell (World.setCell (World.setCell wr ⟨w.heap.size+1,0,none⟩ (.int .i64 x.c.id)) ⟨w.heap.size+1,1,none⟩ (.int .i64 x.c.map)) ⟨w.heap.size+1,2,none⟩ (.slice x.ka x.c.key.length x.kc)) ⟨w.heap.size+1,3,none⟩ (.slice x.va x.c.val.length x.vc)) ⟨w.heap.size+1,4,none⟩ (.slice x.na x.c.n.length x.nc)) ⟨w.heap.size+1,5,none⟩ (.int .u64 x.c.ret))=wF at hsf ⊢;obtain⟨hs,he⟩:=hsf;clear hF;(try simp only[Exit.then]);(repeat (first|go_skip|go_step));obtain⟨r0,r1,r2,r3,r4,r5⟩:=κ6 hs;refine bodyPost_ret (by simp[results,Tryz.results131,go_sem,r0,r1,r2,r3,r4,r5];try rfl) rfl ?_)
   exact⟨x,by rw[HTE.out];rfl,by rw[HTE.out],he.2,he.1⟩
end
end Go.Proofs.YtppefchjoodgnaaGreat
