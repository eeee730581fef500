import Derived.Test.YtppefchjoodgnaaGreatPQ06
import Derived.Shelf.Sort.Plain
import Derived.Shelf.Slices.In.SortNone
import Derived.Test.YtppefchjoodgnaaGreatProg
import Derived.Sort.OwnSorted
import Derived.Sort.KeysCollected
set_option linter.unusedSimpArgs false
set_option linter.unusedVariables false
namespace Go.Proofs.YtppefchjoodgnaaGreat
open Go.RowKit
def NewT (base b r:Nat)(L:List Rec)(ds:List TDef)(w:World)(e:Ending)(w':World):Prop :=
 Keep (foot b r L) w w'∧((tnew (view L) ds=none∧e=.returned (.tuple #[.pointer none,.int .i64 1])) ∨
  ∃ tb S,tnew (view L) ds=some (zN S)∧e=.returned (.tuple #[.pointer (some ⟨tb,0,none⟩),.int .i64 0])∧TabAt w' base tb S∧S.b=b∧∀ j∈zM tb S,j∈foot b r L∨w.heap.size≤j)
theorem nk_inj {a c:Nat}(ha:a < 256)(hc:c < 256)(h:yM a=yM c):a=c:=by
 have h1:=congrArg (fun z:ByteArray=>z.data.toList) h
 simp only[yM,strOfNums_data,List.map_cons,List.cons.injEq]at h1
 have h2:=congrArg UInt8.toNat h1.1
 simp only[UInt8.toNat_ofNat']at h2
 omega
def tL (w:World)(a:Nat):Int:=match w.cell? ⟨a,5,none⟩ with|some (.int _ n)=>n|_=>0
theorem tnew_le {M:Areas}{ds:List TDef}:∀ {j k:Nat},j≤k→uF M ds j=none→uF M ds k=none
 | j,0,h,hn=>by simpa[Nat.le_zero.1 h]using hn
 | j,k+1,h,hn=>by
  by_cases e:j=k+1
  ·rw[← e];exact hn
  ·rw[uF,tnew_le (by omega:j≤k) hn];rfl
theorem tslot_some {V V':Areas×List TM}{i:Int}{s:ByteArray}{vs:List Int}{t:TM}(hp:pick V.2 i=some t)(h:kV V i s vs=some V'):V'.2=V.2.set i.toNat (yF t s):=by
 simp only[kV,hp]at h
 split at h
 ·cases h
 ·split at h
  ·injection h with h;rw[← h]
  ·cases h
theorem tfill_le {V:Areas×List TM}{i:Int}{val:Nat}:∀ {j k:Nat},j≤k→vM V i val j=none→vM V i val k=none
 | j,0,h,hn=>by simpa[Nat.le_zero.1 h]using hn
 | j,k+1,h,hn=>by
  by_cases e:j=k+1
  ·rw[← e];exact hn
  ·rw[vM,tfill_le (by omega:j≤k) hn];rfl
set_option maxRecDepth 20000 in
set_option maxHeartbeats 4000000 in
theorem tab_new (base b r:Nat)(L:List Rec)(dv:Value)(ds:List TDef)(w:World)(hm:MemAt w b r L)(hbase:base≤w.heap.size)(HD:Hid (∀ w',Keep (foot b r L) w w'→Rd w' 4 TDef.enc dv ds)):
  Calls Tryz.prog 53 #[.pointer (some ⟨b,0,none⟩),dv] w (NewT base b r L ds w):=by
 have hd:=HD.out w (Keep.rfl' _ _)
 obtain⟨da,dn,dc,rfl,hdn,hDN⟩:=hd.val
 have HMM:=η hm
 have HDD:=η hd
 clear hm hd
 have hmm:=@run_makeMap Tryz.prog
 go_enter Tryz.func53,Tryz.ntmps53
 go_wp2_with fail
 refine(tab_right _ ds _ HDD.out).mono ?_
 rintro e w1 ⟨rfl,he1⟩
 cases hr:xC ds with
 | false =>
  have HR:=η hr
  clear hr
  simp only
  go_wp2_with fail
  go_returns
  exact⟨Keep.of_ext he1,.inl ⟨by simp only[tnew,HR.out];rfl,rfl⟩⟩
 | true =>
  have HR:=η hr
  have hn8:dn≤8:=by
   have:=hDN.out
   simp only[xC,Bool.and_eq_true,decide_eq_true_eq]at hr
   omega
  have HMAY:Hid (∀ d∈ds,mayD d=true):=η (by
   simp only[xC,Bool.and_eq_true,List.all_eq_true]at hr
   exact hr.2)
  clear hr
  go_wp2_with fail
  have hT0:TabAt (w1.alloc (.cells #[.pointer (some ⟨b,0,none⟩),.slice none 0 0] 154)) base w1.heap.size ⟨b,r,L,.slice none 0 0,[]⟩:=by
   have hs:=he1.size
   refine⟨zD _ _ rfl,by omega,Own.nil _ _ _ _ _,fun x hx=>by simp at hx,fun x hx=>by simp at hx,(HMM.out.ext he1).ext ((Ext.rfl' w1).alloc' _),?_,by simp,fun x hx=>by simp at hx⟩
   simp only[zM,Value.ownBlock,Option.toList_none,List.nil_append,List.flatMap_nil]
   rw[List.nodup_cons]
   exact⟨fun hj=>by have:=HMM.out.lt _ hj;omega,HMM.out.apart⟩
  have HT0:=η hT0
  have hwt:Ext w (w1.alloc (.cells #[.pointer (some ⟨b,0,none⟩),.slice none 0 0] 154)):=he1.alloc' _
  have hs1:=he1.size
  obtain⟨tb,htb⟩:∃ tb,w1.heap.size=tb:=⟨_,rfl⟩
  rw[htb]at HT0 ⊢
  have htw:w.heap.size≤tb:=by omega
  clear hT0 he1 hs1
  go_loopw [22] (fun i wr=>∃ (j:Nat) (S:Tabs),j≤dn∧i=.int .i64 j∧S.b=b∧S.r=r∧TabAt wr base tb S∧uF (view L) ds j=some (zN S)∧S.R.length=j∧Keep (foot b r L) w wr∧(∀ q∈zM tb S,q∈foot b r L∨w.heap.size≤q)) (fun i _=>dn - (intOf i).toNat)
  case atStart =>
   refine⟨0,_,Nat.zero_le _,rfl,rfl,rfl,HT0.out,rfl,rfl,Keep.of_ext hwt,fun q hq=>?_⟩
   simp only[zM,Value.ownBlock,Option.toList_none,List.nil_append,List.flatMap_nil,List.mem_cons]at hq
   rcases hq with rfl|hq
   ·exact .inr htw
   ·exact .inl hq
  case round =>
   obtain⟨j,S,hj,rfl,hSb,hSr,hT,hnews,hlen,hK,hfr⟩:=hrel
   have HT:=η hT
   have HNEWS:=η hnews
   have HLEN:=η hlen
   have HKK:=η hK
   have HFR:=η hfr
   have HSB:=η hSb
   have HSR:=η hSr
   clear hT hnews hlen hfr HT0 hSb hSr
   by_cases hlt:(j:Int) < dn
   case neg =>
    have hjn:j=ds.length:=by have:=hDN.out;omega
    have HJ:=η hjn
    clear hjn hK
    go_wp2_with fail
    go_returns
    refine⟨HKK.out,.inr ⟨tb,S,?_,rfl,HT.out,HSB.out,HFR.out⟩⟩
    simp only[tnew,HR.out,if_true]
    rw[← HJ.out];exact HNEWS.out
   case pos =>
    obtain⟨d,hd⟩:=zK (xs:=ds) (k:=j) (by have:=hDN.out;omega)
    have ix:=fun W=>HDD.out.run_at (P:=Tryz.prog) el_def.under el_def.size .i64 (j:Int) (by omega) (by omega) W
    simp only[Int.toNat_natCast]at ix
    obtain⟨c0,c1,c2,c3⟩:=uR (HD.out wr hK) hd
    have hmv:=HT.out.maps
    obtain⟨ma,mn,mc,hmv',hmn,hMN⟩:=(hmv.rd enc_t).val
    have HMV:=η hmv'
    rw[hmv']at hmv
    have cb:=cO (i:=1) HT.out.head
    simp only[gA,gB,gC]at cb
    rw[hmv']at cb
    have OMV:=η hmv
    have HDJ:=η hd
    clear hK hd hmv hmv'
    obtain⟨D,hD⟩:∃ D,(.cells #[.bool d.hash,.int .i64 d.key,.int .i64 d.val,.int .i64 d.max] 102:Obj)=D:=⟨_,rfl⟩
    obtain⟨X,hX⟩:∃ X,(.cells #[.bool d.hash,.int .i64 d.key,.int .i64 d.val,.int .i64 d.max,.map (some (wr.heap.size+1)),.int .i64 0] 158:Obj)=X:=⟨_,rfl⟩
    have hxe:Ext wr (((wr.alloc D).alloc (.map #[] 0)).alloc X):=(((Ext.rfl' wr).alloc' _).alloc' _).alloc' _
    have hxe2:=hxe.alloc' (.cells #[.pointer (some ⟨wr.heap.size+1+1,0,none⟩)] 155)
    have cb':=hxe.cellOf cb
    have hbs:base≤wr.heap.size:=by have:=HKK.out.size;omega
    have hOA:=η (OMV.out.ext hxe2)
    have hYL:Hid (Rd ((((wr.alloc D).alloc (.map #[] 0)).alloc X).alloc (.cells #[.pointer (some ⟨wr.heap.size+1+1,0,none⟩)] 155)) 1 encT (.slice (some ⟨wr.heap.size+1+1+1,0,none⟩) 1 1) [⟨wr.heap.size+1+1,wr.heap.size+1,d.tm⟩]) :=
     η ((Own.lit enc_t (base:=0) (w:=((wr.alloc D).alloc (.map #[] 0)).alloc X) [⟨wr.heap.size+1+1,wr.heap.size+1,d.tm⟩] (by simp) rfl (Nat.zero_le _) (by simp[maxLen])).rd enc_t)
    subst hD hX
    go_wp2_with (at_builtin;refine app_own2 el_one enc_t rfl _ _ rfl rfl hOA.out rfl hYL.out ?q2 ?q3 ?q4)
    case q2=>have:=HLEN.out;simp;omega
    case q3=>simp;omega
    intro lv w5 hown hgrow hmvd
    obtain⟨la,ln,lc,rfl,hln,hLN⟩:=(hown.rd enc_t).val
    have hkg:=yB hgrow
    have hx1:((((wr.alloc (.cells #[.bool d.hash,.int .i64 d.key,.int .i64 d.val,.int .i64 d.max] 102)).alloc (.map #[] 0)).alloc (.cells #[.bool d.hash,.int .i64 d.key,.int .i64 d.val,.int .i64 d.max,.map (some (wr.heap.size+1)),.int .i64 0] 158)).alloc (.cells #[.pointer (some ⟨wr.heap.size+1+1,0,none⟩)] 155)).heap[wr.heap.size+1+1]?=some (.cells (TRec.cells ⟨wr.heap.size+1+1,wr.heap.size+1,d.tm⟩) 158 (0,0)):=zB _ (zD _ _ (by simp))
    have hx2:((((wr.alloc (.cells #[.bool d.hash,.int .i64 d.key,.int .i64 d.val,.int .i64 d.max] 102)).alloc (.map #[] 0)).alloc (.cells #[.bool d.hash,.int .i64 d.key,.int .i64 d.val,.int .i64 d.max,.map (some (wr.heap.size+1)),.int .i64 0] 158)).alloc (.cells #[.pointer (some ⟨wr.heap.size+1+1,0,none⟩)] 155)).heap[wr.heap.size+1]?=some (.map #[] 0):=zB _ (zB _ (zD _ _ (by simp)))
    have hx3:((((wr.alloc (.cells #[.bool d.hash,.int .i64 d.key,.int .i64 d.val,.int .i64 d.max] 102)).alloc (.map #[] 0)).alloc (.cells #[.bool d.hash,.int .i64 d.key,.int .i64 d.val,.int .i64 d.max,.map (some (wr.heap.size+1)),.int .i64 0] 158)).alloc (.cells #[.pointer (some ⟨wr.heap.size+1+1,0,none⟩)] 155)).heap[wr.heap.size]?=some (.cells #[.bool d.hash,.int .i64 d.key,.int .i64 d.val,.int .i64 d.max] 102 (0,0)):=zB _ (zB _ (zB _ (zD _ _ rfl)))
    have hp:=HT.out.push (lv:=.slice la ln lc) (x:=⟨wr.heap.size+1+1,wr.heap.size+1,d.tm⟩) hxe2 hx1 (smap_new hx2) ⟨by simp only[];omega,by simp only[];omega,by simp⟩ ⟨by simp[TDef.tm],by simp[TDef.tm]⟩ (by rw[HMV.out];exact hkg) (by rw[HMV.out];exact hmvd) hown (by have:=HLEN.out;omega)
    have hownlt:∀ q∈(Value.slice ma mn mc).ownBlock.toList,q < wr.heap.size:=fun q hq=>(OMV.out.lt (by simpa using hq)).2
    have htbF:tb ∉ (Value.slice ma mn mc).ownBlock.toList:=by
     rw[← HMV.out]
     exact fun hj=>(List.nodup_cons.1 HT.out.apart).1 (List.mem_append_left _ hj)
    have otb:=hkg.obj (hxe2.obj HT.out.head) htbF
    have z1:=cO (i:=1) otb
    have z2:=zA (i:=1) otb
    simp only[gA,gB,gC]at z1
    have od5:=hkg.obj hx3 (fun hj=>by have:=hownlt _ hj;omega)
    have htblt:tb < wr.heap.size:=HT.out.lt tb (by simp[zM])
    have od6:(w5.setCell ⟨tb,1,none⟩ (.slice la ln lc)).heap[wr.heap.size]?=some (.cells #[.bool d.hash,.int .i64 d.key,.int .i64 d.val,.int .i64 d.max] 102 (0,0)):=(heap_setCell_other _ _ _ _ (by simp;omega)).trans od5
    have HOD:=η od6
    have HP1:=η hp.1
    have HP2:=η hp.2.1
    have HBD:Hid (wr.heap.size ∉ zM tb {S with mv:=.slice la ln lc,R:=S.R++[⟨wr.heap.size+1+1,wr.heap.size+1,d.tm⟩]}):=η fun hj=>by
     rcases hp.2.2 _ hj with h|⟨_,h|h|h⟩
     ·have:=HT.out.lt _ h;omega
     ·simp at h;omega
     ·simp at h
     ·simp at h;omega
    have HFR1:Hid (∀ q∈zM tb {S with mv:=.slice la ln lc,R:=S.R++[⟨wr.heap.size+1+1,wr.heap.size+1,d.tm⟩]},q∈foot b r L∨w.heap.size≤q):=η fun q hq=>by
     rcases hp.2.2 _ hq with h|⟨h,_⟩
     ·exact HFR.out q h
     ·have:=HKK.out.size;exact .inr (by omega)
    have HK6:Hid (Keep (foot b r L) w (w5.setCell ⟨tb,1,none⟩ (.slice la ln lc))):=η (by
     have h1:=HP2.out
     exact⟨h1.os.trans HKK.out.os,h1.tape.trans HKK.out.tape,h1.output.trans HKK.out.output,Nat.le_trans HKK.out.size h1.size,fun q hq hF=>(h1.block q (Nat.lt_of_lt_of_le hq HKK.out.size) (fun hj=>(HFR.out q hj).elim hF (fun h=>by omega))).trans (HKK.out.block q hq hF)⟩)
    have hmay:=HMAY.out d (List.mem_of_getElem? HDJ.out)
    have hbd0:=cO (i:=0) HOD.out;have hbd3:=cO (i:=3) HOD.out;simp only[gA,gB,gC]at hbd0 hbd3
    have hN1:uF (view L) ds (j+1)=tnew1 (zN S) d:=by rw[uF,HNEWS.out,HDJ.out];rfl
    have HN1:=η hN1
    clear hown hgrow hmvd hkg hx1 hx2 hx3 hp hownlt otb od5 od6 hYL hOA OMV cb cb' hxe hxe2 c0 c1 c2 c3 ix hN1 htbF
    go_wp2_with fail
    have hbw:w.heap.size≤wr.heap.size:=HKK.out.size
    generalize hw6:w5.setCell ⟨tb,1,none⟩ (.slice la ln lc)=w6 at HOD HP1 HP2 HK6 hbd0 hbd3 ⊢
    generalize hxa:wr.heap.size+1+1=xa at HP1 HBD HFR1 ⊢
    generalize hxr:wr.heap.size+1=xr at HP1 HBD HFR1 ⊢
    generalize hbd:wr.heap.size=bd at HOD HBD hbd0 hbd3 hbw ⊢
    clear hw6 hxa hxr hbd z1 z2 htblt HP2
    cases hh:d.hash with
    | true =>
     have HH:=η hh
     rw[hh]at hbd0
     clear hh
     go_loopw [52] (fun _ wq=>wq=w6) (fun _ _=>0)
     case atStart=>rfl
     case round =>
      subst hrel
      go_wp2_with fail
      go_quiet (fail)
      go_wp2_with fail
      go_roundw
      case rel =>
       refine⟨j+1,{S with mv:=.slice la ln lc,R:=S.R++[⟨xa,xr,d.tm⟩]},by omega,by go_num,HSB.out,HSR.out,HP1.out.ext (by (repeat (first|exact xE0 _|assumption|refine xE1 ?_ _|refine xE2 ?_|refine xE3 ?_ _|refine xE4 ?_ (by assumption)))),?_,by simp[HLEN.out],HK6.out.trans (Keep.of_ext (by (repeat (first|exact xE0 _|assumption|refine xE1 ?_ _|refine xE2 ?_|refine xE3 ?_ _|refine xE4 ?_ (by assumption))))),HFR1.out⟩
       rw[HN1.out]
       simp only[tnew1,HH.out,if_true,zN,List.map_append,List.map_cons,List.map_nil]
      case measure=>simp[intOf];omega
    | false =>
     have HH:=η hh
     rw[hh]at hbd0
     clear hh
     have hmx:d.max≤16∧0≤d.val∧d.val≤64:=by
      simp only[mayD,Bool.and_eq_true,decide_eq_true_eq]at hmay
      omega
     obtain⟨vn,hvn⟩:∃ vn:Nat,(vn:Int)=d.val:=⟨d.val.toNat,by omega⟩
     have hv64:vn≤64:=by omega
     have hm16:=hmx.1
     have hms:∀ u:World,(Instr.makeSlice 23 (.int .i64 d.val) (.int .i64 d.val)).run Tryz.prog u=.ok (.slice (some ⟨u.heap.size,0,none⟩) vn vn) (u.alloc (.cells (madeCells #[.int .u8 0] vn) 5)):=fun u=>by rw[← hvn];exact run_make_u8 vn (by omega) u
     have HVT:Hid (d.val.toNat=vn):=η (by omega)
     clear hmay hmx hvn hbd3
     go_loopw [52] (fun _ wq=>∃ (k:Nat) (S2:Tabs) (x2:TRec),k≤d.max.toNat∧TabAt wq base tb S2∧S2.b=b∧S2.r=r∧vM ((zN S).1,(zN S).2++[d.tm]) j vn k=some (zN S2)∧S2.R.length=j+1∧S2.R[j]?=some x2∧x2.a=xa∧x2.T.made=k∧(∀ p∈x2.T.slots,∃ q < k,p.1=yM q)∧Keep (foot b r L) w wq∧(∀ q∈zM tb S2,q∈foot b r L∨w.heap.size≤q)∧wq.heap[bd]?=some (.cells #[.bool d.hash,.int .i64 d.key,.int .i64 d.val,.int .i64 d.max] 102 (0,0))∧bd ∉ zM tb S2) (fun _ wq=>(d.max - tL wq xa).toNat)
     case atStart =>
      refine⟨0,{S with mv:=.slice la ln lc,R:=S.R++[⟨xa,xr,d.tm⟩]},⟨xa,xr,d.tm⟩,Nat.zero_le _,HP1.out,HSB.out,HSR.out,?_,by simp[HLEN.out],?_,rfl,rfl,fun p hp=>by simp[TDef.tm]at hp,HK6.out,HFR1.out,HOD.out,HBD.out⟩
      ·simp only[vM,zN,List.map_append,List.map_cons,List.map_nil]
      ·simp only[]
       rw[List.getElem?_append_right (by rw[HLEN.out];exact Nat.le_refl _),HLEN.out]
       simp
     case round =>
      obtain⟨k,S2,x2,hk,hT2,hb2,hr2,hfill,hl2,hx2,rfl,hmd,hsl,hK2,hfr2,hob,hbt⟩:=hrel
      have HT2:=η hT2
      have HB2:=η hb2
      have HR2:=η hr2
      have HF2:=η hfill
      have HL2:=η hl2
      have HX2:=η hx2
      have HMD:=η hmd
      have HSL:=η hsl
      have HK2:=η hK2
      have HFR2:=η hfr2
      have HOB:=η hob
      have HBT:=η hbt
      have q0:=cO (i:=0) hob
      have q2:=cO (i:=2) hob
      have q3:=cO (i:=3) hob
      have q5:=cO (i:=5) (hT2.ones x2 (List.mem_of_getElem? hx2))
      simp only[TRec.cells,gA,gB,gC]at q0 q2 q3 q5
      rw[HH.out]at q0
      rw[hmd]at q5
      clear hT2 hb2 hr2 hfill hl2 hx2 hmd hsl hK2 hfr2 hob hbt
      by_cases hkm:(k:Int) < d.max
      ·go_wp2_with fail
       go_quiet (fail)
       go_wp2_with fail
       have HPK:Hid (pick S2.R (j:Int)=some x2):=η (by simp only[pick];rw[if_neg (by omega)];simpa using HX2.out)
       have HLK:Hid (x2.T.slots.lookup (yM k)=none):=η (by
        cases hc:x2.T.slots.lookup (yM k) with
        | none=>rfl
        | some v =>
         obtain⟨q,hq,he⟩:=HSL.out _ (yZ hc)
         have:=nk_inj (by omega) (by omega) he
         omega)
       have hxq:Ext wr (wr.drewN nq):=Ext.drewN' (Ext.rfl' wr) nq
       have HBL:Hid (bd < wr.heap.size):=η (zE HOB.out)
       have q5a:∀ o,((wr.drewN (nq+1)).alloc o).cell? ⟨x2.a,5,none⟩=some (.int .i64 k):=fun o=>(show Ext wr ((wr.drewN (nq+1)).alloc o) by (repeat (first|exact xE0 _|assumption|refine xE1 ?_ _|refine xE2 ?_|refine xE3 ?_ _|refine xE4 ?_ (by assumption)))).cellOf q5
       have q2d:(wr.drewN (nq+1)).cell? ⟨bd,2,none⟩=some (.int .i64 d.val):=q2
       have q5d:(wr.drewN (nq+1)).cell? ⟨x2.a,5,none⟩=some (.int .i64 k):=q5
       have hfs:vM ((zN S).1,(zN S).2++[d.tm]) j vn (k+1)=kV (zN S2) j (yM k) (List.replicate vn 0):=by rw[vM,HF2.out];rfl
       have HFS:=η hfs
       clear hfs
       cases hs:kV (zN S2) j (yM k) (List.replicate vn 0) with
       | none =>
        have HS:=η hs
        have his:(kV (zN S2) j (yM k) (List.replicate vn 0)).isSome=false:=by rw[hs];rfl
        clear hs
        go_region_with ((first
         | (go_at_call 86;refine(tab_key k _).mono ?_;rintro e w2 ⟨rfl,he2⟩;have hw2:Ext wr w2:=Ext.trans' (by (repeat (first|exact xE0 _|assumption|refine xE1 ?_ _|refine xE2 ?_|refine xE3 ?_ _|refine xE4 ?_ (by assumption)))) he2;have q2b:=hw2.cellOf q2;have q5b:=hw2.cellOf q5)
         | (go_at_call 85;refine(tab_slot base tb S2 j (yM k) _ (List.replicate vn 0) x2 _ (HT2.out.ext (by (repeat (first|exact xE0 _|assumption|refine xE1 ?_ _|refine xE2 ?_|refine xE3 ?_ _|refine xE4 ?_ (by assumption))))) (by first|exact pN _ vn (by omega)|exact(pN (wr.drewN (nq+1)) vn (by omega)).ext he2) (rep_u8 vn) HPK.out HLK.out).mono ?_;rintro e w7 ⟨he7,hk7,S3,hT3,hv3,hf3,hb3,hr3,ha3⟩;rw[his]at he7;subst he7;have hk8:Keep (zM tb S2) wr w7:=(Keep.of_ext (by (repeat (first|exact xE0 _|assumption|refine xE1 ?_ _|refine xE2 ?_|refine xE3 ?_ _|refine xE4 ?_ (by assumption))))).trans hk7;have HFR3:Hid (∀ q∈zM tb S3,q∈zM tb S2∨wr.heap.size≤q):=η (fun q hq=>(hf3 q hq).imp id (fun h=>Nat.le_trans (Below.size (show Ext wr _ by (repeat (first|exact xE0 _|assumption|refine xE1 ?_ _|refine xE2 ?_|refine xE3 ?_ _|refine xE4 ?_ (by assumption))))) h));have HT3:=η hT3;have HV3:=η hv3;have HB3:=η hb3;have HR3:=η hr3;have HA3:=η ha3;have HK8:=η hk8;clear hk7 hT3 hv3 hf3 hb3 hr3 ha3 hk8)))
        all_goals
         go_wp2_with fail
         go_returns
         have h1:vM ((zN S).1,(zN S).2++[d.tm]) j vn d.max.toNat=none:=tfill_le (by omega:k+1≤d.max.toNat) (by rw[HFS.out,HS.out])
         have h2:uF (view L) ds (j+1)=none:=by
          rw[HN1.out]
          simp only[tnew1,HH.out,Bool.false_eq_true,if_false,HVT.out]
          rw[← h1]
          simp only[zN,List.length_map,HLEN.out]
         refine⟨HK2.out.through HK8.out HFR2.out,.inl ⟨?_,rfl⟩⟩
         simp only[tnew,HR.out,if_true]
         exact tnew_le (by have:=hDN.out;omega) h2
       | some V' =>
        have HS:=η hs
        have his:(kV (zN S2) j (yM k) (List.replicate vn 0)).isSome=true:=by rw[hs];rfl
        clear hs
        go_region_with ((first
         | (go_at_call 86;refine(tab_key k _).mono ?_;rintro e w2 ⟨rfl,he2⟩;have hw2:Ext wr w2:=Ext.trans' (by (repeat (first|exact xE0 _|assumption|refine xE1 ?_ _|refine xE2 ?_|refine xE3 ?_ _|refine xE4 ?_ (by assumption)))) he2;have q2b:=hw2.cellOf q2;have q5b:=hw2.cellOf q5)
         | (go_at_call 85;refine(tab_slot base tb S2 j (yM k) _ (List.replicate vn 0) x2 _ (HT2.out.ext (by (repeat (first|exact xE0 _|assumption|refine xE1 ?_ _|refine xE2 ?_|refine xE3 ?_ _|refine xE4 ?_ (by assumption))))) (by first|exact pN _ vn (by omega)|exact(pN (wr.drewN (nq+1)) vn (by omega)).ext he2) (rep_u8 vn) HPK.out HLK.out).mono ?_;rintro e w7 ⟨he7,hk7,S3,hT3,hv3,hf3,hb3,hr3,ha3⟩;rw[his]at he7;subst he7;have hk8:Keep (zM tb S2) wr w7:=(Keep.of_ext (by (repeat (first|exact xE0 _|assumption|refine xE1 ?_ _|refine xE2 ?_|refine xE3 ?_ _|refine xE4 ?_ (by assumption))))).trans hk7;have HFR3:Hid (∀ q∈zM tb S3,q∈zM tb S2∨wr.heap.size≤q):=η (fun q hq=>(hf3 q hq).imp id (fun h=>Nat.le_trans (Below.size (show Ext wr _ by (repeat (first|exact xE0 _|assumption|refine xE1 ?_ _|refine xE2 ?_|refine xE3 ?_ _|refine xE4 ?_ (by assumption))))) h));have HT3:=η hT3;have HV3:=η hv3;have HB3:=η hb3;have HR3:=η hr3;have HA3:=η ha3;have HK8:=η hk8;clear hk7 hT3 hv3 hf3 hb3 hr3 ha3 hk8)))
        all_goals
         (try simp only[Act.put,List.getElem_toArray,List.getElem_cons_succ,List.getElem_cons_zero,List.setIfInBounds_toArray,List.set_cons_succ,List.set_cons_zero])
         go_wp2_with fail
         (try simp only[Act.put,List.getElem_toArray,List.getElem_cons_succ,List.getElem_cons_zero,List.setIfInBounds_toArray,List.set_cons_succ,List.set_cons_zero])
         have hv:zN S3=V':=by rw[HV3.out,HS.out];rfl
         have hR3:S3.R.map (·.T)=(S2.R.map (·.T)).set j (yF x2.T (yM k)):=by
          have h1:pick (zN S2).2 (j:Int)=some x2.T:=by simp only[zN];rw[pick_map,HPK.out];rfl
          have h2:=tslot_some h1 HS.out
          rw[← hv]at h2
          simpa[zN]using h2
         have hl3:S3.R.length=j+1:=by
          have:=congrArg List.length HA3.out
          simpa[HL2.out]using this
         obtain⟨x3,hx3⟩:=zK (xs:=S3.R) (k:=j) (by omega)
         have ha:x3.a=x2.a:=by
          have h1:(S3.R.map (·.a))[j]?=(S2.R.map (·.a))[j]?:=by rw[HA3.out]
          rw[List.getElem?_map,List.getElem?_map,hx3,HX2.out]at h1
          simpa using h1
         have hT:x3.T=yF x2.T (yM k):=by
          have h1:(S3.R.map (·.T))[j]?=((S2.R.map (·.T)).set j (yF x2.T (yM k)))[j]?:=by rw[hR3]
          rw[List.getElem?_map,hx3,List.getElem?_set_self (by rw[List.length_map,HL2.out];omega)]at h1
          simpa using h1
         have hmade3:tL w7 x2.a=(k:Int)+1:=by
          have h1:=cO (i:=5) (HT3.out.ones x3 (List.mem_of_getElem? hx3))
          simp only[TRec.cells,gA,gB,gC]at h1
          rw[ha]at h1
          simp only[tL,h1,hT,yF,HMD.out]
          omega
         have hmade2:tL wr x2.a=k:=by simp only[tL,q5]
         have M3:=η hmade3
         have M2:=η hmade2
         clear hmade3 hmade2
         go_roundw
         case rel =>
          refine⟨k+1,S3,x3,by omega,HT3.out,by rw[HB3.out,HB2.out],by rw[HR3.out,HR2.out],by rw[HFS.out,HS.out,hv],hl3,hx3,ha,by rw[hT];simp only[yF,HMD.out],?_,HK2.out.through HK8.out HFR2.out,?_,HK8.out.obj HOB.out HBT.out,?_⟩
          ·intro p hp
           rw[hT]at hp
           simp only[yF,List.mem_append,List.mem_singleton]at hp
           rcases hp with hp|rfl
           ·obtain⟨q,hq,he⟩:=HSL.out p hp
            exact⟨q,by omega,he⟩
           ·exact⟨k,by omega,rfl⟩
          ·intro q hq
           rcases HFR3.out q hq with h|h
           ·exact HFR2.out q h
           ·have:=HK2.out.size;exact .inr (by omega)
          ·intro hq
           rcases HFR3.out _ hq with h|h
           ·exact HBT.out h
           ·have:=HBL.out;omega
         case measure=>rw[M3.out,M2.out];omega
      ·have hke:k=d.max.toNat:=by omega
       have HKE:=η hke
       have HNM:Hid (tL wr x2.a=k):=η (by simp only[tL,q5])
       go_wp2_with fail
       go_quiet (fail)
       go_wp2_with fail
       go_roundw
       case rel =>
        refine⟨j+1,S2,by omega,by go_num,HB2.out,HR2.out,HT2.out.ext (by (repeat (first|exact xE0 _|assumption|refine xE1 ?_ _|refine xE2 ?_|refine xE3 ?_ _|refine xE4 ?_ (by assumption)))),?_,HL2.out,HK2.out.trans (Keep.of_ext (by (repeat (first|exact xE0 _|assumption|refine xE1 ?_ _|refine xE2 ?_|refine xE3 ?_ _|refine xE4 ?_ (by assumption))))),HFR2.out⟩
        rw[HN1.out]
        simp only[tnew1,HH.out,Bool.false_eq_true,if_false,HVT.out]
        rw[← HKE.out,← HF2.out]
        simp only[zN,List.length_map,HLEN.out]
       case measure=>simp[intOf];omega
end Go.Proofs.YtppefchjoodgnaaGreat
namespace Go.Proofs
open Go.Shelf
def Tryz.lays190_ren:Go.Shelf.Ren:=⟨fun|190=>91|125=>127|258=>126|128=>168|129=>169|302=>159|303=>160|304=>161|305=>162|306=>163|307=>164|308=>165|309=>166|310=>167|333=>189|329=>190|330=>191|334=>192|335=>193|336=>194|344=>212|n=>n,fun|31=>165|9=>9|3=>3|46=>115|0=>0|51=>190|53=>29|4=>4|183=>218|182=>217|131=>96|5=>5|218=>241|222=>245|228=>261|229=>207|n=>n,fun|n=>n⟩
theorem Tryz.lays190:Go.Proofs.Lays.n190 Tryz.prog Tryz.lays190_ren:={
 mixed:=by kernel_rfl
 f125:=Tryz.func127.trans (congrArg some (by kernel_rfl))
 f128:=Tryz.func168.trans (congrArg some (by kernel_rfl))
 f129:=Tryz.func169.trans (congrArg some (by kernel_rfl))
 f190:=Tryz.func91.trans (congrArg some (by kernel_rfl))
 f258:=Tryz.func126.trans (congrArg some (by kernel_rfl))
 f302:=Tryz.func159.trans (congrArg some (by kernel_rfl))
 f303:=Tryz.func160.trans (congrArg some (by kernel_rfl))
 f304:=Tryz.func161.trans (congrArg some (by kernel_rfl))
 f305:=Tryz.func162.trans (congrArg some (by kernel_rfl))
 f306:=Tryz.func163.trans (congrArg some (by kernel_rfl))
 f307:=Tryz.func164.trans (congrArg some (by kernel_rfl))
 f308:=Tryz.func165.trans (congrArg some (by kernel_rfl))
 f309:=Tryz.func166.trans (congrArg some (by kernel_rfl))
 f310:=Tryz.func167.trans (congrArg some (by kernel_rfl))
 f329:=Tryz.func190.trans (congrArg some (by kernel_rfl))
 f330:=Tryz.func191.trans (congrArg some (by kernel_rfl))
 f333:=Tryz.func189.trans (congrArg some (by kernel_rfl))
 f334:=Tryz.func192.trans (congrArg some (by kernel_rfl))
 f335:=Tryz.func193.trans (congrArg some (by kernel_rfl))
 f336:=Tryz.func194.trans (congrArg some (by kernel_rfl))
 f344:=Tryz.func212.trans (congrArg some (by kernel_rfl))
 t0:=Tryz.underlying0
 a0:=Tryz.isAgg0
 z0:=Tryz.sizeOf0
 v0:=Tryz.zeroValue0
 t3:=Tryz.underlying3
 a3:=Tryz.isAgg3
 z3:=Tryz.sizeOf3
 v3:=Tryz.zeroValue3
 t4:=Tryz.underlying4
 a4:=Tryz.isAgg4
 z4:=Tryz.sizeOf4
 v4:=Tryz.zeroValue4
 t5:=Tryz.underlying5
 a5:=Tryz.isAgg5
 z5:=Tryz.sizeOf5
 v5:=Tryz.zeroValue5
 t9:=Tryz.underlying9
 a9:=Tryz.isAgg9
 z9:=Tryz.sizeOf9
 v9:=Tryz.zeroValue9
 t31:=Tryz.underlying165
 a31:=Tryz.isAgg165
 z31:=Tryz.sizeOf165
 v31:=Tryz.zeroValue165
 t46:=Tryz.underlying115
 a46:=Tryz.isAgg115
 z46:=Tryz.sizeOf115
 v46:=Tryz.zeroValue115
 t51:=Tryz.underlying190
 a51:=Tryz.isAgg190
 z51:=Tryz.sizeOf190
 v51:=Tryz.zeroValue190
 t53:=Tryz.underlying29
 a53:=Tryz.isAgg29
 z53:=Tryz.sizeOf29
 v53:=Tryz.zeroValue29
 t131:=Tryz.underlying96
 a131:=Tryz.isAgg96
 z131:=Tryz.sizeOf96
 v131:=Tryz.zeroValue96
 t182:=Tryz.underlying217
 a182:=Tryz.isAgg217
 z182:=Tryz.sizeOf217
 v182:=Tryz.zeroValue217
 t183:=Tryz.underlying218
 a183:=Tryz.isAgg218
 z183:=Tryz.sizeOf218
 v183:=Tryz.zeroValue218
 t218:=Tryz.underlying241
 a218:=Tryz.isAgg241
 z218:=Tryz.sizeOf241
 v218:=Tryz.zeroValue241
 t222:=Tryz.underlying245
 a222:=Tryz.isAgg245
 z222:=Tryz.sizeOf245
 v222:=Tryz.zeroValue245
 t228:=Tryz.underlying261
 a228:=Tryz.isAgg261
 z228:=Tryz.sizeOf261
 v228:=Tryz.zeroValue261
 t229:=Tryz.underlying207
 a229:=Tryz.isAgg207
 z229:=Tryz.sizeOf207
 v229:=Tryz.zeroValue207}
open Go.Sort Go.RowKit in
theorem Tryz.slices_Sort_string (blk off cap:Nat)(ss:List (List UInt8))(w:World)(hH:Holds encStr w blk off ss.toArray)(hblk:blk < w.heap.size)(hsz:ss.length < 4611686018427387904):
  Calls Tryz.prog 91 #[.slice (some ⟨blk,off,none⟩) ss.length cap] w fun e w' =>
   e=.returned (.tuple #[])∧∃ n os,w'=grow (putRow encStr (Sort.ahead w n) blk off (ss.mergeSort fun x y=>decide (x≤y)).toArray) os:=Any.slices_Sort_string Tryz.lays190 blk off cap ss w hH hblk hsz
open Go.RowKit Go.Sort in
theorem Tryz.slices_Sort_string_none (p:Option Addr)(cap:Nat)(w:World):
  Calls Tryz.prog 91 #[.slice p 0 cap] w fun e w'=>e=.returned (.tuple #[])∧w'=w:=Any.slices_Sort_string_none Tryz.lays190 p cap w
end Go.Proofs
namespace Go.Proofs.YtppefchjoodgnaaGreat
open Go.RowKit Go.Sort
abbrev encK:ByteArray→List Value:=fun k=>[Value.string k]
theorem enc_k:Enc 1 encK:=⟨fun _=>rfl,fun x u hu=>by simp at hu;subst hu;rfl⟩
theorem el_str:El Tryz.prog 165 9 1 16 (.string ⟨#[]⟩):=⟨Tryz.underlying165,by kernel_rfl,rfl,by decide,fun _=>by kernel_rfl⟩
abbrev leB:List UInt8→List UInt8→Bool:=fun x y=>decide (x≤y)
def vW (ks:List ByteArray):List ByteArray:=((ks.map fun k=>k.data.toList).mergeSort leB).map fun l=>⟨l.toArray⟩
theorem tX (ks:List ByteArray):(vW ks).Perm ks:=by
 have h:=(List.mergeSort_perm (ks.map fun k=>k.data.toList) leB).map fun l=>(⟨l.toArray⟩:ByteArray)
 have e:(ks.map fun k=>k.data.toList).map (fun l=>(⟨l.toArray⟩:ByteArray))=ks:=by
  rw[List.map_map]
  conv=>rhs;rw[← List.map_id ks]
  apply List.map_congr_left
  intro k _
  rfl
 rw[e]at h
 exact h
theorem sort_own {w:World}{base:Nat}{v:Value}{ks:List ByteArray}(h:Own w base 9 1 encK v ks)(hl:ks.length < 1000000):
  Calls Tryz.prog 91 #[v] w fun e w'=>e=.returned (.tuple #[])∧Own w' base 9 1 encK v (vW ks)∧Keep v.ownBlock.toList w w':=by
 obtain⟨h1,h2⟩:=h
 rcases h2 with ⟨rfl,hn⟩|⟨g,cap,cur,rfl,hb,hg,hnc,hcm,hcs,ht⟩
 ·obtain rfl:ks=[]:=List.eq_nil_of_length_eq_zero hn
  refine(Go.Proofs.Tryz.slices_Sort_string_none none 0 w).mono ?_
  rintro e w' ⟨rfl,rfl⟩
  exact⟨rfl,by simpa[vW]using Own.nil _ _ _ _ _,Keep.rfl' _ _⟩
 ·have hss:(ks.map fun k=>k.data.toList).length=ks.length:=by simp
  have he:(ks.map fun k=>k.data.toList).map encStr=ks.flatMap encK:=by
   rw[qJ,List.map_map]
   apply List.map_congr_left
   intro k _
   rfl
  have ht':cur.toList.take (ks.map fun k=>k.data.toList).length=(ks.map fun k=>k.data.toList).map encStr:=by
   rw[he,hss,← ht,Nat.mul_one]
  have hc:=Go.Proofs.Tryz.slices_Sort_string g 0 cap (ks.map fun k=>k.data.toList) w (holds_of_block hg ht') (zE hg) (by simp;omega)
  rw[hss]at hc
  refine hc.mono ?_
  rintro e w' ⟨rfl,n,os,rfl⟩
  have hsl:((ks.map fun k=>k.data.toList).mergeSort leB).length=(ks.map fun k=>k.data.toList).length:=List.length_mergeSort _
  refine⟨rfl,?_,yB (grownBy_sorted (w:=w) (g:=g) (n:=n) (os:=os) _)⟩
  have hr:=ownsRow_sorted (w:=w) (base:=base) (g:=g) (cap:=cap) (n:=n) (e:=9) (os:=os) hsl hb hg (by rw[hss];exact hnc) hcm (by rw[hcs])
  show World.ownsRow _ _ _ _ _ _ _
  have hk:(vW ks).length=ks.length:=(tX ks).length_eq
  have hk2:(vW ks).flatMap encK=((ks.map fun k=>k.data.toList).mergeSort leB).map encStr:=by
   rw[qJ,vW,List.map_map]
   apply List.map_congr_left
   intro l _
   rfl
  rw[hk,hk2]
  rw[hss]at hr
  exact hr
theorem Rd.keep {α:Type}{F:List Nat}{w w':World}{sz:Nat}{enc:α→List Value}{v:Value}{xs:List α}(h:Rd w sz enc v xs)(k:Keep F w w')(hF:∀ a n c,v=.slice (some a) n c→a.block ∉ F):Rd w' sz enc v xs:=by
 obtain⟨a,c,rfl,h2,h3,h4,h5⟩:=h
 refine⟨a,c,rfl,h2,h3,h4,fun i x hx j u hu=>?_⟩
 have hc:=h5 i x hx j u hu
 cases a with
 | none=>rw[(h4 rfl).1]at hx;simp at hx
 | some a =>
  have hb:(elt (.slice (some a) xs.length c) (i * sz+j)).block=a.block:=by
   simp only[elt,Addr.add]
   split<;>rfl
  have hlt:=World.block_lt_of_cell? w _ hc
  rw[hb]at hlt
  have:=k.block a.block hlt (hF a _ _ rfl)
  rw[← hb]at this
  exact(World.cell?_of_block this).trans hc
def gR (k:ByteArray):List Int:=k.data.toList.map fun b=>(b.toNat:Int)
theorem str_numsK (k:ByteArray):strOfNums (gR k)=k:=by
 rcases k with ⟨d⟩
 simp only[strOfNums,gR,List.map_map]
 congr 1
 have:(d.toList.map ((fun n:Int=>UInt8.ofNat n.toNat) ∘ fun b:UInt8=>(b.toNat:Int)))=d.toList:=by
  conv=>rhs;rw[← List.map_id d.toList]
  apply List.map_congr_left
  intro b _
  show UInt8.ofNat ((b.toNat:Int).toNat)=b
  rw[Int.toNat_natCast,UInt8.ofNat_toNat]
 rw[this]
theorem run_bytes_own (k:ByteArray)(hk:k.size≤1000000)(w:World):∃ c w',(convert 9 23 (.string k)).run Tryz.prog w=.ok (.slice (some ⟨w.heap.size,0,none⟩) k.size c) w'∧Ext w w'∧Sl w' .u8 (.slice (some ⟨w.heap.size,0,none⟩) k.size c) (gR k)∧w.heap.size < w'.heap.size:=by
 have hrun:=run_bytes_of_string (P:=Tryz.prog) w 9 23 5 k Tryz.underlying9 Tryz.underlying23 Tryz.underlying5
 refine⟨_,_,hrun,(Ext.drew' (Ext.rfl' w)).alloc' _,?_,by simp⟩
 have hl:(gR k).length=k.size:=by unfold gR;rw[List.length_map,Array.length_toList];rfl
 have hge:=grownCap_ge w k.size 0 5
 have hm:=grownCap_le_maxLen w k.size 0 5 (by simp only[maxLen];omega)
 refine⟨some ⟨w.heap.size,0,none⟩,_,by rw[hl],by rw[hl];exact hge,hm,fun e=>by simp at e,?_⟩
 intro i x hx j u hu
 cases j with
 | succ j=>simp at hu
 | zero =>
  simp at hu
  subst hu
  have hg:(w.drew.alloc (.cells (bytesRow k (grownCap w k.size 0 5)) 5 ((bytesRow k (grownCap w k.size 0 5)).size,(bytesRow k (grownCap w k.size 0 5)).size+1))).heap[w.heap.size]?=some (.cells (bytesRow k (grownCap w k.size 0 5)) 5 ((bytesRow k (grownCap w k.size 0 5)).size,(bytesRow k (grownCap w k.size 0 5)).size+1)):=zD _ _ rfl
  have hc:=cO (i:=i) hg
  simp only[elt,Nat.mul_one,Nat.add_zero,Addr.add_lit,Nat.zero_add]
  rw[hc]
  have hi:i < k.size:=by rw[← hl];exact(List.getElem?_eq_some_iff.1 hx).1
  simp only[gR,List.getElem?_map]at hx
  obtain⟨b,hb,rfl⟩:=Option.map_eq_some_iff.1 hx
  unfold bytesRow
  have hi':i < k.data.size:=hi
  rw[Array.getElem?_append_left (by rw[Array.size_map];exact hi'),Array.getElem?_map]
  rw[Array.getElem?_toList]at hb
  rw[hb]
  rfl
end Go.Proofs.YtppefchjoodgnaaGreat
namespace Go.Proofs.YtppefchjoodgnaaGreat
open Go.RowKit
structure IT  where
 ka:Option Addr
 kc:Nat
 va:Option Addr
 vc:Nat
 key:List Int
 val:List Int
def IT.kv (x:IT):Value:=.slice x.ka x.key.length x.kc
def IT.vv (x:IT):Value:=.slice x.va x.val.length x.vc
def IT.enc (x:IT):List Value:=[x.kv,x.vv]
theorem vQ:Enc 2 IT.enc:=⟨fun _=>rfl,fun x u hu=>by
 simp only[IT.enc,List.mem_cons,List.not_mem_nil,or_false]at hu
 rcases hu with rfl|rfl<;>rfl⟩
theorem el_item:El Tryz.prog 34 36 2 48 (.agg #[.slice none 0 0,.slice none 0 0]):=⟨Tryz.underlying34,by kernel_rfl,rfl,by decide,fun _=>by kernel_rfl⟩
def gM (V:Areas×List TM)(i:Int):List (ByteArray×List Int) :=
 match pick V.2 i with
 | none=>[]
 | some t=>(vW (t.slots.map (·.1))).map fun k=>(k,(vC V.1 (zS i (((t.slots.lookup k).getD 0:Nat):Int))).1)
def IsItems (w:World)(v:Value)(l:List (ByteArray×List Int)):Prop :=
 ∃ I:List IT,Rd w 2 IT.enc v I∧(∀ x∈I,Sl w .u8 x.kv x.key∧Sl w .u8 x.vv x.val)∧I.map (fun x=>(strOfNums x.key,x.val))=l
def lenV:Value→Nat
 | .slice _ n _=>n
 | _=>0
theorem tJ {a b:List ByteArray}(h:a.Perm b):vW a=vW b:=by
 unfold vW
 rw[mergeSort_of_perm (h.map fun k=>k.data.toList)]
section
variable {α:Type}
theorem lookup_snoc {κ:Type}[BEq κ](M:List (κ×α))(a:κ)(x:α)(b:κ):(M++[(a,x)]).lookup b=(M.lookup b).or (if b == a then some x else none):=by
 induction M with
 | nil=>simp only[List.nil_append,List.lookup];cases (b == a)<;>rfl
 | cons p M ih =>
  obtain⟨m,y⟩:=p
  simp only[List.cons_append,List.lookup]
  cases (b == m)
  ·exact ih
  ·rfl
end
theorem pX {α:Type}{L:List (ByteArray×α)}{s:ByteArray}(h:L.lookup s=none):∀ q∈L,q.1≠s:=by
 intro q hq e
 induction L with
 | nil=>cases hq
 | cons p L ih =>
  obtain⟨m,u⟩:=p
  by_cases hm:s=m
  ·subst hm;simp[List.lookup]at h
  ·simp only[List.lookup,qF hm]at h
   rcases List.mem_cons.1 hq with rfl|hq
   ·exact hm e.symm
   ·exact ih h hq
def tD (vs:List Int):Ar:=⟨vs,List.replicate vs.length true,false⟩
structure MapWf (t:TM):Prop where
 made:t.made≤1024
 slots:∀ p∈t.slots,p.2 < t.made
 keys:(t.slots.map (·.1)).Nodup
 nums:(t.slots.map (·.2)).Nodup
 val:8≤t.val∧t.val≤64
 max:1≤t.max∧t.max≤16
 key:1≤t.key∧t.key≤16
 few:(t.slots.length:Int)≤t.max
 size:∀ p∈t.slots,(p.1.size:Int)=t.key
structure Wf (V:Areas×List TM):Prop where
 few:V.2.length≤8
 maps:∀ t∈V.2,MapWf t
 areas:∀ (i s:Nat) t,V.2[i]?=some t→s < t.made→∃ A,V.1.lookup (zS i s)=some A∧(A.bytes.length:Int)=t.val∧(A.put.length:Int)=t.val∧A.fixed=false
 free:∀ (i s:Nat),i < 8→s < 1024→(∀ t,V.2[i]?=some t→t.made≤s)→V.1.lookup (zS i s)=none
theorem uU {i j:Nat}{s r:Nat}(hs:s < 1024)(hr:r < 1024)(h:zS i s=zS j r):i=j∧s=r:=by
 simp only[zS]at h
 omega
theorem tU (ks:List Int):(strOfNums ks).size=ks.length:=by
 simp[strOfNums,ByteArray.size]
theorem vS {α:Type}(L:List α)(i:Nat):pick L (i:Int)=L[i]?:=by
 simp only[pick]
 rw[if_neg (by omega),Int.toNat_natCast]
theorem pick_some {α:Type}{L:List α}{i:Int}{x:α}(h:pick L i=some x):∃ j:Nat,i=j∧L[j]?=some x:=by
 unfold pick at h
 split at h
 ·cases h
 ·exact⟨i.toNat,by omega,h⟩
theorem tslot_spec {V:Areas×List TM}(h:Wf V){i:Nat}{t:TM}(hp:V.2[i]?=some t){s:ByteArray}{vs:List Int}(hl:t.slots.lookup s=none)(hv:(vs.length:Int)=t.val)(hm:t.made < 1024)(hz:(s.size:Int)=t.key)(hf:(t.slots.length:Int) < t.max):
  ∃ M',kV V i s vs=some (M',V.2.set i (yF t s))∧Wf (M',V.2.set i (yF t s))∧∀ n,M'.lookup n=if n=zS i t.made then some (tD vs) else V.1.lookup n:=by
 have hi:i < V.2.length:=(List.getElem?_eq_some_iff.1 hp).1
 have h8:=h.few
 have ht:=h.maps t (List.mem_of_getElem? hp)
 have hval:=ht.val
 have hfree:=h.free i t.made (by omega) hm (fun t' ht'=>by rw[hp]at ht';injection ht' with e;subst e;exact Nat.le_refl _)
 have hmk:yG V.1 (zS i t.made) vs false false=(V.1++[(zS i t.made,tD vs)],0):=by
  have:¬ ((V.1.lookup (zS i t.made)).isSome=true∨zS i t.made < 1∨2147483647 < zS i t.made):=by
   rw[hfree];simp only[zS];simp;omega
  rw[yG,if_neg this,if_neg (by omega)]
  congr 3
  simp only[tD,Bool.not_false,List.map_const']
 have hlook:∀ n,(V.1++[(zS i t.made,tD vs)]).lookup n=if n=zS i t.made then some (tD vs) else V.1.lookup n:=by
  intro n
  rw[lookup_snoc]
  by_cases hn:n=zS i t.made
  ·rw[hn,hfree];simp
  ·rw[if_neg hn]
   have:(n == zS i t.made)=false:=by simpa using hn
   rw[this];simp
 refine⟨V.1++[(zS i t.made,tD vs)],?_,?_,hlook⟩
 ·simp only[kV,vS,hp]
  rw[if_neg (by omega),hmk]
  simp
 ·refine⟨by simp;exact h8,?_,?_,?_⟩
  ·intro t' ht'
   rcases List.mem_or_eq_of_mem_set ht' with h1|rfl
   ·exact h.maps t' h1
   ·have hnk:s ∉ t.slots.map (·.1):=by
     intro hs
     obtain⟨p,hp1,hp2⟩:=List.mem_map.1 hs
     exact pX hl p hp1 hp2
    refine⟨?_,?_,?_,?_,hval,ht.max,ht.key,?_,?_⟩
    ·simp only[yF];omega
    ·intro p hp1
     simp only[yF,List.mem_append,List.mem_singleton]at hp1 ⊢
     rcases hp1 with hp1|rfl
     ·have:=ht.slots p hp1;omega
     ·simp
    ·simp only[yF,List.map_append,List.map_cons,List.map_nil]
     rw[List.nodup_append]
     exact⟨ht.keys,by simp,fun a ha b hb e=>by simp at hb;subst hb;subst e;exact hnk ha⟩
    ·simp only[yF,List.map_append,List.map_cons,List.map_nil]
     rw[List.nodup_append]
     refine⟨ht.nums,by simp,fun a ha b hb e=>?_⟩
     simp at hb;subst hb;subst e
     obtain⟨p,hp1,hp2⟩:=List.mem_map.1 ha
     have:=ht.slots p hp1
     omega
    ·simp only[yF,List.length_append,List.length_singleton];omega
    ·intro p hp1
     simp only[yF,List.mem_append,List.mem_singleton]at hp1 ⊢
     rcases hp1 with hp1|rfl
     ·exact ht.size p hp1
     ·exact hz
  ·intro j r t' ht' hr
   simp only at ht' ⊢
   rw[hlook]
   by_cases hj:j=i
   ·subst hj
    rw[List.getElem?_set_self hi]at ht'
    injection ht' with ht'
    subst ht'
    simp only[yF]at hr ⊢
    by_cases he:r=t.made
    ·subst he
     rw[if_pos rfl]
     exact⟨_,rfl,hv,by simp only[tD,List.length_replicate];exact hv,rfl⟩
    ·rw[if_neg (fun e=>he (uU (by omega) (by omega) e).2)]
     exact h.areas j r t hp (by omega)
   ·rw[List.getElem?_set_ne (by omega)]at ht'
    have hmd:=(h.maps t' (List.mem_of_getElem? ht')).made
    rw[if_neg (fun e=>hj (uU (by omega) (by omega) e).1)]
    exact h.areas j r t' ht' hr
  ·intro j r hj8 hr hfr
   simp only at hfr ⊢
   rw[hlook]
   by_cases hj:j=i
   ·subst hj
    have h1:=hfr _ (List.getElem?_set_self hi)
    simp only[yF]at h1
    rw[if_neg (fun e=>by have:=(uU (by omega) (by omega) e).2;omega)]
    exact h.free j r hj8 hr (fun t' ht'=>by rw[hp]at ht';injection ht' with e;subst e;omega)
   ·rw[if_neg (fun e=>hj (uU (by omega) (by omega) e).1)]
    exact h.free j r hj8 hr (fun t' ht'=>hfr t' (by rw[List.getElem?_set_ne (by omega)];exact ht'))
theorem tS {α:Type}{L:List (ByteArray×α)}(hn:(L.map (·.1)).Nodup){k:ByteArray}{x:α}(h:(k,x)∈L):L.lookup k=some x:=by
 induction L with
 | nil=>cases h
 | cons p L ih =>
  obtain⟨m,y⟩:=p
  rw[List.map_cons,List.nodup_cons]at hn
  rcases List.mem_cons.1 h with e|h
  ·injection e with e1 e2;subst e1;subst e2;simp[List.lookup]
  ·have hne:k≠m:=fun e=>hn.1 (e ▸ List.mem_map.2 ⟨_,h,rfl⟩)
   simp only[List.lookup,qF hne]
   exact ih hn.2 h
def nums (k:Nat):List (ByteArray×Nat):=(List.range k).map fun (j:Nat)=>(yM (j:Int),j)
theorem nums_succ (k:Nat):nums (k+1)=nums k++[(yM (k:Int),k)]:=by simp[nums,List.range_succ]
theorem nums_len (k:Nat):(nums k).length=k:=by simp[nums]
theorem nums_mem {k:Nat}{p:ByteArray×Nat}(h:p∈nums k):p.2 < k∧p.1=yM (p.2:Int):=by
 obtain⟨j,hj,rfl⟩:=List.mem_map.1 h
 exact⟨List.mem_range.1 hj,rfl⟩
theorem numKey_size (n:Int):(yM n).size=4:=tU _
theorem nums_none {k:Nat}(h:k < 256):(nums k).lookup (yM (k:Int))=none:=by
 cases hl:(nums k).lookup (yM (k:Int)) with
 | none=>rfl
 | some s =>
  have h1:=nums_mem (yZ hl)
  simp only at h1
  have:=nk_inj (by omega) (by omega) h1.2
  omega
def kL (d:TDef):TM:=if d.hash then d.tm else {d.tm with slots:=nums d.max.toNat,made:=d.max.toNat}
theorem tfill_spec {V:Areas×List TM}(h:Wf V){i:Nat}{t:TM}(hp:V.2[i]?=some t)(hk:t.key=4)(h0:t.slots=[])(h1:t.made=0){n:Nat}(hn:(n:Int)=t.val)(k:Nat)(hkm:(k:Int)≤t.max):
  ∃ M',vM V i n k=some (M',V.2.set i {t with slots:=nums k,made:=k})∧Wf (M',V.2.set i {t with slots:=nums k,made:=k}) ∧
   ∀ m,M'.lookup m=if ∃ s,s < k∧m=zS i (s:Nat) then some (tD (List.replicate n 0)) else V.1.lookup m:=by
 have hi:i < V.2.length:=(List.getElem?_eq_some_iff.1 hp).1
 have hm16:=(h.maps t (List.mem_of_getElem? hp)).max
 induction k with
 | zero =>
  have e:V.2.set i {t with slots:=nums 0,made:=0}=V.2:=by
   apply List.ext_getElem?
   intro j
   rw[List.getElem?_set]
   by_cases hj:i=j
   ·subst hj
    rw[if_pos rfl,if_pos hi,hp]
    obtain⟨a,b,c,d,e,f⟩:=t
    simp only at h0 h1
    subst h0;subst h1
    rfl
   ·rw[if_neg hj]
  refine⟨V.1,by rw[vM,e],by rw[e];exact h,fun m=>?_⟩
  rw[if_neg (fun ⟨s,hs,_⟩=>by omega)]
 | succ k ih =>
  obtain⟨M1,e1,w1,l1⟩:=ih (by omega)
  obtain⟨M2,e2,w2,l2⟩:=tslot_spec w1 (i:=i) (t:={t with slots:=nums k,made:=k}) (List.getElem?_set_self hi) (s:=yM (k:Int)) (vs:=List.replicate n 0) (nums_none (by omega)) (by simpa using hn) (by simp only;omega) (by simp only[numKey_size];omega) (by simp only[nums_len];omega)
  have e3:(V.2.set i {t with slots:=nums k,made:=k}).set i (yF {t with slots:=nums k,made:=k} (yM (k:Int)))=V.2.set i {t with slots:=nums (k+1),made:=k+1}:=by
   rw[List.set_set]
   congr 1
   simp only[yF,nums_succ]
  simp only at e2 w2 l2
  rw[e3]at e2 w2
  refine⟨M2,by rw[vM,e1,Option.bind_some,e2],w2,fun m=>?_⟩
  rw[l2,l1]
  by_cases hm:m=zS i k
  ·rw[if_pos hm,if_pos ⟨k,by omega,hm⟩]
  ·rw[if_neg hm]
   by_cases he:∃ s,s < k∧m=zS i (s:Nat)
   ·rw[if_pos he,if_pos (he.imp fun s hs=>⟨by omega,hs.2⟩)]
   ·rw[if_neg he,if_neg]
    rintro ⟨s,hs,e⟩
    by_cases hsk:s=k
    ·subst hsk;exact hm e
    ·exact he ⟨s,by omega,e⟩
theorem push_wf {V:Areas×List TM}(h:Wf V){d:TDef}(hd:mayD d=true)(h8:V.2.length < 8):Wf (V.1,V.2++[d.tm]):=by
 have hm:MapWf d.tm:=by
  simp only[mayD,Bool.and_eq_true,decide_eq_true_eq]at hd
  obtain⟨⟨⟨⟨⟨hk,h1⟩,h2⟩,h3⟩,h4⟩,h5⟩:=hd
  refine⟨by simp[TDef.tm],by simp[TDef.tm],by simp[TDef.tm],by simp[TDef.tm],⟨h1,h2⟩,⟨h4,h5⟩,?_,?_,by simp[TDef.tm]⟩
  ·simp only[TDef.tm]
   cases hh:d.hash
   ·rw[hh]at hk;simp at hk;omega
   ·rw[hh]at hk;simp at hk;exact hk
  ·simp only[TDef.tm,List.length_nil];omega
 refine⟨by simp;omega,?_,?_,?_⟩
 ·intro t ht
  rcases List.mem_append.1 ht with ht|ht
  ·exact h.maps t ht
  ·rw[List.mem_singleton]at ht;subst ht;exact hm
 ·intro i s t ht hs
  simp only at ht ⊢
  by_cases hi:i < V.2.length
  ·rw[List.getElem?_append_left hi]at ht
   exact h.areas i s t ht hs
  ·rw[List.getElem?_append_right (by omega)]at ht
   have:i - V.2.length=0:=by
    by_cases e:i - V.2.length=0
    ·exact e
    ·rw[List.getElem?_eq_none (by simp;omega)]at ht;cases ht
   rw[this]at ht
   injection ht with ht
   subst ht
   simp only[TDef.tm]at hs
   omega
 ·intro i s hi hs hf
  simp only at hf ⊢
  refine h.free i s hi hs fun t ht=>hf t ?_
  rw[List.getElem?_append_left (List.getElem?_eq_some_iff.1 ht).1]
  exact ht
theorem wf_nil:Wf ([],[]):=⟨by simp,by simp,fun i s t ht=>by simp at ht,fun _ _ _ _ _=>rfl⟩
theorem tnews_spec {ds:List TDef}(hd:∀ d∈ds,mayD d=true)(h8:ds.length≤8)(k:Nat)(hk:k≤ds.length):
  ∃ M,uF [] ds k=some (M,(ds.take k).map kL)∧Wf (M,(ds.take k).map kL)∧∀ (i s:Nat) d,i < k→ds[i]?=some d→d.hash=false→s < d.max.toNat→M.lookup (zS i s)=some (tD (List.replicate d.val.toNat 0)):=by
 induction k with
 | zero=>exact⟨[],by simp[uF],wf_nil,fun i s d hi=>by omega⟩
 | succ k ih =>
  obtain⟨M,e1,w1,l1⟩:=ih (by omega)
  obtain⟨d,hdk⟩:=zK (xs:=ds) (k:=k) (by omega)
  have hmay:=hd d (List.mem_of_getElem? hdk)
  have htk:(ds.take (k+1)).map kL=(ds.take k).map kL++[kL d]:=by
   rw[List.take_add_one,hdk];simp
  have hlen:((ds.take k).map kL).length=k:=by simp;omega
  have hw:=push_wf w1 hmay (by simp only[hlen];omega)
  simp only at hw
  rw[uF,e1,Option.bind_some,hdk,Option.bind_some,tnew1,htk]
  cases hh:d.hash with
  | true =>
   have ef:kL d=d.tm:=by rw[kL,hh];rfl
   rw[ef]
   refine⟨M,by simp,hw,fun i s d' hi hd' hf hs=>?_⟩
   by_cases hik:i=k
   ·subst hik;rw[hdk]at hd';injection hd' with e;subst e;rw[hh]at hf;cases hf
   ·exact l1 i s d' (by omega) hd' hf hs
  | false =>
   simp only[Bool.false_eq_true,if_false]
   have hmd:=hmay
   simp only[mayD,hh,Bool.and_eq_true,decide_eq_true_eq,Bool.false_eq_true,if_false,beq_iff_eq]at hmd
   obtain⟨⟨⟨⟨⟨hk4,hv1⟩,hv2⟩,hv3⟩,hm1⟩,hm2⟩:=hmd
   obtain⟨M2,e2,w2,l2⟩:=tfill_spec hw (i:=k) (t:=d.tm) (by simp only;rw[List.getElem?_append_right (by omega),hlen,Nat.sub_self];rfl) hk4 rfl rfl (n:=d.val.toNat) (by simp only[TDef.tm];omega) d.max.toNat (by simp only[TDef.tm];omega)
   have es:((ds.take k).map kL++[d.tm]).set k {d.tm with slots:=nums d.max.toNat,made:=d.max.toNat}=(ds.take k).map kL++[kL d]:=by
    rw[List.set_append_right _ _ (by omega)]
    simp only[hlen,Nat.sub_self,List.set_cons_zero]
    simp[kL,hh]
   simp only at e2 w2 l2
   rw[es]at e2 w2
   refine⟨M2,by simp only[hlen];exact e2,w2,fun i s d' hi hd' hf hs=>?_⟩
   rw[l2]
   by_cases hik:i=k
   ·subst hik;rw[hdk]at hd';injection hd' with e;subst e
    rw[if_pos ⟨s,hs,rfl⟩]
   ·rw[if_neg]
    ·exact l1 i s d' (by omega) hd' hf hs
    ·rintro ⟨r,hr,e⟩
     have hs16:d'.max≤16:=by
      have:=hd d' (List.mem_of_getElem? hd')
      simp only[mayD,Bool.and_eq_true,decide_eq_true_eq]at this
      exact this.2
     exact hik (uU (by omega) (by omega) e).1
theorem tnew_spec {ds:List TDef}(hr:xC ds=true):
  ∃ M,tnew [] ds=some (M,ds.map kL)∧Wf (M,ds.map kL)∧∀ (i s:Nat) d,ds[i]?=some d→d.hash=false→s < d.max.toNat→M.lookup (zS i s)=some (tD (List.replicate d.val.toNat 0)):=by
 have h:=hr
 simp only[xC,Bool.and_eq_true,decide_eq_true_eq,List.all_eq_true]at h
 obtain⟨M,e,w,l⟩:=tnews_spec h.2 h.1 ds.length (Nat.le_refl _)
 rw[List.take_length]at e w
 exact⟨M,by rw[tnew,if_pos hr,e],w,fun i s d hd=>l i s d (List.getElem?_eq_some_iff.1 hd).1 hd⟩
end Go.Proofs.YtppefchjoodgnaaGreat
