import Derived.Test.YtppefchjoodgnaaGreatPQ28
import Derived.Test.YtppefchjoodgnaaGreatPQ29
set_option linter.unusedSimpArgs false
set_option linter.unusedVariables false
namespace Go.Proofs.YtppefchjoodgnaaGreat
open Go.RowKit
theorem what_ref (x:Ins)(h:x.Ok):xH x=if 10 < x.dst∨10 < x.src then none else if spec8.contains x.op=true then gP x
  else if x.op%8=4∨x.op%8=7 then xD x (x.op / 16 * 16) (x.op%8 == 7) (x.op / 8%2 == 1)
  else if x.op%8=5∨x.op%8=6 then (if (g11 (x.op / 16 * 16) && xJ x (x.op / 8%2 == 1) true (!(x.op / 8%2 == 1)))=true then some ⟨10,x.op / 16 * 16,x.op%8 == 5,x.op / 8%2 == 1,false,0⟩ else none)
  else memR x:=by
 unfold xH
 by_cases h0:10 < x.dst∨10 < x.src
 ·rw[if_pos h0,if_pos h0]
 ·rw[if_neg h0,if_neg h0]
  by_cases hs:spec8.contains x.op=true
  ·rw[if_pos hs]
   have:x.op=212∨x.op=220∨x.op=215∨x.op=24∨x.op=5∨x.op=6∨x.op=133∨x.op=149:=by simpa[spec8]using hs
   unfold gP
   rcases this with e|e|e|e|e|e|e|e<;>simp[e]
  ·rw[if_neg hs]
   have:¬ (x.op=212∨x.op=220∨x.op=215∨x.op=24∨x.op=5∨x.op=6∨x.op=133∨x.op=149):=by simpa[spec8]using hs
   rw[if_neg (by omega),if_neg (by omega)]
   by_cases h4:x.op%8=4∨x.op%8=7
   ·rw[if_pos h4,if_pos h4]
   ·rw[if_neg h4,if_neg h4]
    by_cases h5:x.op%8=5∨x.op%8=6
    ·rw[if_pos h5,if_pos h5]
     unfold kJ
     rw[if_neg (by omega),if_neg (by omega),if_neg (by omega),if_neg (by omega),only_eq]
     cases g11 (x.op / 16 * 16)<;>simp
    ·rw[if_neg h5,if_neg h5,mem_moves x h (by omega)]
theorem r_inX (v:Value)(xs:List Int)(y:Int)(z:Bool)(w:World)(h:Rd w 1 encU v xs)(hz:xs.contains y=z):
  Calls Tryz.prog 77 #[v,.int .u8 y] w fun e w'=>e=.returned (.bool z)∧Ext w w' :=
 (r_in v xs y w h).mono fun e w' ⟨he,hw⟩=>⟨by rw[he,hz],by rw[hw];exact Ext.rfl' _⟩
theorem g11_contains (h:Int):g11 h=[(16:Int),32,48,64,80,96,112,160,176,192,208].contains h:=by
 unfold g11
 simp only[List.contains_cons,List.contains_nil,Bool.or_false]
set_option maxRecDepth 20000 in
set_option maxHeartbeats 4000000 in
theorem r_what (x:Ins)(w:World)(hx:x.Ok):Calls Tryz.prog 43 #[x.agg] w (WhA (xH x) w):=by
 have HXX:=η hx
 have b0:=hx.op.1
 have b1:=hx.op.2
 rw[what_ref x hx]
 obtain⟨h,hh⟩:∃ h,x.op / 16 * 16=h:=⟨_,rfl⟩
 obtain⟨rg,hrg⟩:∃ rg,(x.op / 8%2 == 1)=rg:=⟨_,rfl⟩
 obtain⟨c,hc⟩:∃ c,x.op%8=c:=⟨_,rfl⟩
 obtain⟨zd,hzd⟩:∃ z,decide (x.dst > 10)=z:=⟨_,rfl⟩
 obtain⟨zs,hzs⟩:∃ z,decide (x.src > 10)=z:=⟨_,rfl⟩
 obtain⟨sp,hsp⟩:∃ z,spec8.contains x.op=z:=⟨_,rfl⟩
 obtain⟨c4,hc4⟩:∃ z,(c == 4)=z:=⟨_,rfl⟩
 obtain⟨c7,hc7⟩:∃ z,(c == 7)=z:=⟨_,rfl⟩
 obtain⟨c5,hc5⟩:∃ z,(c == 5)=z:=⟨_,rfl⟩
 obtain⟨c6,hc6⟩:∃ z,(c == 6)=z:=⟨_,rfl⟩
 obtain⟨kn,hkn⟩:∃ z,g11 h=z:=⟨_,rfl⟩
 obtain⟨on1,hon1⟩:∃ z,xJ x rg true (!rg)=z:=⟨_,rfl⟩
 obtain⟨o2,ho2⟩:∃ o,gP x=o:=⟨_,rfl⟩
 obtain⟨o5,ho5⟩:∃ o,memR x=o:=⟨_,rfl⟩
 have HA:Hid (∀ W,Calls Tryz.prog 79 #[x.agg] W (WhA (xD x (x.op / 16 * 16) (x.op%8 == 7) (x.op / 8%2 == 1)) W)):=η (fun W=>r_arith x W hx)
 obtain⟨o3,ho3⟩:∃ o,xD x (x.op / 16 * 16) (x.op%8 == 7) (x.op / 8%2 == 1)=o:=⟨_,rfl⟩
 rw[ho3]at HA
 have HO:Hid (∀ W,Calls Tryz.prog 78 #[x.agg] W (WhA (gP x) W)):=η (fun W=>r_other x W hx)
 rw[ho2]at HO
 have HM:Hid (∀ W,Calls Tryz.prog 81 #[x.agg] W (WhA (memR x) W)):=η (fun W=>r_memory x W hx)
 rw[ho5]at HM
 rw[ho2,ho3,ho5,hsp,hc,hh,hrg,hkn,hon1,hc5]
 have e1:(10 < x.dst)=(zd=true):=by rw[← hzd];simp
 have e2:(10 < x.src)=(zs=true):=by rw[← hzs];simp
 have e3:(c=4)=(c4=true):=by rw[← hc4];simp
 have e4:(c=7)=(c7=true):=by rw[← hc7];simp
 have e5:(c=5)=(c5=true):=by rw[← hc5];simp
 have e6:(c=6)=(c6=true):=by rw[← hc6];simp
 simp only[e1,e2,e3,e4,e5,e6]
 obtain⟨R,hR⟩:∃ R,R=(if zd=true∨zs=true then none else if sp=true then o2 else if c4=true∨c7=true then o3 else if c5=true∨c6=true then (if (kn && on1)=true then some (⟨10,h,c5,rg,false,0⟩:Wh) else none) else o5):=⟨_,rfl⟩
 rw[← hR]
 have HR:=η hR
 have HSP:=η hsp
 have HKN:Hid ([(16:Int),32,48,64,80,96,112,160,176,192,208].contains h=kn):=η (by rw[← g11_contains];exact hkn)
 clear hR hsp hkn e1 e2 e3 e4 e5 e6 ho2 ho3 ho5 hx
 go_enter Tryz.func43,Tryz.ntmps43
 go_upto_region 1 with fail
 go_cut [13] from 6 to 13 (fun v wx=>v=.bool (zd || zs)∧Hid (Ext w wx∧wx.heap[w.heap.size]?=some (zQ x)∧wx.heap[w.heap.size+1]?=some (zF Wh.zero)))
 case first =>
  cases zd
  all_goals
   go_wp2_with fail
   go_meet
   refine⟨by simp,η ⟨by (repeat (first|exact xE0 _|assumption|refine xE1 ?_ _|refine xE2 ?_|refine xE3 ?_ _|refine xE4 ?_ (by assumption))),?_,?_⟩⟩
   ·(repeat (first|(refine zD _ _ ?_;simp;done)|refine zB _ ?_))
   ·(repeat (first|(refine zD _ _ ?_;simp;done)|refine zB _ ?_))
 case rest =>
  obtain⟨rfl,HW⟩:=hcut
  have HO1:=η HW.out.2.1
  have HO2:=η HW.out.2.2
  have HE:=η HW.out.1
  clear HW
  have HZ:Hid ((zd=true∨zs=true) ↔ ((zd || zs)=true)):=η (by simp)
  generalize (zd || zs)=zz at *
  clear hzd hzs
  cases zz with
  | true =>
   have HRS:Hid (R=none):=η (by rw[HR.out,if_pos (HZ.out.2 rfl)])
   have HSF:=η (set6 HO2.out HE.out (Nat.le_succ _) 0 0 false false false 0)
   (have o2:=HO2.out;obtain⟨b0,b1,b2,b3,b4,b5⟩:=κ6 o2;have bf:=fun i=>zA (i:=i) o2;clear o2)
   go_wp2_with fail
   (have hsf:=HSF.out;generalize hF:(World.setCell (World.setCell (World.setCell (World.setCell (World.setCell (World.setCell wc ⟨w.heap.size+1,0,none⟩ (.int .u8 0)) ⟨w.heap.size+1,1,none⟩ (.int .u8 0)) ⟨w.heap.size+1,2,none⟩ (.bool false)) ⟨w.heap.size+1,3,none⟩ (.bool false)) ⟨w.heap.size+1,4,none⟩ (.bool false)) ⟨w.heap.size+1,5,none⟩ (.int .i64 0))=wF at hsf ⊢;obtain⟨hs,he⟩:=hsf;clear hF;(try simp only[Exit.then]);(repeat (first|go_skip|go_step));obtain⟨r0,r1,r2,r3,r4,r5⟩:=κ6 hs;refine bodyPost_ret (by simp[results,Tryz.results43,go_sem,r0,r1,r2,r3,r4,r5];try rfl) rfl ?_)
   exact⟨Wh.zero,false,rfl,HRS.out,by (repeat (first|exact xE0 _|assumption|refine xE1 ?_ _|refine xE2 ?_|refine xE3 ?_ _|refine xE4 ?_ (by assumption)))⟩
  | false =>
   have HR1:Hid (R=if sp=true then o2 else if c4=true∨c7=true then o3 else if c5=true∨c6=true then (if (kn && on1)=true then some (⟨10,h,c5,rg,false,0⟩:Wh) else none) else o5):=η (by rw[HR.out,if_neg (fun h=>by have:=HZ.out.1 h;cases this)])
   clear HR HZ
   (have o1:=HO1.out;obtain⟨a0,a1,a2,a3,a4⟩:=κ5 o1;clear o1)
   have hlt:=zE HO1.out
   go_wp2_with fail
   refine(r_inL [212,220,215,24,5,6,133,149] x.op wc _ _ _ rfl rfl rfl (by decide) sp HSP.out).mono ?_
   rintro e w5 ⟨rfl,rfl⟩
   have HE':Hid (Ext wc (wc.alloc (.cells #[.int .u8 212,.int .u8 220,.int .u8 215,.int .u8 24,.int .u8 5,.int .u8 6,.int .u8 133,.int .u8 149] 5))):=η (by (repeat (first|exact xE0 _|assumption|refine xE1 ?_ _|refine xE2 ?_|refine xE3 ?_ _|refine xE4 ?_ (by assumption))))
   clear a0 a1 a2 a3 a4 hlt
   go_upto_if 18 with fail
   generalize hF:wc.alloc (.cells #[.int .u8 212,.int .u8 220,.int .u8 215,.int .u8 24,.int .u8 5,.int .u8 6,.int .u8 133,.int .u8 149] 5)=wa at HE' ⊢
   clear hF
   replace HO1:=η (HE'.out.obj HO1.out)
   replace HO2:=η (HE'.out.obj HO2.out)
   replace HE:=η (HE.out.trans' HE'.out)
   clear HE'
   cases sp with
   | true =>
    have HRS:Hid (R=o2):=η (by rw[HR1.out,if_pos rfl])
    (have o1:=HO1.out;obtain⟨a0,a1,a2,a3,a4⟩:=κ5 o1;clear o1)
    (have o2:=HO2.out;obtain⟨b0,b1,b2,b3,b4,b5⟩:=κ6 o2;have bf:=fun i=>zA (i:=i) o2;clear o2)
    go_wp2_with fail
    refine(HO.out _).mono ?_
    rintro e w5 ⟨y,bb,rfl,hy,hE⟩
    have HY:=η hy
    have HE5:=η (HE.out.trans' hE)
    have O5:=η (hE.obj HO2.out)
    have HSF:=η (set6 O5.out HE5.out (Nat.le_succ _) y.kind y.op y.wide y.reg y.signed y.size)
    clear a0 a1 a2 a3 a4 b0 b1 b2 b3 b4 b5 bf hy hE
    have b0:=cO (i:=0) O5.out
    have b1:=cO (i:=1) O5.out
    have b2:=cO (i:=2) O5.out
    have b3:=cO (i:=3) O5.out
    have b4:=cO (i:=4) O5.out
    have b5:=cO (i:=5) O5.out
    have bf:=fun i=>zA (i:=i) O5.out
    simp only[gA,gB,gC]at b0 b1 b2 b3 b4 b5
    go_wp2_with fail
    (have hsf:=HSF.out;generalize hF:(World.setCell (World.setCell (World.setCell (World.setCell (World.setCell (World.setCell w5 ⟨w.heap.size+1,0,none⟩ (.int .u8 y.kind)) ⟨w.heap.size+1,1,none⟩ (.int .u8 y.op)) ⟨w.heap.size+1,2,none⟩ (.bool y.wide)) ⟨w.heap.size+1,3,none⟩ (.bool y.reg)) ⟨w.heap.size+1,4,none⟩ (.bool y.signed)) ⟨w.heap.size+1,5,none⟩ (.int .i64 y.size))=wF at hsf ⊢;obtain⟨hs,he⟩:=hsf;clear hF;(try simp only[Exit.then]);(repeat (first|go_skip|go_step));obtain⟨r0,r1,r2,r3,r4,r5⟩:=κ6 hs;refine bodyPost_ret (by simp[results,Tryz.results43,go_sem,r0,r1,r2,r3,r4,r5];try rfl) rfl ?_)
    exact⟨y,bb,rfl,by rw[HRS.out,← HY.out],by (repeat (first|exact xE0 _|assumption|refine xE1 ?_ _|refine xE2 ?_|refine xE3 ?_ _|refine xE4 ?_ (by assumption)))⟩
   | false =>
    (have o1:=HO1.out;obtain⟨a0,a1,a2,a3,a4⟩:=κ5 o1;clear o1)
    have HR2:Hid (R=if c4=true∨c7=true then o3 else if c5=true∨c6=true then (if (kn && on1)=true then some (⟨10,h,c5,rg,false,0⟩:Wh) else none) else o5):=η (by rw[HR1.out,if_neg (by decide)])
    clear HR1
    go_upto_if 27 with fail
    rw[hc]
    go_cut [27] from 27 to 29 (fun v wx=>v=.bool (c4 || c7)∧wx=wa)
    case first =>
     cases c4
     all_goals
      go_wp2_with fail
      go_meet
      exact⟨rfl,rfl⟩
    case rest =>
     obtain⟨rfl,hwc⟩:=hcut
     obtain rfl:=hwc.symm
     clear a0 a1 a2 a3 a4
     have HZ:Hid ((c4=true∨c7=true) ↔ ((c4 || c7)=true)):=η (by simp)
     generalize (c4 || c7)=ca at *
     cases ca with
     | true =>
      have HRS:Hid (R=o3):=η (by rw[HR2.out,if_pos (HZ.out.2 rfl)])
      (have o1:=HO1.out;obtain⟨a0,a1,a2,a3,a4⟩:=κ5 o1;clear o1)
      (have o2:=HO2.out;obtain⟨b0,b1,b2,b3,b4,b5⟩:=κ6 o2;have bf:=fun i=>zA (i:=i) o2;clear o2)
      go_wp2_with fail
      refine(HA.out _).mono ?_
      rintro e w5 ⟨y,bb,rfl,hy,hE⟩
      have HY:=η hy
      have HE5:=η (HE.out.trans' hE)
      have O5:=η (hE.obj HO2.out)
      have HSF:=η (set6 O5.out HE5.out (Nat.le_succ _) y.kind y.op y.wide y.reg y.signed y.size)
      clear a0 a1 a2 a3 a4 b0 b1 b2 b3 b4 b5 bf hy hE
      have b0:=cO (i:=0) O5.out
      have b1:=cO (i:=1) O5.out
      have b2:=cO (i:=2) O5.out
      have b3:=cO (i:=3) O5.out
      have b4:=cO (i:=4) O5.out
      have b5:=cO (i:=5) O5.out
      have bf:=fun i=>zA (i:=i) O5.out
      simp only[gA,gB,gC]at b0 b1 b2 b3 b4 b5
      go_wp2_with fail
      (have hsf:=HSF.out;generalize hF:(World.setCell (World.setCell (World.setCell (World.setCell (World.setCell (World.setCell w5 ⟨w.heap.size+1,0,none⟩ (.int .u8 y.kind)) ⟨w.heap.size+1,1,none⟩ (.int .u8 y.op)) ⟨w.heap.size+1,2,none⟩ (.bool y.wide)) ⟨w.heap.size+1,3,none⟩ (.bool y.reg)) ⟨w.heap.size+1,4,none⟩ (.bool y.signed)) ⟨w.heap.size+1,5,none⟩ (.int .i64 y.size))=wF at hsf ⊢;obtain⟨hs,he⟩:=hsf;clear hF;(try simp only[Exit.then]);(repeat (first|go_skip|go_step));obtain⟨r0,r1,r2,r3,r4,r5⟩:=κ6 hs;refine bodyPost_ret (by simp[results,Tryz.results43,go_sem,r0,r1,r2,r3,r4,r5];try rfl) rfl ?_)
      exact⟨y,bb,rfl,by rw[HRS.out,← HY.out],by (repeat (first|exact xE0 _|assumption|refine xE1 ?_ _|refine xE2 ?_|refine xE3 ?_ _|refine xE4 ?_ (by assumption)))⟩
     | false =>
      have HR3:Hid (R=if c5=true∨c6=true then (if (kn && on1)=true then some (⟨10,h,c5,rg,false,0⟩:Wh) else none) else o5):=η (by rw[HR2.out,if_neg (fun h=>by have:=HZ.out.1 h;cases this)])
      clear HR2
      go_upto_if 34 with fail
      go_cut [34] from 34 to 36 (fun v wx=>v=.bool (c5 || c6)∧wx=wa)
      case first =>
       cases c5
       all_goals
        go_wp2_with fail
        go_meet
        exact⟨rfl,rfl⟩
      case rest =>
       obtain⟨rfl,hwc⟩:=hcut
       obtain rfl:=hwc.symm
       have HY2:Hid ((c5=true∨c6=true) ↔ ((c5 || c6)=true)):=η (by simp)
       generalize (c5 || c6)=cb at *
       cases cb with
       | false =>
        have HRS:Hid (R=o5):=η (by rw[HR3.out,if_neg (fun h=>by have:=HY2.out.1 h;cases this)])
        (have o1:=HO1.out;obtain⟨a0,a1,a2,a3,a4⟩:=κ5 o1;clear o1)
        (have o2:=HO2.out;obtain⟨b0,b1,b2,b3,b4,b5⟩:=κ6 o2;have bf:=fun i=>zA (i:=i) o2;clear o2)
        go_wp2_with fail
        refine(HM.out _).mono ?_
        rintro e w5 ⟨y,bb,rfl,hy,hE⟩
        have HY:=η hy
        have HE5:=η (HE.out.trans' hE)
        have O5:=η (hE.obj HO2.out)
        have HSF:=η (set6 O5.out HE5.out (Nat.le_succ _) y.kind y.op y.wide y.reg y.signed y.size)
        clear a0 a1 a2 a3 a4 b0 b1 b2 b3 b4 b5 bf hy hE
        have b0:=cO (i:=0) O5.out
        have b1:=cO (i:=1) O5.out
        have b2:=cO (i:=2) O5.out
        have b3:=cO (i:=3) O5.out
        have b4:=cO (i:=4) O5.out
        have b5:=cO (i:=5) O5.out
        have bf:=fun i=>zA (i:=i) O5.out
        simp only[gA,gB,gC]at b0 b1 b2 b3 b4 b5
        go_wp2_with fail
        (have hsf:=HSF.out;generalize hF:(World.setCell (World.setCell (World.setCell (World.setCell (World.setCell (World.setCell w5 ⟨w.heap.size+1,0,none⟩ (.int .u8 y.kind)) ⟨w.heap.size+1,1,none⟩ (.int .u8 y.op)) ⟨w.heap.size+1,2,none⟩ (.bool y.wide)) ⟨w.heap.size+1,3,none⟩ (.bool y.reg)) ⟨w.heap.size+1,4,none⟩ (.bool y.signed)) ⟨w.heap.size+1,5,none⟩ (.int .i64 y.size))=wF at hsf ⊢;obtain⟨hs,he⟩:=hsf;clear hF;(try simp only[Exit.then]);(repeat (first|go_skip|go_step));obtain⟨r0,r1,r2,r3,r4,r5⟩:=κ6 hs;refine bodyPost_ret (by simp[results,Tryz.results43,go_sem,r0,r1,r2,r3,r4,r5];try rfl) rfl ?_)
        exact⟨y,bb,rfl,by rw[HRS.out,← HY.out],by (repeat (first|exact xE0 _|assumption|refine xE1 ?_ _|refine xE2 ?_|refine xE3 ?_ _|refine xE4 ?_ (by assumption)))⟩
       | true =>
        have HRS:Hid (R=if (kn && on1)=true then some (⟨10,h,c5,rg,false,0⟩:Wh) else none):=η (by rw[HR3.out,if_pos (HY2.out.2 rfl)])
        (have o1:=HO1.out;obtain⟨a0,a1,a2,a3,a4⟩:=κ5 o1;clear o1)
        go_upto_region 12 with fail
        go_cut [5] from 37 to 48 (fun v wx=>v=.pointer (some ⟨wa.heap.size,0,none⟩)∧Hid (Ext w wx∧wx.heap[w.heap.size]?=some (zQ x)∧wx.heap[w.heap.size+1]?=some (zF Wh.zero)∧wx.heap[wa.heap.size]?=some (zF ⟨10,h,c5,rg,false,0⟩)))
        case first =>
         go_wp2_with fail
         go_meet
         refine⟨rfl,η ⟨by have:=HE.out;(repeat (first|exact xE0 _|assumption|refine xE1 ?_ _|refine xE2 ?_|refine xE3 ?_ _|refine xE4 ?_ (by assumption))),zB _ HO1.out,zB _ HO2.out,?_⟩⟩
         (repeat (first|(refine zD _ _ ?_;simp;done)|refine zB _ ?_))
        case rest =>
         obtain⟨rfl,HV⟩:=hcut
         have hq1:=zE HO1.out
         have hq2:=zE HO2.out
         replace HO1:=η HV.out.2.1
         replace HO2:=η HV.out.2.2.1
         have HO3:=η HV.out.2.2.2
         replace HE:=η HV.out.1
         clear a0 a1 a2 a3 a4 b0 b1 hh hrg hc
         go_upto_region 13 with fail
         have HT1:=η hon1
         cases kn with
         | false =>
          refine tE 1 14 4 (w.heap.size+1) (zF Wh.zero) (zF ⟨10,h,c5,rg,false,0⟩) (.cells #[.int .u8 16,.int .u8 32,.int .u8 48,.int .u8 64,.int .u8 80,.int .u8 96,.int .u8 112,.int .u8 160,.int .u8 176,.int .u8 192,.int .u8 208] 5) (.slice (some ⟨wc.heap.size,0,none⟩) 11 11) (by kernel_rfl) (by kernel_rfl) (by kernel_rfl) (by decide) (by decide) rfl rfl rfl rfl (by kernel_rfl) HO2.out ?_
          apply Exists.intro
          apply Exists.intro
          apply Exists.intro
          apply Exists.intro
          refine⟨fun c b=>?_,rfl,fun b n=>?_,fun c b=>?_,fun b=>?_,rfl,fun c n=>?_,fun b=>?_,fun n=>?_⟩
          ·simp only[List.take_succ_cons,List.take_zero]
           haveI:Nonempty (Cls wc (w.heap.size+1) (zF Wh.zero) (zF ⟨10,h,c5,rg,false,0⟩) (.cells #[.int .u8 16,.int .u8 32,.int .u8 48,.int .u8 64,.int .u8 80,.int .u8 96,.int .u8 112,.int .u8 160,.int .u8 176,.int .u8 192,.int .u8 208] 5) c b):=Cls.nonempty _ _ _ _ HO2.out
           have aZ:=fun n:Cls wc (w.heap.size+1) (zF Wh.zero) (zF ⟨10,h,c5,rg,false,0⟩) (.cells #[.int .u8 16,.int .u8 32,.int .u8 48,.int .u8 64,.int .u8 80,.int .u8 96,.int .u8 112,.int .u8 160,.int .u8 176,.int .u8 192,.int .u8 208] 5) c b=>n.obj HO1.out (by omega)
           obtain⟨a0,a1,a2,a3,a4⟩:=χ5 aZ
           clear aZ
           have qZ:=fun n:Cls wc (w.heap.size+1) (zF Wh.zero) (zF ⟨10,h,c5,rg,false,0⟩) (.cells #[.int .u8 16,.int .u8 32,.int .u8 48,.int .u8 64,.int .u8 80,.int .u8 96,.int .u8 112,.int .u8 160,.int .u8 176,.int .u8 192,.int .u8 208] 5) c b=>n.obj HO3.out (by omega)
           obtain⟨q0,q1,q2,q3,q4⟩:=χ5 qZ;have q5:=fun n=>cO (i:=5) (qZ n);simp only[gA,gB,gC]at q5
           clear qZ
           (repeat (go_big_quiet_step (fail)))
           exact wpQuiet_nil rfl
          ·have hz:=n.size
           simp only[tK]
           go_simp
           exact n.alloc
          ·simp only[List.take_succ_cons,List.take_zero,List.drop_succ_cons,List.drop_zero]
           haveI:Nonempty (Cls wc (w.heap.size+1) (zF Wh.zero) (zF ⟨10,h,c5,rg,false,0⟩) (.cells #[.int .u8 16,.int .u8 32,.int .u8 48,.int .u8 64,.int .u8 80,.int .u8 96,.int .u8 112,.int .u8 160,.int .u8 176,.int .u8 192,.int .u8 208] 5) c b):=Cls.nonempty _ _ _ _ HO2.out
           have aZ:=fun n:Cls wc (w.heap.size+1) (zF Wh.zero) (zF ⟨10,h,c5,rg,false,0⟩) (.cells #[.int .u8 16,.int .u8 32,.int .u8 48,.int .u8 64,.int .u8 80,.int .u8 96,.int .u8 112,.int .u8 160,.int .u8 176,.int .u8 192,.int .u8 208] 5) c b=>n.obj HO1.out (by omega)
           obtain⟨a0,a1,a2,a3,a4⟩:=χ5 aZ
           clear aZ
           have qZ:=fun n:Cls wc (w.heap.size+1) (zF Wh.zero) (zF ⟨10,h,c5,rg,false,0⟩) (.cells #[.int .u8 16,.int .u8 32,.int .u8 48,.int .u8 64,.int .u8 80,.int .u8 96,.int .u8 112,.int .u8 160,.int .u8 176,.int .u8 192,.int .u8 208] 5) c b=>n.obj HO3.out (by omega)
           obtain⟨q0,q1,q2,q3,q4⟩:=χ5 qZ;have q5:=fun n=>cO (i:=5) (qZ n);simp only[gA,gB,gC]at q5
           clear qZ
           go_simp
           (repeat (go_big_quiet_step (fail)))
           exact wpQuiet_nil rfl
          ·simp only[List.take_succ_cons,List.take_zero,List.drop_succ_cons,List.drop_zero]
           haveI:Nonempty (Cls wc (w.heap.size+1) (zF Wh.zero) (zF ⟨10,h,c5,rg,false,0⟩) (.cells #[.int .u8 16,.int .u8 32,.int .u8 48,.int .u8 64,.int .u8 80,.int .u8 96,.int .u8 112,.int .u8 160,.int .u8 176,.int .u8 192,.int .u8 208] 5) true b):=Cls.nonempty _ _ _ _ HO2.out
           have aZ:=fun n:Cls wc (w.heap.size+1) (zF Wh.zero) (zF ⟨10,h,c5,rg,false,0⟩) (.cells #[.int .u8 16,.int .u8 32,.int .u8 48,.int .u8 64,.int .u8 80,.int .u8 96,.int .u8 112,.int .u8 160,.int .u8 176,.int .u8 192,.int .u8 208] 5) true b=>n.obj HO1.out (by omega)
           obtain⟨a0,a1,a2,a3,a4⟩:=χ5 aZ
           clear aZ
           have qZ:=fun n:Cls wc (w.heap.size+1) (zF Wh.zero) (zF ⟨10,h,c5,rg,false,0⟩) (.cells #[.int .u8 16,.int .u8 32,.int .u8 48,.int .u8 64,.int .u8 80,.int .u8 96,.int .u8 112,.int .u8 160,.int .u8 176,.int .u8 192,.int .u8 208] 5) true b=>n.obj HO3.out (by omega)
           obtain⟨q0,q1,q2,q3,q4⟩:=χ5 qZ;have q5:=fun n=>cO (i:=5) (qZ n);simp only[gA,gB,gC]at q5
           clear qZ
           have HRD:=η (fun n:Cls wc (w.heap.size+1) (zF Wh.zero) (zF ⟨10,h,c5,rg,false,0⟩) (.cells #[.int .u8 16,.int .u8 32,.int .u8 48,.int .u8 64,.int .u8 80,.int .u8 96,.int .u8 112,.int .u8 160,.int .u8 176,.int .u8 192,.int .u8 208] 5) true b=>rd_obj (xs:=[16,32,48,64,80,96,112,160,176,192,208]) (n:=11) (zG .u8) n.lits rfl (by decide))
           (repeat (go_big_quiet_step (first|(go_at_call 77;exact Calls.cls (r_inX _ _ _ _ _ (HRD.out _) HKN.out))|(go_at_call 80;exact Calls.cls (qK x rg true (!rg) on1 _ HT1.out)))))
           exact wpQuiet_nil rfl
          ·have O2:=n.res
           simp only[Bool.false_eq_true,if_false]at O2
           have b0:=cO (i:=0) O2
           have b1:=cO (i:=1) O2
           have b2:=cO (i:=2) O2
           have b3:=cO (i:=3) O2
           have b4:=cO (i:=4) O2
           have b5:=cO (i:=5) O2
           have bf:=fun i=>zA (i:=i) O2
           simp only[gA,gB,gC]at b0 b1 b2 b3 b4 b5
           have hst:=η (n.store6 (10) (h) (c5) (rg) (false) (0) (zE HO2.out))
           clear O2
           go_simp
           exact hst.out
          ·haveI:Nonempty (Cls wc (w.heap.size+1) (zF Wh.zero) (zF ⟨10,h,c5,rg,false,0⟩) (.cells #[.int .u8 16,.int .u8 32,.int .u8 48,.int .u8 64,.int .u8 80,.int .u8 96,.int .u8 112,.int .u8 160,.int .u8 176,.int .u8 192,.int .u8 208] 5) true b):=Cls.nonempty _ _ _ _ HO2.out
           simp only[List.drop_succ_cons,List.drop_zero]
           (repeat (go_big_quiet_step (fail)))
           exact wpQuiet_nil rfl
          ·have O2:=n.res
           simp only[if_true]at O2
           obtain⟨r0,r1,r2,r3,r4,r5⟩:=κ6 O2
           (try simp only[Exit.then])
           (repeat (first|go_skip|go_step))
           refine bodyPost_ret (by simp[results,Tryz.results43,go_sem,r0,r1,r2,r3,r4,r5];try rfl) rfl ?_
           exact⟨⟨10,h,c5,rg,false,0⟩,false,rfl,by rw[HRS.out];rfl,n.keep.below HE.out HE.out.size (by simp)⟩
         | true =>
          refine tE 1 14 4 (w.heap.size+1) (zF Wh.zero) (zF ⟨10,h,c5,rg,false,0⟩) (.cells #[.int .u8 16,.int .u8 32,.int .u8 48,.int .u8 64,.int .u8 80,.int .u8 96,.int .u8 112,.int .u8 160,.int .u8 176,.int .u8 192,.int .u8 208] 5) (.slice (some ⟨wc.heap.size,0,none⟩) 11 11) (by kernel_rfl) (by kernel_rfl) (by kernel_rfl) (by decide) (by decide) rfl rfl rfl rfl (by kernel_rfl) HO2.out ?_
          apply Exists.intro
          apply Exists.intro
          apply Exists.intro
          apply Exists.intro
          refine⟨fun c b=>?_,rfl,fun b n=>?_,fun c b=>?_,fun b=>?_,rfl,fun c n=>?_,fun b=>?_,fun n=>?_⟩
          ·simp only[List.take_succ_cons,List.take_zero]
           haveI:Nonempty (Cls wc (w.heap.size+1) (zF Wh.zero) (zF ⟨10,h,c5,rg,false,0⟩) (.cells #[.int .u8 16,.int .u8 32,.int .u8 48,.int .u8 64,.int .u8 80,.int .u8 96,.int .u8 112,.int .u8 160,.int .u8 176,.int .u8 192,.int .u8 208] 5) c b):=Cls.nonempty _ _ _ _ HO2.out
           have aZ:=fun n:Cls wc (w.heap.size+1) (zF Wh.zero) (zF ⟨10,h,c5,rg,false,0⟩) (.cells #[.int .u8 16,.int .u8 32,.int .u8 48,.int .u8 64,.int .u8 80,.int .u8 96,.int .u8 112,.int .u8 160,.int .u8 176,.int .u8 192,.int .u8 208] 5) c b=>n.obj HO1.out (by omega)
           obtain⟨a0,a1,a2,a3,a4⟩:=χ5 aZ
           clear aZ
           have qZ:=fun n:Cls wc (w.heap.size+1) (zF Wh.zero) (zF ⟨10,h,c5,rg,false,0⟩) (.cells #[.int .u8 16,.int .u8 32,.int .u8 48,.int .u8 64,.int .u8 80,.int .u8 96,.int .u8 112,.int .u8 160,.int .u8 176,.int .u8 192,.int .u8 208] 5) c b=>n.obj HO3.out (by omega)
           obtain⟨q0,q1,q2,q3,q4⟩:=χ5 qZ;have q5:=fun n=>cO (i:=5) (qZ n);simp only[gA,gB,gC]at q5
           clear qZ
           (repeat (go_big_quiet_step (fail)))
           exact wpQuiet_nil rfl
          ·have hz:=n.size
           simp only[tK]
           go_simp
           exact n.alloc
          ·simp only[List.take_succ_cons,List.take_zero,List.drop_succ_cons,List.drop_zero]
           haveI:Nonempty (Cls wc (w.heap.size+1) (zF Wh.zero) (zF ⟨10,h,c5,rg,false,0⟩) (.cells #[.int .u8 16,.int .u8 32,.int .u8 48,.int .u8 64,.int .u8 80,.int .u8 96,.int .u8 112,.int .u8 160,.int .u8 176,.int .u8 192,.int .u8 208] 5) c b):=Cls.nonempty _ _ _ _ HO2.out
           have aZ:=fun n:Cls wc (w.heap.size+1) (zF Wh.zero) (zF ⟨10,h,c5,rg,false,0⟩) (.cells #[.int .u8 16,.int .u8 32,.int .u8 48,.int .u8 64,.int .u8 80,.int .u8 96,.int .u8 112,.int .u8 160,.int .u8 176,.int .u8 192,.int .u8 208] 5) c b=>n.obj HO1.out (by omega)
           obtain⟨a0,a1,a2,a3,a4⟩:=χ5 aZ
           clear aZ
           have qZ:=fun n:Cls wc (w.heap.size+1) (zF Wh.zero) (zF ⟨10,h,c5,rg,false,0⟩) (.cells #[.int .u8 16,.int .u8 32,.int .u8 48,.int .u8 64,.int .u8 80,.int .u8 96,.int .u8 112,.int .u8 160,.int .u8 176,.int .u8 192,.int .u8 208] 5) c b=>n.obj HO3.out (by omega)
           obtain⟨q0,q1,q2,q3,q4⟩:=χ5 qZ;have q5:=fun n=>cO (i:=5) (qZ n);simp only[gA,gB,gC]at q5
           clear qZ
           go_simp
           (repeat (go_big_quiet_step (fail)))
           exact wpQuiet_nil rfl
          ·simp only[List.take_succ_cons,List.take_zero,List.drop_succ_cons,List.drop_zero]
           haveI:Nonempty (Cls wc (w.heap.size+1) (zF Wh.zero) (zF ⟨10,h,c5,rg,false,0⟩) (.cells #[.int .u8 16,.int .u8 32,.int .u8 48,.int .u8 64,.int .u8 80,.int .u8 96,.int .u8 112,.int .u8 160,.int .u8 176,.int .u8 192,.int .u8 208] 5) true b):=Cls.nonempty _ _ _ _ HO2.out
           have aZ:=fun n:Cls wc (w.heap.size+1) (zF Wh.zero) (zF ⟨10,h,c5,rg,false,0⟩) (.cells #[.int .u8 16,.int .u8 32,.int .u8 48,.int .u8 64,.int .u8 80,.int .u8 96,.int .u8 112,.int .u8 160,.int .u8 176,.int .u8 192,.int .u8 208] 5) true b=>n.obj HO1.out (by omega)
           obtain⟨a0,a1,a2,a3,a4⟩:=χ5 aZ
           clear aZ
           have qZ:=fun n:Cls wc (w.heap.size+1) (zF Wh.zero) (zF ⟨10,h,c5,rg,false,0⟩) (.cells #[.int .u8 16,.int .u8 32,.int .u8 48,.int .u8 64,.int .u8 80,.int .u8 96,.int .u8 112,.int .u8 160,.int .u8 176,.int .u8 192,.int .u8 208] 5) true b=>n.obj HO3.out (by omega)
           obtain⟨q0,q1,q2,q3,q4⟩:=χ5 qZ;have q5:=fun n=>cO (i:=5) (qZ n);simp only[gA,gB,gC]at q5
           clear qZ
           have HRD:=η (fun n:Cls wc (w.heap.size+1) (zF Wh.zero) (zF ⟨10,h,c5,rg,false,0⟩) (.cells #[.int .u8 16,.int .u8 32,.int .u8 48,.int .u8 64,.int .u8 80,.int .u8 96,.int .u8 112,.int .u8 160,.int .u8 176,.int .u8 192,.int .u8 208] 5) true b=>rd_obj (xs:=[16,32,48,64,80,96,112,160,176,192,208]) (n:=11) (zG .u8) n.lits rfl (by decide))
           (repeat (go_big_quiet_step (first|(go_at_call 77;exact Calls.cls (r_inX _ _ _ _ _ (HRD.out _) HKN.out))|(go_at_call 80;exact Calls.cls (qK x rg true (!rg) on1 _ HT1.out)))))
           exact wpQuiet_nil rfl
          ·have O2:=n.res
           simp only[Bool.false_eq_true,if_false]at O2
           have b0:=cO (i:=0) O2
           have b1:=cO (i:=1) O2
           have b2:=cO (i:=2) O2
           have b3:=cO (i:=3) O2
           have b4:=cO (i:=4) O2
           have b5:=cO (i:=5) O2
           have bf:=fun i=>zA (i:=i) O2
           simp only[gA,gB,gC]at b0 b1 b2 b3 b4 b5
           have hst:=η (n.store6 (10) (h) (c5) (rg) (false) (0) (zE HO2.out))
           clear O2
           go_simp
           exact hst.out
          ·haveI:Nonempty (Cls wc (w.heap.size+1) (zF Wh.zero) (zF ⟨10,h,c5,rg,false,0⟩) (.cells #[.int .u8 16,.int .u8 32,.int .u8 48,.int .u8 64,.int .u8 80,.int .u8 96,.int .u8 112,.int .u8 160,.int .u8 176,.int .u8 192,.int .u8 208] 5) true b):=Cls.nonempty _ _ _ _ HO2.out
           simp only[List.drop_succ_cons,List.drop_zero]
           (repeat (go_big_quiet_step (fail)))
           exact wpQuiet_nil rfl
          ·have O2:=n.res
           simp only[if_true]at O2
           obtain⟨r0,r1,r2,r3,r4,r5⟩:=κ6 O2
           (try simp only[Exit.then])
           (repeat (first|go_skip|go_step))
           refine bodyPost_ret (by simp[results,Tryz.results43,go_sem,r0,r1,r2,r3,r4,r5];try rfl) rfl ?_
           exact⟨⟨10,h,c5,rg,false,0⟩,on1,rfl,by rw[HRS.out];rfl,n.keep.below HE.out HE.out.size (by simp)⟩
set_option maxRecDepth 20000 in
set_option maxHeartbeats 4000000 in
theorem r_What (x:Ins)(w:World)(hx:x.Ok):Calls Tryz.prog 17 #[x.agg] w (WhatA x w):=by
 have HXX:=η hx
 go_enter Tryz.func17,Tryz.ntmps17
 go_upto_region 1 with fail
 go_cut [4,5] (fun v4 v5 wx=>∃ q y bb,v4=.pointer (some ⟨q,0,none⟩)∧v5=.bool bb∧Hid (xH x=if bb then some y else none)∧Hid (Ext w wx∧wx.heap[w.heap.size]?=some (zQ x)∧wx.heap[w.heap.size+1]?=some (zF Wh.zero)∧wx.heap[q]?=some (zF y)∧w.heap.size+1 < q))
 case first =>
  go_wp2_with fail
  refine(r_what x _ HXX.out).mono ?_
  rintro e w5 ⟨y,bb,rfl,hy,hE⟩
  have HY:=η hy
  have HE5:=η hE
  clear hy hE
  go_wp2_with fail
  go_meet
  refine⟨_,y,bb,rfl,rfl,HY,η ⟨?_,?_,?_,?_,?_⟩⟩
  ·refine Ext.alloc' ?_ _
   refine Ext.trans' ?_ HE5.out
   (repeat (first|exact xE0 _|assumption|refine xE1 ?_ _|refine xE2 ?_|refine xE3 ?_ _|refine xE4 ?_ (by assumption)))
  ·refine zB _ (HE5.out.obj ?_)
   (repeat (first|(refine zD _ _ ?_;simp;done)|refine zB _ ?_))
  ·refine zB _ (HE5.out.obj ?_)
   (repeat (first|(refine zD _ _ ?_;simp;done)|refine zB _ ?_))
  ·(repeat (first|(refine zD _ _ ?_;simp;done)|refine zB _ ?_))
  ·have:=HE5.out.size
   simp at this
   omega
 case rest =>
  obtain⟨q,y,bb,rfl,rfl,HY,HW⟩:=hcut
  have HO1:=η HW.out.2.1
  have HO2:=η HW.out.2.2.1
  have HO3:=η HW.out.2.2.2.1
  have HE:=η HW.out.1
  clear HW
  (have o1:=HO1.out;have o2:=HO2.out;have o3:=HO3.out;obtain⟨a0,a1,a2,a3,a4⟩:=κ5 o1;obtain⟨b0,b1,b2,b3,b4,b5⟩:=κ6 o2;have bf:=fun i=>zA (i:=i) o2;obtain⟨q0,q1,q2,q3,q4,q5⟩:=κ6 o3;clear o1 o2 o3)
  cases bb with
  | true =>
   have HSF:=η (set6 HO2.out HE.out (Nat.le_succ _) y.kind y.op y.wide y.reg y.signed y.size)
   go_wp2_with fail
   all_goals
    (have hsf:=HSF.out;generalize hF:(World.setCell (World.setCell (World.setCell (World.setCell (World.setCell (World.setCell wc ⟨w.heap.size+1,0,none⟩ (.int .u8 y.kind)) ⟨w.heap.size+1,1,none⟩ (.int .u8 y.op)) ⟨w.heap.size+1,2,none⟩ (.bool y.wide)) ⟨w.heap.size+1,3,none⟩ (.bool y.reg)) ⟨w.heap.size+1,4,none⟩ (.bool y.signed)) ⟨w.heap.size+1,5,none⟩ (.int .i64 y.size))=wF at hsf ⊢;obtain⟨hs,he⟩:=hsf;clear hF;(try simp only[Exit.then]);(repeat (first|go_skip|go_step));obtain⟨r0,r1,r2,r3,r4,r5⟩:=κ6 hs;refine bodyPost_ret (by simp[results,Tryz.results17,go_sem,r0,r1,r2,r3,r4,r5];try rfl) rfl ?_)
    exact⟨by rw[HY.out];rfl,by (repeat (first|exact xE0 _|assumption|refine xE1 ?_ _|refine xE2 ?_|refine xE3 ?_ _|refine xE4 ?_ (by assumption)))⟩
  | false =>
   have HSF:=η (set6 HO2.out HE.out (Nat.le_succ _) 0 0 false false false 0)
   go_wp2_with fail
   all_goals
    (have hsf:=HSF.out;generalize hF:(World.setCell (World.setCell (World.setCell (World.setCell (World.setCell (World.setCell wc ⟨w.heap.size+1,0,none⟩ (.int .u8 0)) ⟨w.heap.size+1,1,none⟩ (.int .u8 0)) ⟨w.heap.size+1,2,none⟩ (.bool false)) ⟨w.heap.size+1,3,none⟩ (.bool false)) ⟨w.heap.size+1,4,none⟩ (.bool false)) ⟨w.heap.size+1,5,none⟩ (.int .i64 0))=wF at hsf ⊢;obtain⟨hs,he⟩:=hsf;clear hF;(try simp only[Exit.then]);(repeat (first|go_skip|go_step));obtain⟨r0,r1,r2,r3,r4,r5⟩:=κ6 hs;refine bodyPost_ret (by simp[results,Tryz.results17,go_sem,r0,r1,r2,r3,r4,r5];try rfl) rfl ?_)
    exact⟨by rw[HY.out];rfl,by (repeat (first|exact xE0 _|assumption|refine xE1 ?_ _|refine xE2 ?_|refine xE3 ?_ _|refine xE4 ?_ (by assumption)))⟩
end Go.Proofs.YtppefchjoodgnaaGreat
