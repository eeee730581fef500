import Derived.Test.YtppefchjoodgnaaGreatPQ11
import Derived.Test.YtppefchjoodgnaaGreatPQ12
import Derived.Test.YtppefchjoodgnaaGreatPQ13
import Derived.Test.YtppefchjoodgnaaGreatPQ14
set_option linter.unusedSimpArgs false
set_option linter.unusedVariables false
namespace Go.Proofs.YtppefchjoodgnaaGreat
open Go.RowKit
def xH (x:Ins):Option Wh :=
 if 10 < x.dst∨10 < x.src then none
 else if x.op=24 then gV x
 else if x.op=212∨x.op=220∨x.op=215 then vL x
 else if x.op%8=4∨x.op%8=7 then xD x (x.op / 16 * 16) (x.op%8 == 7) (x.op / 8%2 == 1)
 else if x.op%8=5∨x.op%8=6 then kJ x
 else if x.op%8=0 then none
 else uM x
def WhatA (x:Ins)(w:World)(e:Ending)(w':World):Prop:=e=.returned (.tuple #[((xH x).getD Wh.zero).agg,.bool (xH x).isSome])∧Ext w w'
set_option maxRecDepth 20000 in
set_option maxHeartbeats 4000000 in
theorem p_what (x:Ins)(w:World)(hx:x.Ok):Calls Tryz.prog 75 #[x.agg] w (WhA (xH x) w):=by
 have HOP:=η hx.op
 have HXX:=η hx
 unfold xH
 obtain⟨c,hc⟩:∃ c,x.op%8=c:=⟨_,rfl⟩
 obtain⟨zd,hzd⟩:∃ z,decide (x.dst > 10)=z:=⟨_,rfl⟩
 obtain⟨zs,hzs⟩:∃ z,decide (x.src > 10)=z:=⟨_,rfl⟩
 obtain⟨k,hk⟩:∃ z,(x.op == 24)=z:=⟨_,rfl⟩
 obtain⟨l,hl⟩:∃ z,(x.op == 212)=z:=⟨_,rfl⟩
 obtain⟨b,hb⟩:∃ z,(x.op == 220)=z:=⟨_,rfl⟩
 obtain⟨t,ht⟩:∃ z,(x.op == 215)=z:=⟨_,rfl⟩
 obtain⟨c4,hc4⟩:∃ z,(c == 4)=z:=⟨_,rfl⟩
 obtain⟨c7,hc7⟩:∃ z,(c == 7)=z:=⟨_,rfl⟩
 obtain⟨c5,hc5⟩:∃ z,(c == 5)=z:=⟨_,rfl⟩
 obtain⟨c6,hc6⟩:∃ z,(c == 6)=z:=⟨_,rfl⟩
 obtain⟨c0,hc0⟩:∃ z,(c == 0)=z:=⟨_,rfl⟩
 obtain⟨o1,ho1⟩:∃ o,gV x=o:=⟨_,rfl⟩
 obtain⟨o2,ho2⟩:∃ o,vL x=o:=⟨_,rfl⟩
 obtain⟨o3,ho3⟩:∃ o,xD x (x.op / 16 * 16) (x.op%8 == 7) (x.op / 8%2 == 1)=o:=⟨_,rfl⟩
 obtain⟨o4,ho4⟩:∃ o,kJ x=o:=⟨_,rfl⟩
 obtain⟨o5,ho5⟩:∃ o,uM x=o:=⟨_,rfl⟩
 rw[ho1,ho2,ho3,ho4,ho5]
 have b1:(10 < x.dst)=(zd=true):=by rw[← hzd];simp
 have b2:(10 < x.src)=(zs=true):=by rw[← hzs];simp
 have b3:(x.op=24)=(k=true):=by rw[← hk];simp
 have b4:(x.op=212)=(l=true):=by rw[← hl];simp
 have b5:(x.op=220)=(b=true):=by rw[← hb];simp
 have b6:(x.op=215)=(t=true):=by rw[← ht];simp
 have b7:(c=4)=(c4=true):=by rw[← hc4];simp
 have b8:(c=7)=(c7=true):=by rw[← hc7];simp
 have b9:(c=5)=(c5=true):=by rw[← hc5];simp
 have b10:(c=6)=(c6=true):=by rw[← hc6];simp
 have b11:(c=0)=(c0=true):=by rw[← hc0];simp
 simp only[hc,b1,b2,b3,b4,b5,b6,b7,b8,b9,b10,b11]
 obtain⟨R,hR⟩:∃ R,R=(if zd=true∨zs=true then none else if k=true then o1 else if l=true∨b=true∨t=true then o2 else if c4=true∨c7=true then o3 else if c5=true∨c6=true then o4 else if c0=true then none else o5):=⟨_,rfl⟩
 rw[← hR]
 have HR:=η hR
 have H1:=η ho1
 have H2:=η ho2
 have H3:=η ho3
 have H4:=η ho4
 have H5:=η ho5
 have HC:=η hc
 clear hR b1 b2 b3 b4 b5 b6 b7 b8 b9 b10 b11 ho1 ho2 ho3 ho4 ho5 hc
 go_enter Tryz.func75,Tryz.ntmps75
 go_upto_region 1 with fail
 go_cut [4] (fun v wx=>v=.bool (zd || zs)∧Hid (Ext w wx∧wx.heap[w.heap.size]?=some (zQ x)∧wx.heap[w.heap.size+1]?=some (zF Wh.zero)))
 case first =>
  cases zd
  all_goals
   go_wp2_with fail
   go_meet
   refine⟨by simp,η ⟨by (repeat (first|exact xE0 _|assumption|refine xE1 ?_ _|refine xE2 ?_|refine xE3 ?_ _|refine xE4 ?_ (by assumption))),?_,?_⟩⟩
   ·(repeat (first|(refine zD _ _ ?_;simp;done)|refine zB _ ?_))
   ·(repeat (first|(refine zD _ _ ?_;simp;done)|refine zB _ ?_))
 case rest =>
  obtain⟨rfl,HW⟩:=hcut
  have HO1:=η HW.out.2.1
  have HO2:=η HW.out.2.2
  have HE:=η HW.out.1
  have HO3:=HO2
  clear HW
  have HZ:Hid (((zd || zs)=true)=(zd=true∨zs=true)):=η (by simp)
  generalize (zd || zs)=zz at *
  cases zz with
  | true =>
   have HSF:=η (set6 HO2.out HE.out (Nat.le_succ _) 0 0 false false false 0)
   (have o1:=HO1.out;have o2:=HO2.out;have o3:=HO3.out;obtain⟨a0,a1,a2,a3,a4⟩:=κ5 o1;obtain⟨b0,b1,b2,b3,b4,b5⟩:=κ6 o2;have bf:=fun i=>zA (i:=i) o2;obtain⟨q0,q1,q2,q3,q4,q5⟩:=κ6 o3;clear o1 o2 o3)
   go_wp2_with fail
   all_goals
    (have hsf:=HSF.out;generalize hF:(World.setCell (World.setCell (World.setCell (World.setCell (World.setCell (World.setCell wc ⟨w.heap.size+1,0,none⟩ (.int .u8 0)) ⟨w.heap.size+1,1,none⟩ (.int .u8 0)) ⟨w.heap.size+1,2,none⟩ (.bool false)) ⟨w.heap.size+1,3,none⟩ (.bool false)) ⟨w.heap.size+1,4,none⟩ (.bool false)) ⟨w.heap.size+1,5,none⟩ (.int .i64 0))=wF at hsf ⊢;obtain⟨hs,he⟩:=hsf;clear hF;(try simp only[Exit.then]);(repeat (first|go_skip|go_step));obtain⟨r0,r1,r2,r3,r4,r5⟩:=κ6 hs;refine bodyPost_ret (by simp[results,Tryz.results75,go_sem,r0,r1,r2,r3,r4,r5];try rfl) rfl ?_)
    exact⟨Wh.zero,false,rfl,by rw[HR.out];simp[*,← HZ.out],by (repeat (first|exact xE0 _|assumption|refine xE1 ?_ _|refine xE2 ?_|refine xE3 ?_ _|refine xE4 ?_ (by assumption)))⟩
  | false =>
   cases k with
   | true =>
    (have o1:=HO1.out;have o2:=HO2.out;have o3:=HO3.out;obtain⟨a0,a1,a2,a3,a4⟩:=κ5 o1;obtain⟨b0,b1,b2,b3,b4,b5⟩:=κ6 o2;have bf:=fun i=>zA (i:=i) o2;obtain⟨q0,q1,q2,q3,q4,q5⟩:=κ6 o3;clear o1 o2 o3)
    go_wp2_with fail
    refine(p_wide x _).mono ?_
    rintro e w5 ⟨y,bb,rfl,hy,hE⟩
    have HY:=η hy
    have HE5:=η (HE.out.trans' hE)
    have O5:=η (hE.obj HO2.out)
    have HSF:=η (set6 O5.out HE5.out (Nat.le_succ _) y.kind y.op y.wide y.reg y.signed y.size)
    clear a0 a1 a2 a3 a4 b0 b1 b2 b3 b4 b5 bf q0 q1 q2 q3 q4 q5 hy hE
    have b0:=cO (i:=0) O5.out
    have b1:=cO (i:=1) O5.out
    have b2:=cO (i:=2) O5.out
    have b3:=cO (i:=3) O5.out
    have b4:=cO (i:=4) O5.out
    have b5:=cO (i:=5) O5.out
    have bf:=fun i=>zA (i:=i) O5.out
    simp only[gA,gB,gC]at b0 b1 b2 b3 b4 b5
    go_wp2_with fail
    all_goals
     (have hsf:=HSF.out;generalize hF:(World.setCell (World.setCell (World.setCell (World.setCell (World.setCell (World.setCell w5 ⟨w.heap.size+1,0,none⟩ (.int .u8 y.kind)) ⟨w.heap.size+1,1,none⟩ (.int .u8 y.op)) ⟨w.heap.size+1,2,none⟩ (.bool y.wide)) ⟨w.heap.size+1,3,none⟩ (.bool y.reg)) ⟨w.heap.size+1,4,none⟩ (.bool y.signed)) ⟨w.heap.size+1,5,none⟩ (.int .i64 y.size))=wF at hsf ⊢;obtain⟨hs,he⟩:=hsf;clear hF;(try simp only[Exit.then]);(repeat (first|go_skip|go_step));obtain⟨r0,r1,r2,r3,r4,r5⟩:=κ6 hs;refine bodyPost_ret (by simp[results,Tryz.results75,go_sem,r0,r1,r2,r3,r4,r5];try rfl) rfl ?_)
     exact⟨y,bb,rfl,by rw[HR.out,← HY.out,H1.out];simp[*,← HZ.out],by (repeat (first|exact xE0 _|assumption|refine xE1 ?_ _|refine xE2 ?_|refine xE3 ?_ _|refine xE4 ?_ (by assumption)))⟩
   | false =>
    cases l with
    | true =>
     (have o1:=HO1.out;have o2:=HO2.out;have o3:=HO3.out;obtain⟨a0,a1,a2,a3,a4⟩:=κ5 o1;obtain⟨b0,b1,b2,b3,b4,b5⟩:=κ6 o2;have bf:=fun i=>zA (i:=i) o2;obtain⟨q0,q1,q2,q3,q4,q5⟩:=κ6 o3;clear o1 o2 o3)
     go_wp2_with fail
     refine(p_swaps x _ HXX.out).mono ?_
     rintro e w5 ⟨y,bb,rfl,hy,hE⟩
     have HY:=η hy
     have HE5:=η (HE.out.trans' hE)
     have O5:=η (hE.obj HO2.out)
     have HSF:=η (set6 O5.out HE5.out (Nat.le_succ _) y.kind y.op y.wide y.reg y.signed y.size)
     clear a0 a1 a2 a3 a4 b0 b1 b2 b3 b4 b5 bf q0 q1 q2 q3 q4 q5 hy hE
     have b0:=cO (i:=0) O5.out
     have b1:=cO (i:=1) O5.out
     have b2:=cO (i:=2) O5.out
     have b3:=cO (i:=3) O5.out
     have b4:=cO (i:=4) O5.out
     have b5:=cO (i:=5) O5.out
     have bf:=fun i=>zA (i:=i) O5.out
     simp only[gA,gB,gC]at b0 b1 b2 b3 b4 b5
     go_wp2_with fail
     all_goals
      (have hsf:=HSF.out;generalize hF:(World.setCell (World.setCell (World.setCell (World.setCell (World.setCell (World.setCell w5 ⟨w.heap.size+1,0,none⟩ (.int .u8 y.kind)) ⟨w.heap.size+1,1,none⟩ (.int .u8 y.op)) ⟨w.heap.size+1,2,none⟩ (.bool y.wide)) ⟨w.heap.size+1,3,none⟩ (.bool y.reg)) ⟨w.heap.size+1,4,none⟩ (.bool y.signed)) ⟨w.heap.size+1,5,none⟩ (.int .i64 y.size))=wF at hsf ⊢;obtain⟨hs,he⟩:=hsf;clear hF;(try simp only[Exit.then]);(repeat (first|go_skip|go_step));obtain⟨r0,r1,r2,r3,r4,r5⟩:=κ6 hs;refine bodyPost_ret (by simp[results,Tryz.results75,go_sem,r0,r1,r2,r3,r4,r5];try rfl) rfl ?_)
      exact⟨y,bb,rfl,by rw[HR.out,← HY.out,H2.out];simp[*,← HZ.out],by (repeat (first|exact xE0 _|assumption|refine xE1 ?_ _|refine xE2 ?_|refine xE3 ?_ _|refine xE4 ?_ (by assumption)))⟩
    | false =>
     cases b with
     | true =>
      (have o1:=HO1.out;have o2:=HO2.out;have o3:=HO3.out;obtain⟨a0,a1,a2,a3,a4⟩:=κ5 o1;obtain⟨b0,b1,b2,b3,b4,b5⟩:=κ6 o2;have bf:=fun i=>zA (i:=i) o2;obtain⟨q0,q1,q2,q3,q4,q5⟩:=κ6 o3;clear o1 o2 o3)
      go_wp2_with fail
      refine(p_swaps x _ HXX.out).mono ?_
      rintro e w5 ⟨y,bb,rfl,hy,hE⟩
      have HY:=η hy
      have HE5:=η (HE.out.trans' hE)
      have O5:=η (hE.obj HO2.out)
      have HSF:=η (set6 O5.out HE5.out (Nat.le_succ _) y.kind y.op y.wide y.reg y.signed y.size)
      clear a0 a1 a2 a3 a4 b0 b1 b2 b3 b4 b5 bf q0 q1 q2 q3 q4 q5 hy hE
      have b0:=cO (i:=0) O5.out
      have b1:=cO (i:=1) O5.out
      have b2:=cO (i:=2) O5.out
      have b3:=cO (i:=3) O5.out
      have b4:=cO (i:=4) O5.out
      have b5:=cO (i:=5) O5.out
      have bf:=fun i=>zA (i:=i) O5.out
      simp only[gA,gB,gC]at b0 b1 b2 b3 b4 b5
      go_wp2_with fail
      all_goals
       (have hsf:=HSF.out;generalize hF:(World.setCell (World.setCell (World.setCell (World.setCell (World.setCell (World.setCell w5 ⟨w.heap.size+1,0,none⟩ (.int .u8 y.kind)) ⟨w.heap.size+1,1,none⟩ (.int .u8 y.op)) ⟨w.heap.size+1,2,none⟩ (.bool y.wide)) ⟨w.heap.size+1,3,none⟩ (.bool y.reg)) ⟨w.heap.size+1,4,none⟩ (.bool y.signed)) ⟨w.heap.size+1,5,none⟩ (.int .i64 y.size))=wF at hsf ⊢;obtain⟨hs,he⟩:=hsf;clear hF;(try simp only[Exit.then]);(repeat (first|go_skip|go_step));obtain⟨r0,r1,r2,r3,r4,r5⟩:=κ6 hs;refine bodyPost_ret (by simp[results,Tryz.results75,go_sem,r0,r1,r2,r3,r4,r5];try rfl) rfl ?_)
       exact⟨y,bb,rfl,by rw[HR.out,← HY.out,H2.out];simp[*,← HZ.out],by (repeat (first|exact xE0 _|assumption|refine xE1 ?_ _|refine xE2 ?_|refine xE3 ?_ _|refine xE4 ?_ (by assumption)))⟩
     | false =>
      cases t with
      | true =>
       (have o1:=HO1.out;have o2:=HO2.out;have o3:=HO3.out;obtain⟨a0,a1,a2,a3,a4⟩:=κ5 o1;obtain⟨b0,b1,b2,b3,b4,b5⟩:=κ6 o2;have bf:=fun i=>zA (i:=i) o2;obtain⟨q0,q1,q2,q3,q4,q5⟩:=κ6 o3;clear o1 o2 o3)
       go_wp2_with fail
       refine(p_swaps x _ HXX.out).mono ?_
       rintro e w5 ⟨y,bb,rfl,hy,hE⟩
       have HY:=η hy
       have HE5:=η (HE.out.trans' hE)
       have O5:=η (hE.obj HO2.out)
       have HSF:=η (set6 O5.out HE5.out (Nat.le_succ _) y.kind y.op y.wide y.reg y.signed y.size)
       clear a0 a1 a2 a3 a4 b0 b1 b2 b3 b4 b5 bf q0 q1 q2 q3 q4 q5 hy hE
       have b0:=cO (i:=0) O5.out
       have b1:=cO (i:=1) O5.out
       have b2:=cO (i:=2) O5.out
       have b3:=cO (i:=3) O5.out
       have b4:=cO (i:=4) O5.out
       have b5:=cO (i:=5) O5.out
       have bf:=fun i=>zA (i:=i) O5.out
       simp only[gA,gB,gC]at b0 b1 b2 b3 b4 b5
       go_wp2_with fail
       all_goals
        (have hsf:=HSF.out;generalize hF:(World.setCell (World.setCell (World.setCell (World.setCell (World.setCell (World.setCell w5 ⟨w.heap.size+1,0,none⟩ (.int .u8 y.kind)) ⟨w.heap.size+1,1,none⟩ (.int .u8 y.op)) ⟨w.heap.size+1,2,none⟩ (.bool y.wide)) ⟨w.heap.size+1,3,none⟩ (.bool y.reg)) ⟨w.heap.size+1,4,none⟩ (.bool y.signed)) ⟨w.heap.size+1,5,none⟩ (.int .i64 y.size))=wF at hsf ⊢;obtain⟨hs,he⟩:=hsf;clear hF;(try simp only[Exit.then]);(repeat (first|go_skip|go_step));obtain⟨r0,r1,r2,r3,r4,r5⟩:=κ6 hs;refine bodyPost_ret (by simp[results,Tryz.results75,go_sem,r0,r1,r2,r3,r4,r5];try rfl) rfl ?_)
        exact⟨y,bb,rfl,by rw[HR.out,← HY.out,H2.out];simp[*,← HZ.out],by (repeat (first|exact xE0 _|assumption|refine xE1 ?_ _|refine xE2 ?_|refine xE3 ?_ _|refine xE4 ?_ (by assumption)))⟩
      | false =>
       (have o1:=HO1.out;obtain⟨a0,a1,a2,a3,a4⟩:=κ5 o1;clear o1)
       go_upto_region 7 with fail
       go_cut [41] (fun v wx=>v=.int .u8 c∧Hid (Ext wc wx))
       case first =>
        go_wp2_with fail
        refine(p_class x _ HOP.out).mono ?_
        rw[HC.out]
        rintro e w5 ⟨rfl,rfl⟩
        go_wp2_with fail
        go_meet
        exact⟨rfl,η (by (repeat (first|exact xE0 _|assumption|refine xE1 ?_ _|refine xE2 ?_|refine xE3 ?_ _|refine xE4 ?_ (by assumption))))⟩
       case rest =>
        obtain⟨rfl,HX⟩:=hcut
        replace HO1:=η (HX.out.obj HO1.out)
        replace HO2:=η (HX.out.obj HO2.out)
        replace HO3:=HO2
        replace HE:=η (HE.out.trans' HX.out)
        clear HX a0 a1 a2 a3 a4
        cases c4 with
        | true =>
         (have o1:=HO1.out;have o2:=HO2.out;have o3:=HO3.out;obtain⟨a0,a1,a2,a3,a4⟩:=κ5 o1;obtain⟨b0,b1,b2,b3,b4,b5⟩:=κ6 o2;have bf:=fun i=>zA (i:=i) o2;obtain⟨q0,q1,q2,q3,q4,q5⟩:=κ6 o3;clear o1 o2 o3)
         go_wp2_with fail
         refine(p_arith x _ HXX.out).mono ?_
         rintro e w5 ⟨y,bb,rfl,hy,hE⟩
         have HY:=η hy
         have HE5:=η (HE.out.trans' hE)
         have O5:=η (hE.obj HO2.out)
         have HSF:=η (set6 O5.out HE5.out (Nat.le_succ _) y.kind y.op y.wide y.reg y.signed y.size)
         clear a0 a1 a2 a3 a4 b0 b1 b2 b3 b4 b5 bf q0 q1 q2 q3 q4 q5 hy hE
         have b0:=cO (i:=0) O5.out
         have b1:=cO (i:=1) O5.out
         have b2:=cO (i:=2) O5.out
         have b3:=cO (i:=3) O5.out
         have b4:=cO (i:=4) O5.out
         have b5:=cO (i:=5) O5.out
         have bf:=fun i=>zA (i:=i) O5.out
         simp only[gA,gB,gC]at b0 b1 b2 b3 b4 b5
         go_wp2_with fail
         all_goals
          (have hsf:=HSF.out;generalize hF:(World.setCell (World.setCell (World.setCell (World.setCell (World.setCell (World.setCell w5 ⟨w.heap.size+1,0,none⟩ (.int .u8 y.kind)) ⟨w.heap.size+1,1,none⟩ (.int .u8 y.op)) ⟨w.heap.size+1,2,none⟩ (.bool y.wide)) ⟨w.heap.size+1,3,none⟩ (.bool y.reg)) ⟨w.heap.size+1,4,none⟩ (.bool y.signed)) ⟨w.heap.size+1,5,none⟩ (.int .i64 y.size))=wF at hsf ⊢;obtain⟨hs,he⟩:=hsf;clear hF;(try simp only[Exit.then]);(repeat (first|go_skip|go_step));obtain⟨r0,r1,r2,r3,r4,r5⟩:=κ6 hs;refine bodyPost_ret (by simp[results,Tryz.results75,go_sem,r0,r1,r2,r3,r4,r5];try rfl) rfl ?_)
          exact⟨y,bb,rfl,by rw[HR.out,← HY.out,H3.out];simp[*,← HZ.out],by (repeat (first|exact xE0 _|assumption|refine xE1 ?_ _|refine xE2 ?_|refine xE3 ?_ _|refine xE4 ?_ (by assumption)))⟩
        | false =>
         cases c7 with
         | true =>
          (have o1:=HO1.out;have o2:=HO2.out;have o3:=HO3.out;obtain⟨a0,a1,a2,a3,a4⟩:=κ5 o1;obtain⟨b0,b1,b2,b3,b4,b5⟩:=κ6 o2;have bf:=fun i=>zA (i:=i) o2;obtain⟨q0,q1,q2,q3,q4,q5⟩:=κ6 o3;clear o1 o2 o3)
          go_wp2_with fail
          refine(p_arith x _ HXX.out).mono ?_
          rintro e w5 ⟨y,bb,rfl,hy,hE⟩
          have HY:=η hy
          have HE5:=η (HE.out.trans' hE)
          have O5:=η (hE.obj HO2.out)
          have HSF:=η (set6 O5.out HE5.out (Nat.le_succ _) y.kind y.op y.wide y.reg y.signed y.size)
          clear a0 a1 a2 a3 a4 b0 b1 b2 b3 b4 b5 bf q0 q1 q2 q3 q4 q5 hy hE
          have b0:=cO (i:=0) O5.out
          have b1:=cO (i:=1) O5.out
          have b2:=cO (i:=2) O5.out
          have b3:=cO (i:=3) O5.out
          have b4:=cO (i:=4) O5.out
          have b5:=cO (i:=5) O5.out
          have bf:=fun i=>zA (i:=i) O5.out
          simp only[gA,gB,gC]at b0 b1 b2 b3 b4 b5
          go_wp2_with fail
          all_goals
           (have hsf:=HSF.out;generalize hF:(World.setCell (World.setCell (World.setCell (World.setCell (World.setCell (World.setCell w5 ⟨w.heap.size+1,0,none⟩ (.int .u8 y.kind)) ⟨w.heap.size+1,1,none⟩ (.int .u8 y.op)) ⟨w.heap.size+1,2,none⟩ (.bool y.wide)) ⟨w.heap.size+1,3,none⟩ (.bool y.reg)) ⟨w.heap.size+1,4,none⟩ (.bool y.signed)) ⟨w.heap.size+1,5,none⟩ (.int .i64 y.size))=wF at hsf ⊢;obtain⟨hs,he⟩:=hsf;clear hF;(try simp only[Exit.then]);(repeat (first|go_skip|go_step));obtain⟨r0,r1,r2,r3,r4,r5⟩:=κ6 hs;refine bodyPost_ret (by simp[results,Tryz.results75,go_sem,r0,r1,r2,r3,r4,r5];try rfl) rfl ?_)
           exact⟨y,bb,rfl,by rw[HR.out,← HY.out,H3.out];simp[*,← HZ.out],by (repeat (first|exact xE0 _|assumption|refine xE1 ?_ _|refine xE2 ?_|refine xE3 ?_ _|refine xE4 ?_ (by assumption)))⟩
         | false =>
          cases c5 with
          | true =>
           (have o1:=HO1.out;have o2:=HO2.out;have o3:=HO3.out;obtain⟨a0,a1,a2,a3,a4⟩:=κ5 o1;obtain⟨b0,b1,b2,b3,b4,b5⟩:=κ6 o2;have bf:=fun i=>zA (i:=i) o2;obtain⟨q0,q1,q2,q3,q4,q5⟩:=κ6 o3;clear o1 o2 o3)
           go_wp2_with fail
           refine(p_jumps x _ HXX.out).mono ?_
           rintro e w5 ⟨y,bb,rfl,hy,hE⟩
           have HY:=η hy
           have HE5:=η (HE.out.trans' hE)
           have O5:=η (hE.obj HO2.out)
           have HSF:=η (set6 O5.out HE5.out (Nat.le_succ _) y.kind y.op y.wide y.reg y.signed y.size)
           clear a0 a1 a2 a3 a4 b0 b1 b2 b3 b4 b5 bf q0 q1 q2 q3 q4 q5 hy hE
           have b0:=cO (i:=0) O5.out
           have b1:=cO (i:=1) O5.out
           have b2:=cO (i:=2) O5.out
           have b3:=cO (i:=3) O5.out
           have b4:=cO (i:=4) O5.out
           have b5:=cO (i:=5) O5.out
           have bf:=fun i=>zA (i:=i) O5.out
           simp only[gA,gB,gC]at b0 b1 b2 b3 b4 b5
           go_wp2_with fail
           all_goals
            (have hsf:=HSF.out;generalize hF:(World.setCell (World.setCell (World.setCell (World.setCell (World.setCell (World.setCell w5 ⟨w.heap.size+1,0,none⟩ (.int .u8 y.kind)) ⟨w.heap.size+1,1,none⟩ (.int .u8 y.op)) ⟨w.heap.size+1,2,none⟩ (.bool y.wide)) ⟨w.heap.size+1,3,none⟩ (.bool y.reg)) ⟨w.heap.size+1,4,none⟩ (.bool y.signed)) ⟨w.heap.size+1,5,none⟩ (.int .i64 y.size))=wF at hsf ⊢;obtain⟨hs,he⟩:=hsf;clear hF;(try simp only[Exit.then]);(repeat (first|go_skip|go_step));obtain⟨r0,r1,r2,r3,r4,r5⟩:=κ6 hs;refine bodyPost_ret (by simp[results,Tryz.results75,go_sem,r0,r1,r2,r3,r4,r5];try rfl) rfl ?_)
            exact⟨y,bb,rfl,by rw[HR.out,← HY.out,H4.out];simp[*,← HZ.out],by (repeat (first|exact xE0 _|assumption|refine xE1 ?_ _|refine xE2 ?_|refine xE3 ?_ _|refine xE4 ?_ (by assumption)))⟩
          | false =>
           cases c6 with
           | true =>
            (have o1:=HO1.out;have o2:=HO2.out;have o3:=HO3.out;obtain⟨a0,a1,a2,a3,a4⟩:=κ5 o1;obtain⟨b0,b1,b2,b3,b4,b5⟩:=κ6 o2;have bf:=fun i=>zA (i:=i) o2;obtain⟨q0,q1,q2,q3,q4,q5⟩:=κ6 o3;clear o1 o2 o3)
            go_wp2_with fail
            refine(p_jumps x _ HXX.out).mono ?_
            rintro e w5 ⟨y,bb,rfl,hy,hE⟩
            have HY:=η hy
            have HE5:=η (HE.out.trans' hE)
            have O5:=η (hE.obj HO2.out)
            have HSF:=η (set6 O5.out HE5.out (Nat.le_succ _) y.kind y.op y.wide y.reg y.signed y.size)
            clear a0 a1 a2 a3 a4 b0 b1 b2 b3 b4 b5 bf q0 q1 q2 q3 q4 q5 hy hE
            have b0:=cO (i:=0) O5.out
            have b1:=cO (i:=1) O5.out
            have b2:=cO (i:=2) O5.out
            have b3:=cO (i:=3) O5.out
            have b4:=cO (i:=4) O5.out
            have b5:=cO (i:=5) O5.out
            have bf:=fun i=>zA (i:=i) O5.out
            simp only[gA,gB,gC]at b0 b1 b2 b3 b4 b5
            go_wp2_with fail
            all_goals
             (have hsf:=HSF.out;generalize hF:(World.setCell (World.setCell (World.setCell (World.setCell (World.setCell (World.setCell w5 ⟨w.heap.size+1,0,none⟩ (.int .u8 y.kind)) ⟨w.heap.size+1,1,none⟩ (.int .u8 y.op)) ⟨w.heap.size+1,2,none⟩ (.bool y.wide)) ⟨w.heap.size+1,3,none⟩ (.bool y.reg)) ⟨w.heap.size+1,4,none⟩ (.bool y.signed)) ⟨w.heap.size+1,5,none⟩ (.int .i64 y.size))=wF at hsf ⊢;obtain⟨hs,he⟩:=hsf;clear hF;(try simp only[Exit.then]);(repeat (first|go_skip|go_step));obtain⟨r0,r1,r2,r3,r4,r5⟩:=κ6 hs;refine bodyPost_ret (by simp[results,Tryz.results75,go_sem,r0,r1,r2,r3,r4,r5];try rfl) rfl ?_)
             exact⟨y,bb,rfl,by rw[HR.out,← HY.out,H4.out];simp[*,← HZ.out],by (repeat (first|exact xE0 _|assumption|refine xE1 ?_ _|refine xE2 ?_|refine xE3 ?_ _|refine xE4 ?_ (by assumption)))⟩
           | false =>
            cases c0 with
            | true =>
             have HSF:=η (set6 HO2.out HE.out (Nat.le_succ _) 0 0 false false false 0)
             (have o1:=HO1.out;have o2:=HO2.out;have o3:=HO3.out;obtain⟨a0,a1,a2,a3,a4⟩:=κ5 o1;obtain⟨b0,b1,b2,b3,b4,b5⟩:=κ6 o2;have bf:=fun i=>zA (i:=i) o2;obtain⟨q0,q1,q2,q3,q4,q5⟩:=κ6 o3;clear o1 o2 o3)
             go_wp2_with fail
             all_goals
              (have hsf:=HSF.out;generalize hF:(World.setCell (World.setCell (World.setCell (World.setCell (World.setCell (World.setCell wc ⟨w.heap.size+1,0,none⟩ (.int .u8 0)) ⟨w.heap.size+1,1,none⟩ (.int .u8 0)) ⟨w.heap.size+1,2,none⟩ (.bool false)) ⟨w.heap.size+1,3,none⟩ (.bool false)) ⟨w.heap.size+1,4,none⟩ (.bool false)) ⟨w.heap.size+1,5,none⟩ (.int .i64 0))=wF at hsf ⊢;obtain⟨hs,he⟩:=hsf;clear hF;(try simp only[Exit.then]);(repeat (first|go_skip|go_step));obtain⟨r0,r1,r2,r3,r4,r5⟩:=κ6 hs;refine bodyPost_ret (by simp[results,Tryz.results75,go_sem,r0,r1,r2,r3,r4,r5];try rfl) rfl ?_)
              exact⟨Wh.zero,false,rfl,by rw[HR.out];simp[*,← HZ.out],by (repeat (first|exact xE0 _|assumption|refine xE1 ?_ _|refine xE2 ?_|refine xE3 ?_ _|refine xE4 ?_ (by assumption)))⟩
            | false =>
             (have o1:=HO1.out;have o2:=HO2.out;have o3:=HO3.out;obtain⟨a0,a1,a2,a3,a4⟩:=κ5 o1;obtain⟨b0,b1,b2,b3,b4,b5⟩:=κ6 o2;have bf:=fun i=>zA (i:=i) o2;obtain⟨q0,q1,q2,q3,q4,q5⟩:=κ6 o3;clear o1 o2 o3)
             go_wp2_with fail
             refine(p_moves x _ HXX.out).mono ?_
             rintro e w5 ⟨y,bb,rfl,hy,hE⟩
             have HY:=η hy
             have HE5:=η (HE.out.trans' hE)
             have O5:=η (hE.obj HO2.out)
             have HSF:=η (set6 O5.out HE5.out (Nat.le_succ _) y.kind y.op y.wide y.reg y.signed y.size)
             clear a0 a1 a2 a3 a4 b0 b1 b2 b3 b4 b5 bf q0 q1 q2 q3 q4 q5 hy hE
             have b0:=cO (i:=0) O5.out
             have b1:=cO (i:=1) O5.out
             have b2:=cO (i:=2) O5.out
             have b3:=cO (i:=3) O5.out
             have b4:=cO (i:=4) O5.out
             have b5:=cO (i:=5) O5.out
             have bf:=fun i=>zA (i:=i) O5.out
             simp only[gA,gB,gC]at b0 b1 b2 b3 b4 b5
             go_wp2_with fail
             all_goals
              (have hsf:=HSF.out;generalize hF:(World.setCell (World.setCell (World.setCell (World.setCell (World.setCell (World.setCell w5 ⟨w.heap.size+1,0,none⟩ (.int .u8 y.kind)) ⟨w.heap.size+1,1,none⟩ (.int .u8 y.op)) ⟨w.heap.size+1,2,none⟩ (.bool y.wide)) ⟨w.heap.size+1,3,none⟩ (.bool y.reg)) ⟨w.heap.size+1,4,none⟩ (.bool y.signed)) ⟨w.heap.size+1,5,none⟩ (.int .i64 y.size))=wF at hsf ⊢;obtain⟨hs,he⟩:=hsf;clear hF;(try simp only[Exit.then]);(repeat (first|go_skip|go_step));obtain⟨r0,r1,r2,r3,r4,r5⟩:=κ6 hs;refine bodyPost_ret (by simp[results,Tryz.results75,go_sem,r0,r1,r2,r3,r4,r5];try rfl) rfl ?_)
              exact⟨y,bb,rfl,by rw[HR.out,← HY.out,H5.out];simp[*,← HZ.out],by (repeat (first|exact xE0 _|assumption|refine xE1 ?_ _|refine xE2 ?_|refine xE3 ?_ _|refine xE4 ?_ (by assumption)))⟩
set_option maxRecDepth 20000 in
set_option maxHeartbeats 4000000 in
theorem p_What (x:Ins)(w:World)(hx:x.Ok):Calls Tryz.prog 41 #[x.agg] w (WhatA x w):=by
 have HXX:=η hx
 go_enter Tryz.func41,Tryz.ntmps41
 go_upto_region 1 with fail
 go_cut [4,5] (fun v4 v5 wx=>∃ q y bb,v4=.pointer (some ⟨q,0,none⟩)∧v5=.bool bb∧Hid (xH x=if bb then some y else none)∧Hid (Ext w wx∧wx.heap[w.heap.size]?=some (zQ x)∧wx.heap[w.heap.size+1]?=some (zF Wh.zero)∧wx.heap[q]?=some (zF y)∧w.heap.size+1 < q))
 case first =>
  go_wp2_with fail
  refine(p_what x _ HXX.out).mono ?_
  rintro e w5 ⟨y,bb,rfl,hy,hE⟩
  have HY:=η hy
  have HE5:=η hE
  clear hy hE
  go_wp2_with fail
  go_meet
  refine⟨_,y,bb,rfl,rfl,HY,η ⟨?_,?_,?_,?_,?_⟩⟩
  ·refine Ext.alloc' ?_ _
   refine Ext.trans' ?_ HE5.out
   (repeat (first|exact xE0 _|assumption|refine xE1 ?_ _|refine xE2 ?_|refine xE3 ?_ _|refine xE4 ?_ (by assumption)))
  ·refine zB _ (HE5.out.obj ?_)
   (repeat (first|(refine zD _ _ ?_;simp;done)|refine zB _ ?_))
  ·refine zB _ (HE5.out.obj ?_)
   (repeat (first|(refine zD _ _ ?_;simp;done)|refine zB _ ?_))
  ·(repeat (first|(refine zD _ _ ?_;simp;done)|refine zB _ ?_))
  ·have:=HE5.out.size
   simp at this
   omega
 case rest =>
  obtain⟨q,y,bb,rfl,rfl,HY,HW⟩:=hcut
  have HO1:=η HW.out.2.1
  have HO2:=η HW.out.2.2.1
  have HO3:=η HW.out.2.2.2.1
  have HE:=η HW.out.1
  clear HW
  (have o1:=HO1.out;have o2:=HO2.out;have o3:=HO3.out;obtain⟨a0,a1,a2,a3,a4⟩:=κ5 o1;obtain⟨b0,b1,b2,b3,b4,b5⟩:=κ6 o2;have bf:=fun i=>zA (i:=i) o2;obtain⟨q0,q1,q2,q3,q4,q5⟩:=κ6 o3;clear o1 o2 o3)
  cases bb with
  | true =>
   have HSF:=η (set6 HO2.out HE.out (Nat.le_succ _) y.kind y.op y.wide y.reg y.signed y.size)
   go_wp2_with fail
   all_goals
    (have hsf:=HSF.out;generalize hF:(World.setCell (World.setCell (World.setCell (World.setCell (World.setCell (World.setCell wc ⟨w.heap.size+1,0,none⟩ (.int .u8 y.kind)) ⟨w.heap.size+1,1,none⟩ (.int .u8 y.op)) ⟨w.heap.size+1,2,none⟩ (.bool y.wide)) ⟨w.heap.size+1,3,none⟩ (.bool y.reg)) ⟨w.heap.size+1,4,none⟩ (.bool y.signed)) ⟨w.heap.size+1,5,none⟩ (.int .i64 y.size))=wF at hsf ⊢;obtain⟨hs,he⟩:=hsf;clear hF;(try simp only[Exit.then]);(repeat (first|go_skip|go_step));obtain⟨r0,r1,r2,r3,r4,r5⟩:=κ6 hs;refine bodyPost_ret (by simp[results,Tryz.results41,go_sem,r0,r1,r2,r3,r4,r5];try rfl) rfl ?_)
    exact⟨by rw[HY.out];rfl,by (repeat (first|exact xE0 _|assumption|refine xE1 ?_ _|refine xE2 ?_|refine xE3 ?_ _|refine xE4 ?_ (by assumption)))⟩
  | false =>
   have HSF:=η (set6 HO2.out HE.out (Nat.le_succ _) 0 0 false false false 0)
   go_wp2_with fail
   all_goals
    (have hsf:=HSF.out;generalize hF:(World.setCell (World.setCell (World.setCell (World.setCell (World.setCell (World.setCell wc ⟨w.heap.size+1,0,none⟩ (.int .u8 0)) ⟨w.heap.size+1,1,none⟩ (.int .u8 0)) ⟨w.heap.size+1,2,none⟩ (.bool false)) ⟨w.heap.size+1,3,none⟩ (.bool false)) ⟨w.heap.size+1,4,none⟩ (.bool false)) ⟨w.heap.size+1,5,none⟩ (.int .i64 0))=wF at hsf ⊢;obtain⟨hs,he⟩:=hsf;clear hF;(try simp only[Exit.then]);(repeat (first|go_skip|go_step));obtain⟨r0,r1,r2,r3,r4,r5⟩:=κ6 hs;refine bodyPost_ret (by simp[results,Tryz.results41,go_sem,r0,r1,r2,r3,r4,r5];try rfl) rfl ?_)
    exact⟨by rw[HY.out];rfl,by (repeat (first|exact xE0 _|assumption|refine xE1 ?_ _|refine xE2 ?_|refine xE3 ?_ _|refine xE4 ?_ (by assumption)))⟩
theorem Rd.elt_add' {α:Type}{w:World}{sz:Nat}{enc:α→List Value}{v:Value}{xs:List α}(h:Rd w sz enc v xs){i:Nat}{x:α}(hx:xs[i]?=some x)(k j:Nat):(elt v k).add j=elt v (k+j):=by
 obtain⟨a,c,rfl,h2,h3,h4,h5⟩:=h
 cases a with
 | none=>rw[(h4 rfl).1]at hx;simp at hx
 | some a=>simp only[elt,Addr.add_add]
theorem yQ {w:World}{v:Value}{L:List Ins}(R:Rd w 5 Ins.enc v L){i:Nat}{x:Ins}(hx:L[i]?=some x):
  w.cell? (elt v (i * 5))=some (.int .u8 x.op)∧w.cell? ⟨(elt v (i * 5)).block,(elt v (i * 5)).off+1,none⟩=some (.int .u8 x.dst)∧w.cell? ⟨(elt v (i * 5)).block,(elt v (i * 5)).off+2,none⟩=some (.int .u8 x.src)∧w.cell? ⟨(elt v (i * 5)).block,(elt v (i * 5)).off+3,none⟩=some (.int .i16 x.off)∧w.cell? ⟨(elt v (i * 5)).block,(elt v (i * 5)).off+4,none⟩=some (.int .i32 x.imm):=by
 have E:=R.elt_add' hx
 have F:∀ (p:Addr) (j:Nat),j≠0→(⟨p.block,p.off+j,none⟩:Addr)=p.add j:=fun p j h=>by simp[Addr.add,h]
 rw[F _ 1 (by decide),F _ 2 (by decide),F _ 3 (by decide),F _ 4 (by decide),E,E,E,E]
 exact⟨R.cell hx (j:=0) rfl,R.cell hx (j:=1) rfl,R.cell hx (j:=2) rfl,R.cell hx (j:=3) rfl,R.cell hx (j:=4) rfl⟩
theorem p_wideI (x:Ins)(w:World):Calls Tryz.prog 98 #[x.agg] w fun e w'=>e=.returned (.bool (x.op == 24))∧w'=w.alloc (.cells #[.int .u8 x.op,.int .u8 x.dst,.int .u8 x.src,.int .i16 x.off,.int .i32 x.imm] 58):=by
 go_enter Tryz.func98,Tryz.ntmps98
 go_wp2_with fail
 go_returns
 exact⟨rfl,rfl⟩
def zT (x:Ins)(k:Nat):Nat:=if x.op=24 then k+2 else k+1
set_option maxHeartbeats 1000000 in
theorem p_Next (v:Value)(L:List Ins)(k:Nat)(x:Ins)(w:World)(h:Rd w 5 Ins.enc v L)(hl:L.length≤1000000)(hx:L[k]?=some x):Calls Tryz.prog 59 #[v,.int .i64 k] w fun e w'=>e=.returned (.int .i64 (zT x k))∧Ext w w':=by
 obtain⟨a,n,c,rfl,hn,hN⟩:=h.val
 have hk:k < n:=by rw[hN.out];exact(List.getElem?_eq_some_iff.1 hx).1
 have hk2:n≤1000000:=by rw[hN.out];exact hl
 obtain⟨c0,c1,c2,c3,c4⟩:=yQ h hx
 have ix:=fun W=>h.run_at (P:=Tryz.prog) el_ins.under el_ins.size .i64 (k:Int) (by omega) (by omega) W
 simp only[Int.toNat_natCast]at ix
 obtain⟨z,hz⟩:∃ z,(x.op == 24)=z:=⟨_,rfl⟩
 have hn2:zT x k=if z=true then k+2 else k+1:=by unfold zT;simp[← hz]
 rw[hn2]
 have HZ:=η hz
 clear h hx hz hn2
 have w1:wrap64 ((k:Int)+1)=k+1:=by unfold wrap64;omega
 have w2:wrap64 ((k:Int)+2)=k+2:=by unfold wrap64;omega
 go_enter Tryz.func59,Tryz.ntmps59
 go_wp2_with fail
 refine(p_wideI x _).mono ?_
 rw[HZ.out]
 rintro e w5 ⟨rfl,rfl⟩
 cases z
 all_goals
  go_wp2_with fail
  go_returns
  exact⟨by simp<;>rfl,by (repeat (first|exact xE0 _|assumption|refine xE1 ?_ _|refine xE2 ?_|refine xE3 ?_ _|refine xE4 ?_ (by assumption)))⟩
def stF:Bool→List Ins→List Bool
 | _,[]=>[]
 | true,_ :: xs=>false :: stF false xs
 | false,x :: xs=>true :: stF (x.op == 24) xs
theorem xP:∀ (b:Bool) (L:List Ins),(stF b L).length=L.length
 | true,[]=>rfl
 | false,[]=>rfl
 | true,_ :: xs=>by simp[stF,xP false xs]
 | false,x :: xs=>by simp[stF,xP _ xs]
def stD (L:List Ins)(k:Nat):Prop:=(stF false L).drop k=stF false (L.drop k)
theorem drop_cons {α:Type}{L:List α}{k:Nat}{x:α}(hx:L[k]?=some x):L.drop k=x :: L.drop (k+1):=by
 obtain⟨h,rfl⟩:=List.getElem?_eq_some_iff.1 hx
 exact List.drop_eq_getElem_cons h
theorem uC {L:List Ins}{k:Nat}{x:Ins}(hD:stD L k)(hx:L[k]?=some x):
  (stF false L)[k]?=some true∧stD L (zT x k)∧(x.op=24→k+1 < L.length→(stF false L)[k+1]?=some false):=by
 unfold stD at *
 rw[drop_cons hx]at hD
 simp only[stF]at hD
 have h0:(stF false L)[k]?=some true:=by
  have:=congrArg (fun l=>l[0]?) hD
  simpa using this
 have h1:(stF false L).drop (k+1)=stF (x.op == 24) (L.drop (k+1)):=by
  have:=congrArg (List.drop 1) hD
  simpa[Nat.add_comm]using this
 refine⟨h0,?_,fun hop hk=>?_⟩
 ·unfold zT
  by_cases hop:x.op=24
  ·rw[if_pos hop]
   have e:(x.op == 24)=true:=by simpa using hop
   rw[e]at h1
   cases hr:L.drop (k+1) with
   | nil =>
    have hl:L.length≤k+1:=by simpa using hr
    rw[List.drop_eq_nil_of_le (by rw[xP];omega),List.drop_eq_nil_of_le (by omega)]
    rfl
   | cons y ys =>
    rw[hr]at h1
    have h2:L.drop (k+2)=ys:=by
     have:=congrArg (List.drop 1) hr
     rw[List.drop_drop]at this
     exact this
    have h3:=congrArg (List.drop 1) h1
    rw[h2]
    rw[List.drop_drop]at h3
    exact h3
  ·rw[if_neg hop]
   have e:(x.op == 24)=false:=by simpa using hop
   rw[e]at h1
   exact h1
 ·have e:(x.op == 24)=true:=by simpa using hop
  rw[e]at h1
  obtain⟨y,hy⟩:=zK hk
  rw[drop_cons hy]at h1
  have:=congrArg (fun l=>l[0]?) h1
  simpa[stF]using this
theorem tC (n:Nat)(hn:n≤1000000)(u:World):(Instr.makeSlice 54 (.int .i64 (n:Int)) (.int .i64 (n:Int))).run Tryz.prog u=.ok (.slice (some ⟨u.heap.size,0,none⟩) n n) (u.alloc (.cells (madeCells #[.bool false] n) 4)):=by
 obtain⟨i0,hi0,hz0,hz1,hz2⟩:=info_parts el_bool.info
 have h:=run_make (P:=Tryz.prog) u 54 4 i0 (.bool false) el_bool.under hi0 hz0 .i64 .i64 (n:Int) (n:Int) (by omega) (Int.le_refl _) (by rw[hz2];omega) (by omega)
 simpa[hz1,Value.cells]using h
theorem tB (u:World)(n:Nat)(hn:n≤1000000)(base:Nat)(hle:base≤u.heap.size):Own (u.alloc (.cells (madeCells #[.bool false] n) 4)) base 4 1 (fun x=>[Value.bool x]) (.slice (some ⟨u.heap.size,0,none⟩) n n) (List.replicate n false):=by
 have e:(madeCells #[.bool false] n:Array Value)=((List.replicate n false).flatMap fun x=>[Value.bool x]).toArray:=by
  apply Array.toList_inj.1
  rw[toList_madeCells_one,qJ,List.map_replicate]
 rw[e]
 exact Own.lit xU _ rfl (by simp) hle (by simp[maxLen];omega)
def StAns (L:List Ins)(w:World)(e:Ending)(w':World):Prop:=∃ s,e=.returned s∧Own w' w.heap.size 4 1 (fun x=>[Value.bool x]) s (stF false L)∧Ext w w'
set_option maxHeartbeats 1000000 in
theorem p_Starts (v:Value)(L:List Ins)(w:World)(h:Rd w 5 Ins.enc v L)(hl:L.length≤1000000):Calls Tryz.prog 68 #[v] w (StAns L w):=by
 obtain⟨a,n,c,rfl,hn,hN⟩:=h.val
 have hk2:n≤1000000:=by rw[hN.out];exact hl
 have HL:=η hl
 have HD:=η h
 have hmk:=tC n hk2
 clear h
 go_enter Tryz.func68,Tryz.ntmps68
 go_upto_region 1 with fail
 go_cut [3] (fun v3 wx=>Hid (Own wx w.heap.size 4 1 (fun x=>[Value.bool x]) v3 (List.replicate n false))∧Ext w wx)
 case first =>
  go_wp2_with fail
  go_meet
  exact⟨η (tB _ _ hk2 _ (Nat.le_refl _)),by (repeat (first|exact xE0 _|assumption|refine xE1 ?_ _|refine xE2 ?_|refine xE3 ?_ _|refine xE4 ?_ (by assumption)))⟩
 case rest =>
  obtain⟨HO,hE⟩:=hcut
  obtain⟨a3,n3,c3,rfl,hn3,hN3⟩:=(HO.out.rd xU).val
  obtain rfl:n3=n:=by have:=hN3.out;simpa using this
  clear hmk
  go_wp2_with fail
  go_loopw [4] (fun i wr=>∃ k:Nat,i=.int .i64 k∧k≤n3+1∧Ext w wr∧Hid (stD L k)∧Hid (∃ T:List Bool,T.length=n3∧Own wr w.heap.size 4 1 (fun x=>[Value.bool x]) (.slice a3 n3 c3) T∧(∀ i,i < k→T[i]?=(stF false L)[i]?)∧(∀ i,k≤i→i < n3→T[i]?=some false))) (fun i _=>n3+2 - (intOf i).toNat)
  case atStart=>exact⟨0,rfl,by omega,hE,η rfl,η ⟨List.replicate n3 false,by simp,HO.out,fun i hi=>absurd hi (Nat.not_lt_zero _),fun i _ hi=>by simp[hi]⟩⟩
  case round =>
   obtain⟨k,rfl,hk,hwr,HSD,HT⟩:=hrel
   obtain⟨T,hT,hO,hT1,hT2⟩:=HT.out
   have HT1:=η hT1
   have HT2:=η hT2
   have HTL:=η hT
   clear hT hT1 hT2 HT
   by_cases hlt:(k:Int) < n3
   ·obtain⟨x,hx⟩:=zK (xs:=L) (k:=k) (by have:=hN.out;omega)
    obtain⟨y,hy⟩:=zK (xs:=T) (k:=k) (by have:=HTL.out;omega)
    have ix:=fun W=>(hO.rd xU).run_at (P:=Tryz.prog) el_bool.under el_bool.size .i64 (k:Int) (by omega) (by omega) W
    simp only[Nat.mul_one,Int.toNat_natCast]at ix
    obtain⟨e1,e2,e3,e4,e5⟩:=hO.at hy
    have HX:=η hx
    have HO5:=η (e5 true)
    clear hx hy e5 hO e3
    go_wp2_with fail
    have hE2:Ext w _:=HO5.out.2 _ _ hwr (Nat.le_refl _)
    refine(p_Next _ L k x _ (HD.out.ext hE2) HL.out HX.out).mono ?_
    rintro e w5 ⟨rfl,hE5⟩
    have HE5:=η hE5
    clear hE5
    go_wp2_with fail
    go_roundw
    case rel =>
     obtain⟨q1,q2,q3⟩:=uC HSD.out HX.out
     have hkn:k < n3:=by omega
     refine⟨zT x k,rfl,by unfold zT;split<;>omega,hE2.trans' HE5.out,η q2,η ⟨T.set k true,by simpa using HTL.out,HO5.out.1.ext HE5.out,fun i hi=>?_,fun i hi hi2=>?_⟩⟩
     ·by_cases h1:i=k
      ·subst h1
       rw[q1,List.getElem?_set_self (by have:=HTL.out;omega)]
      ·rw[List.getElem?_set_ne (Ne.symm h1)]
       by_cases h2:i < k
       ·exact HT1.out i h2
       ·have h3:x.op=24∧i=k+1:=by
         unfold zT at hi
         split at hi
         ·rename_i hop;exact⟨hop,by omega⟩
         ·omega
        obtain⟨hop,rfl⟩:=h3
        by_cases h4:k+1 < n3
        ·rw[HT2.out _ (by omega) h4,q3 hop (by have:=hN.out;omega)]
        ·rw[List.getElem?_eq_none (by have:=HTL.out;omega),List.getElem?_eq_none (by rw[xP];have:=hN.out;omega)]
     ·have:k < zT x k:=by unfold zT;split<;>omega
      rw[List.getElem?_set_ne (by omega)]
      exact HT2.out i (by omega) hi2
    case measure =>
     have:k < zT x k:=by unfold zT;split<;>omega
     simp[intOf]
     omega
   ·have hT:T=stF false L:=by
     apply List.ext_getElem?
     intro i
     by_cases h1:i < k
     ·exact HT1.out i h1
     ·rw[List.getElem?_eq_none (by have:=HTL.out;omega),List.getElem?_eq_none (by rw[xP];have:=hN.out;omega)]
    subst hT
    have HO:=η hO
    clear hO
    go_wp2_with fail
    go_returns
    exact⟨_,rfl,HO.out,hwr⟩
end Go.Proofs.YtppefchjoodgnaaGreat
