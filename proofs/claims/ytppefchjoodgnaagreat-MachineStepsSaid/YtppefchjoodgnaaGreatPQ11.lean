import Derived.Test.YtppefchjoodgnaaGreatPQ09
import Derived.BigRegion
import Derived.Deep.RegionHeld3
import Derived.Test.YtppefchjoodgnaaGreatPQ10
set_option linter.unusedSimpArgs false
set_option linter.unusedVariables false
namespace Go.Proofs.YtppefchjoodgnaaGreat
open Go.RowKit
def g9 (h:Int):Bool:=h == 0 || (h == 16 || (h == 32 || (h == 64 || (h == 80 || (h == 160 || (h == 96 || (h == 112 || h == 192)))))))
def g2 (h:Int):Bool:=h == 48 || h == 144
def pA (x:Ins)(h:Int)(wd rg:Bool):Option Wh :=
 if g9 h=true then (if x.off=0 then some ⟨1,h,wd,rg,false,0⟩ else none)
 else if g2 h=true then (if x.off=0∨x.off=1 then some ⟨1,h,wd,rg,false,0⟩ else none)
 else if h=128 then (if rg=false∧yN x true true true=true then some ⟨1,h,wd,rg,false,0⟩ else none)
 else if h=176 then (if x.off=0∨(rg=true∧(x.off=8∨x.off=16∨(x.off=32∧wd=true))) then some ⟨1,h,wd,rg,false,0⟩ else none)
 else none
theorem arith_ok (x:Ins)(h:Int)(wd rg ok:Bool)(hok:ok=((x.dst != 10) && yN x (!rg) false rg)):xD x h wd rg=if ok=true then pA x h wd rg else none:=by
 unfold xD pA g9 g2
 simp only[Bool.or_eq_true,beq_iff_eq]
 subst hok
 by_cases h1:x.dst=10
 ·rw[if_pos h1];simp[h1]
 ·rw[if_neg h1]
  cases h2:yN x (!rg) false rg<;>simp[h1]
theorem arith_mv (x:Ins)(wd:Bool):(x.off == 8 || (x.off == 16 || (x.off == 32 && wd)))=true ↔ (x.off=8∨x.off=16∨(x.off=32∧wd=true)):=by
 simp only[Bool.or_eq_true,Bool.and_eq_true,beq_iff_eq]
set_option maxRecDepth 20000 in
set_option maxHeartbeats 4000000 in
theorem p_arith (x:Ins)(w:World)(hx:x.Ok):Calls Tryz.prog 117 #[x.agg] w (WhA (xD x (x.op / 16 * 16) (x.op%8 == 7) (x.op / 8%2 == 1)) w):=by
 have e1:bits .and .u8 x.op 240=x.op / 16 * 16:=xL (fun x=>bits .and .u8 x 240=x / 16 * 16) (by decide +kernel) x.op hx.op
 have e2:bits .and .u8 x.op 8=x.op / 8%2 * 8:=xL (fun x=>bits .and .u8 x 8=x / 8%2 * 8) (by decide +kernel) x.op hx.op
 have e3:(x.op / 8%2 * 8 != 0)=(x.op / 8%2 == 1):=xL (fun x=>(x / 8%2 * 8 != 0)=(x / 8%2 == 1)) (by decide +kernel) x.op hx.op
 have HOP:=η hx.op
 obtain⟨h,hh⟩:∃ h,x.op / 16 * 16=h:=⟨_,rfl⟩
 obtain⟨r,hr⟩:∃ r,x.op / 8%2 * 8=r:=⟨_,rfl⟩
 obtain⟨rg,hrg⟩:∃ rg,(x.op / 8%2 == 1)=rg:=⟨_,rfl⟩
 obtain⟨c,hc⟩:∃ c,x.op%8=c:=⟨_,rfl⟩
 obtain⟨wd,hwd⟩:∃ wd,(c == 7)=wd:=⟨_,rfl⟩
 have HC:=η hc
 rw[hh]at e1
 rw[hr]at e2
 rw[hr,hrg]at e3
 rw[hh,hrg,hc,hwd]
 have h16:h=0∨h=16∨h=32∨h=48∨h=64∨h=80∨h=96∨h=112∨h=128∨h=144∨h=160∨h=176∨h=192∨h=208∨h=224∨h=240:=by have:=hx.op;omega
 have H16:=η h16
 clear hh hr hrg hc h16
 go_enter Tryz.func117,Tryz.ntmps117
 go_wp2_with fail
 go_cut [4] (fun v wx=>∃ q,v=.pointer (some ⟨q,0,none⟩)∧Hid (Ext w wx∧wx.heap[w.heap.size]?=some (zQ x)∧wx.heap[w.heap.size+1]?=some (zF Wh.zero)∧wx.heap[q]?=some (zF ⟨1,h,wd,rg,false,0⟩)∧w.heap.size+1 < q))
 case first =>
  go_region_held3 (fun w'=>w'.cell? ⟨w.heap.size,0,none⟩=some (.int .u8 x.op)∧w'.cell? ⟨w.heap.size,1,none⟩=some (.int .u8 x.dst)∧w'.cell? ⟨w.heap.size,2,none⟩=some (.int .u8 x.src)∧w'.cell? ⟨w.heap.size,3,none⟩=some (.int .i16 x.off)∧w'.cell? ⟨w.heap.size,4,none⟩=some (.int .i32 x.imm))
   (go_keep)
   ((go_at_call 116;refine(p_class x _ HOP.out).mono ?_;rw[HC.out];rintro e w5 ⟨rfl,rfl⟩))
  all_goals
   go_wp2_with fail
   go_meet
   refine⟨_,rfl,η ⟨by (repeat (first|exact xE0 _|assumption|refine xE1 ?_ _|refine xE2 ?_|refine xE3 ?_ _|refine xE4 ?_ (by assumption))),?_,?_,?_,?_⟩⟩
   ·(repeat (first|(refine zD _ _ ?_;simp;done)|refine zB _ ?_))
   ·(repeat (first|(refine zD _ _ ?_;simp;done)|refine zB _ ?_))
   ·(repeat (first|(refine zD _ _ ?_;simp;done)|refine zB _ ?_))
   ·omega
 case rest =>
  obtain⟨q,rfl,HW⟩:=hcut
  go_upto_region 2 with fail
  go_cut [5] (fun v wx=>∃ ok:Bool,v=.bool ok∧Hid (Ext wc wx∧ok=((x.dst != 10) && yN x (!rg) false rg)))
  case first =>
   obtain⟨hE,o1,o2,o3,hq⟩:=HW.out
   have l0:=zE o1
   obtain⟨a0,a1,a2,a3,a4⟩:=κ5 o1;have q3:=cO (i:=3) o3;simp only[gA,gB,gC]at q3
   clear o1 o2 o3 hE
   by_cases hd:x.dst=10
   ·have d10:(x.dst != 10)=false:=by simpa using hd
    clear hd
    go_wp2_with fail
    go_meet
    exact⟨false,rfl,η ⟨Ext.rfl' _,by rw[d10];rfl⟩⟩
   ·have d10:(x.dst != 10)=true:=by simpa using hd
    clear hd
    go_wp2_with fail
    refine(p_zeros x (!rg) false rg _).mono ?_
    rintro e w5 ⟨rfl,rfl⟩
    go_wp2_with fail
    go_meet
    exact⟨_,rfl,η ⟨by (repeat (first|exact xE0 _|assumption|refine xE1 ?_ _|refine xE2 ?_|refine xE3 ?_ _|refine xE4 ?_ (by assumption))),by rw[d10,Bool.true_and]⟩⟩
  case rest =>
   obtain⟨ok,rfl,HOK⟩:=hcut
   obtain⟨hE,o1,o2,o3,hq⟩:=HW.out
   replace o1:=HOK.out.1.obj o1
   replace o2:=HOK.out.1.obj o2
   replace o3:=HOK.out.1.obj o3
   have HE:=η (hE.trans' HOK.out.1)
   have HAR:=η (arith_ok x h wd rg ok HOK.out.2)
   have HO1:=η o1
   have HO2:=η o2
   have HO3:=η o3
   have HSF:=η (set6 o2 HE.out (Nat.le_succ _) 1 h wd rg false 0)
   have q1:=cO (i:=1) o3
   simp only[gA,gB,gC]at q1
   clear o1 o2 o3 hE HOK hq
   go_upto_if 32 with fail
   go_cut [32] (fun v wx=>v=.bool (g9 h)∧wx=wc)
   case first =>
    go_wp2_with fail
    all_goals
     go_meet
     exact⟨by simp only[g9, *,Bool.or_false,Bool.false_or,Bool.true_or,Bool.or_true],rfl⟩
   case rest =>
    obtain⟨rfl,rfl⟩:=hcut
    clear q1
    obtain⟨z,hz⟩:∃ z,(x.off == 0)=z:=⟨_,rfl⟩
    cases hg:g9 h with
    | true =>
     have HG:=η hg
     clear hg
     (have o1:=HO1.out;have o2:=HO2.out;have o3:=HO3.out;obtain⟨a0,a1,a2,a3,a4⟩:=κ5 o1;obtain⟨b0,b1,b2,b3,b4,b5⟩:=κ6 o2;have bf:=fun i=>zA (i:=i) o2;obtain⟨q0,q1,q2,q3,q4,q5⟩:=κ6 o3;clear o1 o2 o3)
     cases ok with
     | false =>
      have HA:Hid (xD x h wd rg=none):=η (by rw[HAR.out];rfl)
      go_wp2_with fail
      go_region
      all_goals
       (have hsf:=HSF.out;generalize hF:(World.setCell (World.setCell (World.setCell (World.setCell (World.setCell (World.setCell wc ⟨w.heap.size+1,0,none⟩ (.int .u8 1)) ⟨w.heap.size+1,1,none⟩ (.int .u8 h)) ⟨w.heap.size+1,2,none⟩ (.bool wd)) ⟨w.heap.size+1,3,none⟩ (.bool rg)) ⟨w.heap.size+1,4,none⟩ (.bool false)) ⟨w.heap.size+1,5,none⟩ (.int .i64 0))=wF at hsf ⊢;obtain⟨hs,he⟩:=hsf;clear hF;(try simp only[Exit.then]);(repeat (first|go_skip|go_step));obtain⟨r0,r1,r2,r3,r4,r5⟩:=κ6 hs;refine bodyPost_ret (by simp[results,Tryz.results117,go_sem,r0,r1,r2,r3,r4,r5];try rfl) rfl ?_)
       exact⟨⟨1,h,wd,rg,false,0⟩,false,rfl,HA.out,by (repeat (first|exact xE0 _|assumption|refine xE1 ?_ _|refine xE2 ?_|refine xE3 ?_ _|refine xE4 ?_ (by assumption)))⟩
     | true =>
      have HA:Hid (xD x h wd rg=if z then some ⟨1,h,wd,rg,false,0⟩ else none):=η (by rw[HAR.out,if_pos rfl,pA,if_pos HG.out,← hz];simp only[beq_iff_eq])
      go_wp2_with fail
      go_region
      all_goals
       (have hsf:=HSF.out;generalize hF:(World.setCell (World.setCell (World.setCell (World.setCell (World.setCell (World.setCell wc ⟨w.heap.size+1,0,none⟩ (.int .u8 1)) ⟨w.heap.size+1,1,none⟩ (.int .u8 h)) ⟨w.heap.size+1,2,none⟩ (.bool wd)) ⟨w.heap.size+1,3,none⟩ (.bool rg)) ⟨w.heap.size+1,4,none⟩ (.bool false)) ⟨w.heap.size+1,5,none⟩ (.int .i64 0))=wF at hsf ⊢;obtain⟨hs,he⟩:=hsf;clear hF;(try simp only[Exit.then]);(repeat (first|go_skip|go_step));obtain⟨r0,r1,r2,r3,r4,r5⟩:=κ6 hs;refine bodyPost_ret (by simp[results,Tryz.results117,go_sem,r0,r1,r2,r3,r4,r5];try rfl) rfl ?_)
       exact⟨⟨1,h,wd,rg,false,0⟩,z,rfl,HA.out,by (repeat (first|exact xE0 _|assumption|refine xE1 ?_ _|refine xE2 ?_|refine xE3 ?_ _|refine xE4 ?_ (by assumption)))⟩
    | false =>
     have HG:=η hg
     clear hg
     have q1:=cO (i:=1) HO3.out
     simp only[gA,gB,gC]at q1
     go_upto_if 49 with fail
     go_cut [49] (fun v wx=>v=.bool (g2 h)∧wx=wc)
     case first =>
      go_wp2_with fail
      all_goals
       go_meet
       exact⟨by simp only[g2, *,Bool.or_false,Bool.false_or,Bool.true_or,Bool.or_true],rfl⟩
     case rest =>
      obtain⟨rfl,rfl⟩:=hcut
      cases hg:g2 h with
      | true =>
       have HG2:=η hg
       clear hg q1
       (have o1:=HO1.out;have o2:=HO2.out;have o3:=HO3.out;obtain⟨a0,a1,a2,a3,a4⟩:=κ5 o1;obtain⟨b0,b1,b2,b3,b4,b5⟩:=κ6 o2;have bf:=fun i=>zA (i:=i) o2;obtain⟨q0,q1,q2,q3,q4,q5⟩:=κ6 o3;clear o1 o2 o3)
       obtain⟨z1,hz1⟩:∃ z,(x.off == 1)=z:=⟨_,rfl⟩
       cases ok with
       | false =>
        have HA:Hid (xD x h wd rg=none):=η (by rw[HAR.out];rfl)
        go_wp2_with fail
        go_region
        all_goals
         (have hsf:=HSF.out;generalize hF:(World.setCell (World.setCell (World.setCell (World.setCell (World.setCell (World.setCell wc ⟨w.heap.size+1,0,none⟩ (.int .u8 1)) ⟨w.heap.size+1,1,none⟩ (.int .u8 h)) ⟨w.heap.size+1,2,none⟩ (.bool wd)) ⟨w.heap.size+1,3,none⟩ (.bool rg)) ⟨w.heap.size+1,4,none⟩ (.bool false)) ⟨w.heap.size+1,5,none⟩ (.int .i64 0))=wF at hsf ⊢;obtain⟨hs,he⟩:=hsf;clear hF;(try simp only[Exit.then]);(repeat (first|go_skip|go_step));obtain⟨r0,r1,r2,r3,r4,r5⟩:=κ6 hs;refine bodyPost_ret (by simp[results,Tryz.results117,go_sem,r0,r1,r2,r3,r4,r5];try rfl) rfl ?_)
         exact⟨⟨1,h,wd,rg,false,0⟩,false,rfl,HA.out,by (repeat (first|exact xE0 _|assumption|refine xE1 ?_ _|refine xE2 ?_|refine xE3 ?_ _|refine xE4 ?_ (by assumption)))⟩
       | true =>
        have HA:Hid (xD x h wd rg=if (z || z1) then some ⟨1,h,wd,rg,false,0⟩ else none):=η (by rw[HAR.out,if_pos rfl,pA,if_neg (by rw[HG.out];decide),if_pos HG2.out,← hz,← hz1];simp only[Bool.or_eq_true,beq_iff_eq])
        cases z
        ·go_wp2_with fail
         go_region
         all_goals
          (have hsf:=HSF.out;generalize hF:(World.setCell (World.setCell (World.setCell (World.setCell (World.setCell (World.setCell wc ⟨w.heap.size+1,0,none⟩ (.int .u8 1)) ⟨w.heap.size+1,1,none⟩ (.int .u8 h)) ⟨w.heap.size+1,2,none⟩ (.bool wd)) ⟨w.heap.size+1,3,none⟩ (.bool rg)) ⟨w.heap.size+1,4,none⟩ (.bool false)) ⟨w.heap.size+1,5,none⟩ (.int .i64 0))=wF at hsf ⊢;obtain⟨hs,he⟩:=hsf;clear hF;(try simp only[Exit.then]);(repeat (first|go_skip|go_step));obtain⟨r0,r1,r2,r3,r4,r5⟩:=κ6 hs;refine bodyPost_ret (by simp[results,Tryz.results117,go_sem,r0,r1,r2,r3,r4,r5];try rfl) rfl ?_)
          exact⟨⟨1,h,wd,rg,false,0⟩,_,rfl,HA.out,by (repeat (first|exact xE0 _|assumption|refine xE1 ?_ _|refine xE2 ?_|refine xE3 ?_ _|refine xE4 ?_ (by assumption)))⟩
        ·go_wp2_with fail
         go_region
         all_goals
          (have hsf:=HSF.out;generalize hF:(World.setCell (World.setCell (World.setCell (World.setCell (World.setCell (World.setCell wc ⟨w.heap.size+1,0,none⟩ (.int .u8 1)) ⟨w.heap.size+1,1,none⟩ (.int .u8 h)) ⟨w.heap.size+1,2,none⟩ (.bool wd)) ⟨w.heap.size+1,3,none⟩ (.bool rg)) ⟨w.heap.size+1,4,none⟩ (.bool false)) ⟨w.heap.size+1,5,none⟩ (.int .i64 0))=wF at hsf ⊢;obtain⟨hs,he⟩:=hsf;clear hF;(try simp only[Exit.then]);(repeat (first|go_skip|go_step));obtain⟨r0,r1,r2,r3,r4,r5⟩:=κ6 hs;refine bodyPost_ret (by simp[results,Tryz.results117,go_sem,r0,r1,r2,r3,r4,r5];try rfl) rfl ?_)
          exact⟨⟨1,h,wd,rg,false,0⟩,_,rfl,HA.out,by (repeat (first|exact xE0 _|assumption|refine xE1 ?_ _|refine xE2 ?_|refine xE3 ?_ _|refine xE4 ?_ (by assumption)))⟩
      | false =>
       have HG2:=η hg
       clear hg
       have q1:=cO (i:=1) HO3.out
       simp only[gA,gB,gC]at q1
       obtain⟨k1,hk1⟩:∃ z,(h == 128)=z:=⟨_,rfl⟩
       obtain⟨k2,hk2⟩:∃ z,(h == 176)=z:=⟨_,rfl⟩
       cases k1 with
       | true =>
        have K1:=η hk1
        (have o1:=HO1.out;have o2:=HO2.out;have o3:=HO3.out;obtain⟨a0,a1,a2,a3,a4⟩:=κ5 o1;obtain⟨b0,b1,b2,b3,b4,b5⟩:=κ6 o2;have bf:=fun i=>zA (i:=i) o2;obtain⟨q0,q1,q2,q3,q4,q5⟩:=κ6 o3;clear o1 o2 o3)
        cases ok with
        | false =>
         have HA:Hid (xD x h wd rg=none):=η (by rw[HAR.out];rfl)
         go_wp2_with fail
         go_region
         all_goals
          (have hsf:=HSF.out;generalize hF:(World.setCell (World.setCell (World.setCell (World.setCell (World.setCell (World.setCell wc ⟨w.heap.size+1,0,none⟩ (.int .u8 1)) ⟨w.heap.size+1,1,none⟩ (.int .u8 h)) ⟨w.heap.size+1,2,none⟩ (.bool wd)) ⟨w.heap.size+1,3,none⟩ (.bool rg)) ⟨w.heap.size+1,4,none⟩ (.bool false)) ⟨w.heap.size+1,5,none⟩ (.int .i64 0))=wF at hsf ⊢;obtain⟨hs,he⟩:=hsf;clear hF;(try simp only[Exit.then]);(repeat (first|go_skip|go_step));obtain⟨r0,r1,r2,r3,r4,r5⟩:=κ6 hs;refine bodyPost_ret (by simp[results,Tryz.results117,go_sem,r0,r1,r2,r3,r4,r5];try rfl) rfl ?_)
          exact⟨⟨1,h,wd,rg,false,0⟩,false,rfl,HA.out,by (repeat (first|exact xE0 _|assumption|refine xE1 ?_ _|refine xE2 ?_|refine xE3 ?_ _|refine xE4 ?_ (by assumption)))⟩
        | true =>
         cases rg with
         | true =>
          have HA:Hid (xD x h wd true=none):=η (by rw[HAR.out,if_pos rfl,pA,if_neg (by rw[HG.out];decide),if_neg (by rw[HG2.out];decide),if_pos (by simpa using K1.out)];rfl)
          go_wp2_with fail
          go_region
          all_goals
           (have hsf:=HSF.out;generalize hF:(World.setCell (World.setCell (World.setCell (World.setCell (World.setCell (World.setCell wc ⟨w.heap.size+1,0,none⟩ (.int .u8 1)) ⟨w.heap.size+1,1,none⟩ (.int .u8 h)) ⟨w.heap.size+1,2,none⟩ (.bool wd)) ⟨w.heap.size+1,3,none⟩ (.bool true)) ⟨w.heap.size+1,4,none⟩ (.bool false)) ⟨w.heap.size+1,5,none⟩ (.int .i64 0))=wF at hsf ⊢;obtain⟨hs,he⟩:=hsf;clear hF;(try simp only[Exit.then]);(repeat (first|go_skip|go_step));obtain⟨r0,r1,r2,r3,r4,r5⟩:=κ6 hs;refine bodyPost_ret (by simp[results,Tryz.results117,go_sem,r0,r1,r2,r3,r4,r5];try rfl) rfl ?_)
           exact⟨⟨1,h,wd,true,false,0⟩,false,rfl,HA.out,by (repeat (first|exact xE0 _|assumption|refine xE1 ?_ _|refine xE2 ?_|refine xE3 ?_ _|refine xE4 ?_ (by assumption)))⟩
         | false =>
          obtain⟨zs,hzs⟩:∃ z,yN x true true true=z:=⟨_,rfl⟩
          have HA:Hid (xD x h wd false=if zs then some ⟨1,h,wd,false,false,0⟩ else none):=η (by rw[HAR.out,if_pos rfl,pA,if_neg (by rw[HG.out];decide),if_neg (by rw[HG2.out];decide),if_pos (by simpa using K1.out),hzs];simp)
          (have o1:=fun o=>zB o HO1.out;have o2:=fun o=>zB o HO2.out;have o3:=fun o=>zB o HO3.out;have a0o:=fun o=>cO (i:=0) (o1 o);have a1o:=fun o=>cO (i:=1) (o1 o);have a2o:=fun o=>cO (i:=2) (o1 o);have a3o:=fun o=>cO (i:=3) (o1 o);have a4o:=fun o=>cO (i:=4) (o1 o);have b0o:=fun o=>cO (i:=0) (o2 o);have b1o:=fun o=>cO (i:=1) (o2 o);have b2o:=fun o=>cO (i:=2) (o2 o);have b3o:=fun o=>cO (i:=3) (o2 o);have b4o:=fun o=>cO (i:=4) (o2 o);have b5o:=fun o=>cO (i:=5) (o2 o);have bfo:=fun o i=>zA (i:=i) (o2 o);have q0o:=fun o=>cO (i:=0) (o3 o);have q1o:=fun o=>cO (i:=1) (o3 o);have q2o:=fun o=>cO (i:=2) (o3 o);have q3o:=fun o=>cO (i:=3) (o3 o);have q4o:=fun o=>cO (i:=4) (o3 o);have q5o:=fun o=>cO (i:=5) (o3 o);simp only[gA,gB,gC]at a0o a1o a2o a3o a4o b0o b1o b2o b3o b4o b5o q0o q1o q2o q3o q4o q5o;clear o1 o2 o3)
          have HSF0:=HSF
          have HSF:=η (set6 (zB (.cells #[.int .u8 x.op,.int .u8 x.dst,.int .u8 x.src,.int .i16 x.off,.int .i32 x.imm] 58) HO2.out) (HE.out.alloc' _) (Nat.le_succ _) 1 h wd false false 0)
          go_wp2_with fail
          go_region_law ((go_simp;go_at_call 155;refine(kP x true true true zs _ hzs).mono ?_;rintro e w5 ⟨rfl,rfl⟩))
          all_goals
           (have hsf:=HSF.out;generalize hF:(World.setCell (World.setCell (World.setCell (World.setCell (World.setCell (World.setCell (World.alloc wc (.cells #[.int .u8 x.op,.int .u8 x.dst,.int .u8 x.src,.int .i16 x.off,.int .i32 x.imm] 58)) ⟨w.heap.size+1,0,none⟩ (.int .u8 1)) ⟨w.heap.size+1,1,none⟩ (.int .u8 h)) ⟨w.heap.size+1,2,none⟩ (.bool wd)) ⟨w.heap.size+1,3,none⟩ (.bool false)) ⟨w.heap.size+1,4,none⟩ (.bool false)) ⟨w.heap.size+1,5,none⟩ (.int .i64 0))=wF at hsf ⊢;obtain⟨hs,he⟩:=hsf;clear hF;(try simp only[Exit.then]);(repeat (first|go_skip|go_step));obtain⟨r0,r1,r2,r3,r4,r5⟩:=κ6 hs;refine bodyPost_ret (by simp[results,Tryz.results117,go_sem,r0,r1,r2,r3,r4,r5];try rfl) rfl ?_)
           exact⟨⟨1,h,wd,false,false,0⟩,zs,rfl,HA.out,by (repeat (first|exact xE0 _|assumption|refine xE1 ?_ _|refine xE2 ?_|refine xE3 ?_ _|refine xE4 ?_ (by assumption)))⟩
       | false =>
        cases k2 with
        | true =>
         go_upto_region 20 with fail
         go_cut [6] (fun v wx=>v=.bool (x.off == 8 || (x.off == 16 || (x.off == 32 && wd)))∧wx=wc)
         case first =>
          (have o1:=HO1.out;have o2:=HO2.out;have o3:=HO3.out;obtain⟨a0,a1,a2,a3,a4⟩:=κ5 o1;obtain⟨b0,b1,b2,b3,b4,b5⟩:=κ6 o2;have bf:=fun i=>zA (i:=i) o2;obtain⟨q0,q1,q2,q3,q4,q5⟩:=κ6 o3;clear o1 o2 o3)
          obtain⟨z8,hz8⟩:∃ z,(x.off == 8)=z:=⟨_,rfl⟩
          obtain⟨z6,hz6⟩:∃ z,(x.off == 16)=z:=⟨_,rfl⟩
          obtain⟨z2,hz2⟩:∃ z,(x.off == 32)=z:=⟨_,rfl⟩
          cases z8<;>cases z6<;>cases z2
          all_goals
           go_wp2_with fail
           go_meet
           exact⟨by simp only[*,Bool.or_false,Bool.false_or,Bool.true_or,Bool.or_true,Bool.true_and,Bool.false_and],rfl⟩
         case rest =>
          obtain⟨rfl,rfl⟩:=hcut
          have K1:=η hk1
          have K2:=η hk2
          have HM:=η (arith_mv x wd)
          generalize (x.off == 8 || (x.off == 16 || (x.off == 32 && wd)))=mv at HM ⊢
          clear q1
          (have o1:=HO1.out;have o2:=HO2.out;have o3:=HO3.out;obtain⟨a0,a1,a2,a3,a4⟩:=κ5 o1;obtain⟨b0,b1,b2,b3,b4,b5⟩:=κ6 o2;have bf:=fun i=>zA (i:=i) o2;obtain⟨q0,q1,q2,q3,q4,q5⟩:=κ6 o3;clear o1 o2 o3)
          cases ok with
          | false =>
           have HA:Hid (xD x h wd rg=none):=η (by rw[HAR.out];rfl)
           go_wp2_with fail
           all_goals
            (have hsf:=HSF.out;generalize hF:(World.setCell (World.setCell (World.setCell (World.setCell (World.setCell (World.setCell wc ⟨w.heap.size+1,0,none⟩ (.int .u8 1)) ⟨w.heap.size+1,1,none⟩ (.int .u8 h)) ⟨w.heap.size+1,2,none⟩ (.bool wd)) ⟨w.heap.size+1,3,none⟩ (.bool rg)) ⟨w.heap.size+1,4,none⟩ (.bool false)) ⟨w.heap.size+1,5,none⟩ (.int .i64 0))=wF at hsf ⊢;obtain⟨hs,he⟩:=hsf;clear hF;(try simp only[Exit.then]);(repeat (first|go_skip|go_step));obtain⟨r0,r1,r2,r3,r4,r5⟩:=κ6 hs;refine bodyPost_ret (by simp[results,Tryz.results117,go_sem,r0,r1,r2,r3,r4,r5];try rfl) rfl ?_)
            exact⟨⟨1,h,wd,rg,false,0⟩,false,rfl,HA.out,by (repeat (first|exact xE0 _|assumption|refine xE1 ?_ _|refine xE2 ?_|refine xE3 ?_ _|refine xE4 ?_ (by assumption)))⟩
          | true =>
           have HA:Hid (xD x h wd rg=if (z || (rg && mv)) then some ⟨1,h,wd,rg,false,0⟩ else none):=η (by rw[HAR.out,if_pos rfl,pA,if_neg (by rw[HG.out];decide),if_neg (by rw[HG2.out];decide),if_neg (by have:=K1.out;simpa using this),if_pos (by have:=K2.out;simpa using this),← hz];simp only[Bool.or_eq_true,Bool.and_eq_true,beq_iff_eq,HM.out])
           cases z
           ·cases rg
            ·go_wp2_with fail
             all_goals
              (have hsf:=HSF.out;generalize hF:(World.setCell (World.setCell (World.setCell (World.setCell (World.setCell (World.setCell wc ⟨w.heap.size+1,0,none⟩ (.int .u8 1)) ⟨w.heap.size+1,1,none⟩ (.int .u8 h)) ⟨w.heap.size+1,2,none⟩ (.bool wd)) ⟨w.heap.size+1,3,none⟩ (.bool false)) ⟨w.heap.size+1,4,none⟩ (.bool false)) ⟨w.heap.size+1,5,none⟩ (.int .i64 0))=wF at hsf ⊢;obtain⟨hs,he⟩:=hsf;clear hF;(try simp only[Exit.then]);(repeat (first|go_skip|go_step));obtain⟨r0,r1,r2,r3,r4,r5⟩:=κ6 hs;refine bodyPost_ret (by simp[results,Tryz.results117,go_sem,r0,r1,r2,r3,r4,r5];try rfl) rfl ?_)
              exact⟨⟨1,h,wd,false,false,0⟩,_,rfl,HA.out,by (repeat (first|exact xE0 _|assumption|refine xE1 ?_ _|refine xE2 ?_|refine xE3 ?_ _|refine xE4 ?_ (by assumption)))⟩
            ·go_wp2_with fail
             all_goals
              (have hsf:=HSF.out;generalize hF:(World.setCell (World.setCell (World.setCell (World.setCell (World.setCell (World.setCell wc ⟨w.heap.size+1,0,none⟩ (.int .u8 1)) ⟨w.heap.size+1,1,none⟩ (.int .u8 h)) ⟨w.heap.size+1,2,none⟩ (.bool wd)) ⟨w.heap.size+1,3,none⟩ (.bool true)) ⟨w.heap.size+1,4,none⟩ (.bool false)) ⟨w.heap.size+1,5,none⟩ (.int .i64 0))=wF at hsf ⊢;obtain⟨hs,he⟩:=hsf;clear hF;(try simp only[Exit.then]);(repeat (first|go_skip|go_step));obtain⟨r0,r1,r2,r3,r4,r5⟩:=κ6 hs;refine bodyPost_ret (by simp[results,Tryz.results117,go_sem,r0,r1,r2,r3,r4,r5];try rfl) rfl ?_)
              exact⟨⟨1,h,wd,true,false,0⟩,_,rfl,HA.out,by (repeat (first|exact xE0 _|assumption|refine xE1 ?_ _|refine xE2 ?_|refine xE3 ?_ _|refine xE4 ?_ (by assumption)))⟩
           ·go_wp2_with fail
            all_goals
             (have hsf:=HSF.out;generalize hF:(World.setCell (World.setCell (World.setCell (World.setCell (World.setCell (World.setCell wc ⟨w.heap.size+1,0,none⟩ (.int .u8 1)) ⟨w.heap.size+1,1,none⟩ (.int .u8 h)) ⟨w.heap.size+1,2,none⟩ (.bool wd)) ⟨w.heap.size+1,3,none⟩ (.bool rg)) ⟨w.heap.size+1,4,none⟩ (.bool false)) ⟨w.heap.size+1,5,none⟩ (.int .i64 0))=wF at hsf ⊢;obtain⟨hs,he⟩:=hsf;clear hF;(try simp only[Exit.then]);(repeat (first|go_skip|go_step));obtain⟨r0,r1,r2,r3,r4,r5⟩:=κ6 hs;refine bodyPost_ret (by simp[results,Tryz.results117,go_sem,r0,r1,r2,r3,r4,r5];try rfl) rfl ?_)
             exact⟨⟨1,h,wd,rg,false,0⟩,_,rfl,HA.out,by (repeat (first|exact xE0 _|assumption|refine xE1 ?_ _|refine xE2 ?_|refine xE3 ?_ _|refine xE4 ?_ (by assumption)))⟩
        | false =>
         have HA:Hid (xD x h wd rg=none):=η (by rw[HAR.out];cases ok with|false=>rfl|true=>rw[if_pos rfl,pA,if_neg (by rw[HG.out];decide),if_neg (by rw[HG2.out];decide),if_neg (by simpa using hk1),if_neg (by simpa using hk2)])
         (have o1:=HO1.out;have o2:=HO2.out;have o3:=HO3.out;obtain⟨a0,a1,a2,a3,a4⟩:=κ5 o1;obtain⟨b0,b1,b2,b3,b4,b5⟩:=κ6 o2;have bf:=fun i=>zA (i:=i) o2;obtain⟨q0,q1,q2,q3,q4,q5⟩:=κ6 o3;clear o1 o2 o3)
         go_wp2_with fail
         all_goals
          (have hsf:=HSF.out;generalize hF:(World.setCell (World.setCell (World.setCell (World.setCell (World.setCell (World.setCell wc ⟨w.heap.size+1,0,none⟩ (.int .u8 1)) ⟨w.heap.size+1,1,none⟩ (.int .u8 h)) ⟨w.heap.size+1,2,none⟩ (.bool wd)) ⟨w.heap.size+1,3,none⟩ (.bool rg)) ⟨w.heap.size+1,4,none⟩ (.bool false)) ⟨w.heap.size+1,5,none⟩ (.int .i64 0))=wF at hsf ⊢;obtain⟨hs,he⟩:=hsf;clear hF;(try simp only[Exit.then]);(repeat (first|go_skip|go_step));obtain⟨r0,r1,r2,r3,r4,r5⟩:=κ6 hs;refine bodyPost_ret (by simp[results,Tryz.results117,go_sem,r0,r1,r2,r3,r4,r5];try rfl) rfl ?_)
          exact⟨⟨1,h,wd,rg,false,0⟩,false,rfl,HA.out,by (repeat (first|exact xE0 _|assumption|refine xE1 ?_ _|refine xE2 ?_|refine xE3 ?_ _|refine xE4 ?_ (by assumption)))⟩
def gV (x:Ins):Option Wh :=
 if x.dst=10∨x.off≠0 then none else
 if x.src=0 then some ⟨3,0,true,false,false,0⟩ else
 if x.src=1∧0≤x.imm then some ⟨4,0,true,false,false,0⟩ else none
def vL (x:Ins):Option Wh :=
 if x.dst≠10∧yN x true true false=true∧(x.imm=16∨x.imm=32∨x.imm=64) then some ⟨2,0,x.op != 212,false,false,x.imm / 8⟩ else none
theorem wide_ok (x:Ins)(zd zo z0 z1 zi:Bool)(hd:(x.dst != 10)=zd)(ho:(x.off == 0)=zo)(h0:(x.src == 0)=z0)(h1:(x.src == 1)=z1)(hi:decide (x.imm ≥ 0)=zi):
  gV x=if (zd && zo)=true then (if z0 then some ⟨3,0,true,false,false,0⟩ else if z1 && zi then some ⟨4,0,true,false,false,0⟩ else none) else none:=by
 subst hd ho h0 h1 hi
 unfold gV
 by_cases h1:x.dst=10<;>by_cases h2:x.off=0<;>by_cases h3:x.src=0<;>by_cases h4:x.src=1<;>by_cases h5:0≤x.imm<;>simp[h1,h2,h3,h4,h5]
theorem swaps_ok (x:Ins)(n:Int)(zd zs i1 i3 i6 wd:Bool)(hn:(x.imm=16→n=2)∧(x.imm=32→n=4)∧(x.imm=64→n=8))(hd:(x.dst != 10)=zd)(hs:yN x true true false=zs)(h1:(x.imm == 16)=i1)(h3:(x.imm == 32)=i3)(h6:(x.imm == 64)=i6)(hw:(x.op != 212)=wd):
  vL x=if (zd && (zs && (i1 || (i3 || i6))))=true then some ⟨2,0,wd,false,false,n⟩ else none:=by
 subst hd h1 h3 h6 hw
 unfold vL
 rw[hs]
 by_cases h1:x.dst=10
 ·simp[h1]
 ·cases zs
  ·simp
  ·by_cases h2:x.imm=16
   ·simp[h1,h2,hn.1 h2]
   ·by_cases h3:x.imm=32
    ·simp[h1,h3,hn.2.1 h3]
    ·by_cases h4:x.imm=64
     ·simp[h1,h4,hn.2.2 h4]
     ·simp[h2,h3,h4]
set_option maxRecDepth 20000 in
set_option maxHeartbeats 4000000 in
theorem p_wide (x:Ins)(w:World):Calls Tryz.prog 114 #[x.agg] w (WhA (gV x) w):=by
 obtain⟨zd,hd⟩:∃ z,(x.dst != 10)=z:=⟨_,rfl⟩
 obtain⟨zo,ho⟩:∃ z,(x.off == 0)=z:=⟨_,rfl⟩
 obtain⟨z0,h0⟩:∃ z,(x.src == 0)=z:=⟨_,rfl⟩
 obtain⟨z1,h1⟩:∃ z,(x.src == 1)=z:=⟨_,rfl⟩
 obtain⟨zi,hi⟩:∃ z,decide (x.imm ≥ 0)=z:=⟨_,rfl⟩
 have HAR:=η (wide_ok x zd zo z0 z1 zi hd ho h0 h1 hi)
 go_enter Tryz.func114,Tryz.ntmps114
 go_upto_region 1 with fail
 go_cut [4] (fun v wx=>v=.bool (zd && zo)∧Hid (Ext w wx∧wx.heap[w.heap.size]?=some (zQ x)∧wx.heap[w.heap.size+1]?=some (zF Wh.zero)))
 case first =>
  cases zd
  all_goals
   go_wp2_with fail
   go_meet
   refine⟨by simp,η ⟨by (repeat (first|exact xE0 _|assumption|refine xE1 ?_ _|refine xE2 ?_|refine xE3 ?_ _|refine xE4 ?_ (by assumption))),?_,?_⟩⟩
   ·(repeat (first|(refine zD _ _ ?_;simp;done)|refine zB _ ?_))
   ·(repeat (first|(refine zD _ _ ?_;simp;done)|refine zB _ ?_))
 case rest =>
  obtain⟨rfl,HW⟩:=hcut
  generalize (zd && zo)=ok at *
  have HO1:=η HW.out.2.1
  have HO2:=η HW.out.2.2
  have HO3:=HO2
  have HE:=η HW.out.1
  (have o1:=HO1.out;have o2:=HO2.out;have o3:=HO3.out;obtain⟨a0,a1,a2,a3,a4⟩:=κ5 o1;obtain⟨b0,b1,b2,b3,b4,b5⟩:=κ6 o2;have bf:=fun i=>zA (i:=i) o2;obtain⟨q0,q1,q2,q3,q4,q5⟩:=κ6 o3;clear o1 o2 o3)
  cases z0 with
  | true =>
   have HSF:=η (set6 HO2.out HE.out (Nat.le_succ _) 3 0 true false false 0)
   go_wp2_with fail
   (repeat (first|go_values|go_skip|go_step))
   all_goals
    (have hsf:=HSF.out;generalize hF:(World.setCell (World.setCell (World.setCell (World.setCell (World.setCell (World.setCell wc ⟨w.heap.size+1,0,none⟩ (.int .u8 3)) ⟨w.heap.size+1,1,none⟩ (.int .u8 0)) ⟨w.heap.size+1,2,none⟩ (.bool true)) ⟨w.heap.size+1,3,none⟩ (.bool false)) ⟨w.heap.size+1,4,none⟩ (.bool false)) ⟨w.heap.size+1,5,none⟩ (.int .i64 0))=wF at hsf ⊢;obtain⟨hs,he⟩:=hsf;clear hF;(try simp only[Exit.then]);(repeat (first|go_skip|go_step));obtain⟨r0,r1,r2,r3,r4,r5⟩:=κ6 hs;refine bodyPost_ret (by simp[results,Tryz.results114,go_sem,r0,r1,r2,r3,r4,r5];try rfl) rfl ?_)
    exact⟨⟨3,0,true,false,false,0⟩,_,rfl,HAR.out,by (repeat (first|exact xE0 _|assumption|refine xE1 ?_ _|refine xE2 ?_|refine xE3 ?_ _|refine xE4 ?_ (by assumption)))⟩
  | false =>
   cases z1 with
   | true =>
    have HSF:=η (set6 HO2.out HE.out (Nat.le_succ _) 4 0 true false false 0)
    cases ok with
    | true =>
     go_wp2_with fail
     go_region
     all_goals
      (have hsf:=HSF.out;generalize hF:(World.setCell (World.setCell (World.setCell (World.setCell (World.setCell (World.setCell wc ⟨w.heap.size+1,0,none⟩ (.int .u8 4)) ⟨w.heap.size+1,1,none⟩ (.int .u8 0)) ⟨w.heap.size+1,2,none⟩ (.bool true)) ⟨w.heap.size+1,3,none⟩ (.bool false)) ⟨w.heap.size+1,4,none⟩ (.bool false)) ⟨w.heap.size+1,5,none⟩ (.int .i64 0))=wF at hsf ⊢;obtain⟨hs,he⟩:=hsf;clear hF;(try simp only[Exit.then]);(repeat (first|go_skip|go_step));obtain⟨r0,r1,r2,r3,r4,r5⟩:=κ6 hs;refine bodyPost_ret (by simp[results,Tryz.results114,go_sem,r0,r1,r2,r3,r4,r5];try rfl) rfl ?_)
      exact⟨⟨4,0,true,false,false,0⟩,zi,rfl,HAR.out,by (repeat (first|exact xE0 _|assumption|refine xE1 ?_ _|refine xE2 ?_|refine xE3 ?_ _|refine xE4 ?_ (by assumption)))⟩
    | false =>
     go_wp2_with fail
     go_region
     all_goals
      (have hsf:=HSF.out;generalize hF:(World.setCell (World.setCell (World.setCell (World.setCell (World.setCell (World.setCell wc ⟨w.heap.size+1,0,none⟩ (.int .u8 4)) ⟨w.heap.size+1,1,none⟩ (.int .u8 0)) ⟨w.heap.size+1,2,none⟩ (.bool true)) ⟨w.heap.size+1,3,none⟩ (.bool false)) ⟨w.heap.size+1,4,none⟩ (.bool false)) ⟨w.heap.size+1,5,none⟩ (.int .i64 0))=wF at hsf ⊢;obtain⟨hs,he⟩:=hsf;clear hF;(try simp only[Exit.then]);(repeat (first|go_skip|go_step));obtain⟨r0,r1,r2,r3,r4,r5⟩:=κ6 hs;refine bodyPost_ret (by simp[results,Tryz.results114,go_sem,r0,r1,r2,r3,r4,r5];try rfl) rfl ?_)
      exact⟨⟨4,0,true,false,false,0⟩,false,rfl,HAR.out,by (repeat (first|exact xE0 _|assumption|refine xE1 ?_ _|refine xE2 ?_|refine xE3 ?_ _|refine xE4 ?_ (by assumption)))⟩
   | false =>
    have HSF:=η (set6 HO2.out HE.out (Nat.le_succ _) 0 0 false false false 0)
    go_wp2_with fail
    (repeat (first|go_values|go_skip|go_step))
    all_goals
     (have hsf:=HSF.out;generalize hF:(World.setCell (World.setCell (World.setCell (World.setCell (World.setCell (World.setCell wc ⟨w.heap.size+1,0,none⟩ (.int .u8 0)) ⟨w.heap.size+1,1,none⟩ (.int .u8 0)) ⟨w.heap.size+1,2,none⟩ (.bool false)) ⟨w.heap.size+1,3,none⟩ (.bool false)) ⟨w.heap.size+1,4,none⟩ (.bool false)) ⟨w.heap.size+1,5,none⟩ (.int .i64 0))=wF at hsf ⊢;obtain⟨hs,he⟩:=hsf;clear hF;(try simp only[Exit.then]);(repeat (first|go_skip|go_step));obtain⟨r0,r1,r2,r3,r4,r5⟩:=κ6 hs;refine bodyPost_ret (by simp[results,Tryz.results114,go_sem,r0,r1,r2,r3,r4,r5];try rfl) rfl ?_)
     exact⟨Wh.zero,false,rfl,by rw[HAR.out];cases ok<;>rfl,by (repeat (first|exact xE0 _|assumption|refine xE1 ?_ _|refine xE2 ?_|refine xE3 ?_ _|refine xE4 ?_ (by assumption)))⟩
end Go.Proofs.YtppefchjoodgnaaGreat
