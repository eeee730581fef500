import Derived.Test.YtppefchjoodgnaaGreatPQ12
import Derived.BigRegion
import Derived.Deep.RegionHeld3
import Derived.Test.YtppefchjoodgnaaGreatPQ09
set_option linter.unusedSimpArgs false
set_option linter.unusedVariables false
namespace Go.Proofs.YtppefchjoodgnaaGreat
open Go.RowKit
def g11 (h:Int):Bool:=h == 16 || (h == 32 || (h == 48 || (h == 64 || (h == 80 || (h == 96 || (h == 112 || (h == 160 || (h == 176 || (h == 192 || h == 208)))))))))
def kJ (x:Ins):Option Wh :=
 if x.op=5 then (if ((x.dst == 0) && yN x true false true)=true then some ⟨9,0,false,false,false,0⟩ else none)
 else if x.op=6 then (if ((x.dst == 0) && yN x true true false)=true then some ⟨9,0,false,false,false,0⟩ else none)
 else if x.op=133 then (if ((x.dst == 0) && yN x true true false)=true then some ⟨11,0,false,false,false,0⟩ else none)
 else if x.op=149 then (if ((x.dst == 0) && yN x true true true)=true then some ⟨12,0,false,false,false,0⟩ else none)
 else if g11 (x.op / 16 * 16)=true then (if yN x (!(x.op / 8%2 == 1)) false (x.op / 8%2 == 1)=true then some ⟨10,x.op / 16 * 16,x.op%8 == 5,x.op / 8%2 == 1,false,0⟩ else none)
 else none
set_option maxRecDepth 20000 in
set_option maxHeartbeats 8000000 in
theorem p_jumps (x:Ins)(w:World)(hx:x.Ok):Calls Tryz.prog 118 #[x.agg] w (WhA (kJ x) w):=by
 have e1:bits .and .u8 x.op 240=x.op / 16 * 16:=xL (fun x=>bits .and .u8 x 240=x / 16 * 16) (by decide +kernel) x.op hx.op
 have e2:bits .and .u8 x.op 8=x.op / 8%2 * 8:=xL (fun x=>bits .and .u8 x 8=x / 8%2 * 8) (by decide +kernel) x.op hx.op
 have e3:(x.op / 8%2 * 8 != 0)=(x.op / 8%2 == 1):=xL (fun x=>(x / 8%2 * 8 != 0)=(x / 8%2 == 1)) (by decide +kernel) x.op hx.op
 have HOP:=η hx.op
 have HS:=η (rfl:kJ x=kJ x)
 unfold kJ at HS ⊢
 obtain⟨h,hh⟩:∃ h,x.op / 16 * 16=h:=⟨_,rfl⟩
 obtain⟨r,hr⟩:∃ r,x.op / 8%2 * 8=r:=⟨_,rfl⟩
 obtain⟨rg,hrg⟩:∃ rg,(x.op / 8%2 == 1)=rg:=⟨_,rfl⟩
 obtain⟨c,hc⟩:∃ c,x.op%8=c:=⟨_,rfl⟩
 obtain⟨wd,hwd⟩:∃ wd,(c == 5)=wd:=⟨_,rfl⟩
 obtain⟨zd,hzd⟩:∃ z,(x.dst == 0)=z:=⟨_,rfl⟩
 obtain⟨k5,hk5⟩:∃ z,(x.op == 5)=z:=⟨_,rfl⟩
 obtain⟨k6,hk6⟩:∃ z,(x.op == 6)=z:=⟨_,rfl⟩
 obtain⟨k7,hk7⟩:∃ z,(x.op == 133)=z:=⟨_,rfl⟩
 obtain⟨k8,hk8⟩:∃ z,(x.op == 149)=z:=⟨_,rfl⟩
 obtain⟨s5,hs5⟩:∃ z,yN x true false true=z:=⟨_,rfl⟩
 obtain⟨s6,hs6⟩:∃ z,yN x true true false=z:=⟨_,rfl⟩
 obtain⟨s8,hs8⟩:∃ z,yN x true true true=z:=⟨_,rfl⟩
 obtain⟨sb,hsb⟩:∃ z,yN x (!rg) false rg=z:=⟨_,rfl⟩
 have HC:=η hc
 have b5:(x.op=5)=(k5=true):=by rw[← hk5];simp
 have b6:(x.op=6)=(k6=true):=by rw[← hk6];simp
 have b7:(x.op=133)=(k7=true):=by rw[← hk7];simp
 have b8:(x.op=149)=(k8=true):=by rw[← hk8];simp
 rw[hh]at e1
 rw[hr]at e2
 rw[hr,hrg]at e3
 simp only[b5,b6,b7,b8,hh,hrg,hc,hwd,hzd,hs5,hs6,hs8,hsb]
 obtain⟨R,hR⟩:∃ R,R=(if k5=true then (if (zd && s5)=true then some (⟨9,0,false,false,false,0⟩:Wh) else none) else if k6=true then (if (zd && s6)=true then some ⟨9,0,false,false,false,0⟩ else none) else if k7=true then (if (zd && s6)=true then some ⟨11,0,false,false,false,0⟩ else none) else if k8=true then (if (zd && s8)=true then some ⟨12,0,false,false,false,0⟩ else none) else if g11 h=true then (if sb=true then some ⟨10,h,wd,rg,false,0⟩ else none) else none):=⟨_,rfl⟩
 rw[← hR]
 have HR:=η hR
 clear hh hr hrg hc hR b5 b6 b7 b8 HS
 go_enter Tryz.func118,Tryz.ntmps118
 go_wp2_with fail
 go_cut [4] (fun v wx=>∃ q,v=.pointer (some ⟨q,0,none⟩)∧Hid (Ext w wx∧wx.heap[w.heap.size]?=some (zQ x)∧wx.heap[w.heap.size+1]?=some (zF Wh.zero)∧wx.heap[q]?=some (zF ⟨10,h,wd,rg,false,0⟩)∧w.heap.size+1 < q))
 case first =>
  go_region_held3 (fun w'=>w'.cell? ⟨w.heap.size,0,none⟩=some (.int .u8 x.op)∧w'.cell? ⟨w.heap.size,1,none⟩=some (.int .u8 x.dst)∧w'.cell? ⟨w.heap.size,2,none⟩=some (.int .u8 x.src)∧w'.cell? ⟨w.heap.size,3,none⟩=some (.int .i16 x.off)∧w'.cell? ⟨w.heap.size,4,none⟩=some (.int .i32 x.imm))
   (go_keep)
   ((go_at_call 116;refine(p_class x _ HOP.out).mono ?_;rw[HC.out];rintro e w5 ⟨rfl,rfl⟩))
  all_goals
   go_wp2_with fail
   go_meet
   refine⟨_,rfl,η ⟨by (repeat (first|exact xE0 _|assumption|refine xE1 ?_ _|refine xE2 ?_|refine xE3 ?_ _|refine xE4 ?_ (by assumption))),?_,?_,?_,?_⟩⟩
   ·(repeat (first|(refine zD _ _ ?_;simp;done)|refine zB _ ?_))
   ·(repeat (first|(refine zD _ _ ?_;simp;done)|refine zB _ ?_))
   ·(repeat (first|(refine zD _ _ ?_;simp;done)|refine zB _ ?_))
   ·omega
 case rest =>
  obtain⟨q,rfl,HW⟩:=hcut
  have HO1:=η HW.out.2.1
  have HO2:=η HW.out.2.2.1
  have HO3:=η HW.out.2.2.2.1
  have HE:=η HW.out.1
  (have o1:=HO1.out;have o2:=HO2.out;have o3:=HO3.out;obtain⟨a0,a1,a2,a3,a4⟩:=κ5 o1;obtain⟨b0,b1,b2,b3,b4,b5⟩:=κ6 o2;have bf:=fun i=>zA (i:=i) o2;obtain⟨q0,q1,q2,q3,q4,q5⟩:=κ6 o3;clear o1 o2 o3)
  cases k5 with
  | true =>
   cases zd with
   | false =>
    have HSF:=η (set6 HO2.out HE.out (Nat.le_succ _) 9 0 false false false 0)
    go_wp2_with fail
    all_goals
     (have hsf:=HSF.out;generalize hF:(World.setCell (World.setCell (World.setCell (World.setCell (World.setCell (World.setCell wc ⟨w.heap.size+1,0,none⟩ (.int .u8 9)) ⟨w.heap.size+1,1,none⟩ (.int .u8 0)) ⟨w.heap.size+1,2,none⟩ (.bool false)) ⟨w.heap.size+1,3,none⟩ (.bool false)) ⟨w.heap.size+1,4,none⟩ (.bool false)) ⟨w.heap.size+1,5,none⟩ (.int .i64 0))=wF at hsf ⊢;obtain⟨hs,he⟩:=hsf;clear hF;(try simp only[Exit.then]);(repeat (first|go_skip|go_step));obtain⟨r0,r1,r2,r3,r4,r5⟩:=κ6 hs;refine bodyPost_ret (by simp[results,Tryz.results118,go_sem,r0,r1,r2,r3,r4,r5];try rfl) rfl ?_)
     exact⟨⟨9,0,false,false,false,0⟩,false,rfl,HR.out,by (repeat (first|exact xE0 _|assumption|refine xE1 ?_ _|refine xE2 ?_|refine xE3 ?_ _|refine xE4 ?_ (by assumption)))⟩
   | true =>
    have HSF:=η (set6 (zB (.cells #[.int .u8 x.op,.int .u8 x.dst,.int .u8 x.src,.int .i16 x.off,.int .i32 x.imm] 58) HO2.out) (HE.out.alloc' _) (Nat.le_succ _) 9 0 false false false 0)
    (have o1:=fun o=>zB o HO1.out;have o2:=fun o=>zB o HO2.out;have o3:=fun o=>zB o HO3.out;have a0o:=fun o=>cO (i:=0) (o1 o);have a1o:=fun o=>cO (i:=1) (o1 o);have a2o:=fun o=>cO (i:=2) (o1 o);have a3o:=fun o=>cO (i:=3) (o1 o);have a4o:=fun o=>cO (i:=4) (o1 o);have b0o:=fun o=>cO (i:=0) (o2 o);have b1o:=fun o=>cO (i:=1) (o2 o);have b2o:=fun o=>cO (i:=2) (o2 o);have b3o:=fun o=>cO (i:=3) (o2 o);have b4o:=fun o=>cO (i:=4) (o2 o);have b5o:=fun o=>cO (i:=5) (o2 o);have bfo:=fun o i=>zA (i:=i) (o2 o);have q0o:=fun o=>cO (i:=0) (o3 o);have q1o:=fun o=>cO (i:=1) (o3 o);have q2o:=fun o=>cO (i:=2) (o3 o);have q3o:=fun o=>cO (i:=3) (o3 o);have q4o:=fun o=>cO (i:=4) (o3 o);have q5o:=fun o=>cO (i:=5) (o3 o);simp only[gA,gB,gC]at a0o a1o a2o a3o a4o b0o b1o b2o b3o b4o b5o q0o q1o q2o q3o q4o q5o;clear o1 o2 o3)
    go_wp2_with fail
    refine(kP x true false true s5 _ hs5).mono ?_
    rintro e w5 ⟨rfl,rfl⟩
    go_wp2_with fail
    all_goals
     (have hsf:=HSF.out;generalize hF:(World.setCell (World.setCell (World.setCell (World.setCell (World.setCell (World.setCell (World.alloc wc (.cells #[.int .u8 x.op,.int .u8 x.dst,.int .u8 x.src,.int .i16 x.off,.int .i32 x.imm] 58)) ⟨w.heap.size+1,0,none⟩ (.int .u8 9)) ⟨w.heap.size+1,1,none⟩ (.int .u8 0)) ⟨w.heap.size+1,2,none⟩ (.bool false)) ⟨w.heap.size+1,3,none⟩ (.bool false)) ⟨w.heap.size+1,4,none⟩ (.bool false)) ⟨w.heap.size+1,5,none⟩ (.int .i64 0))=wF at hsf ⊢;obtain⟨hs,he⟩:=hsf;clear hF;(try simp only[Exit.then]);(repeat (first|go_skip|go_step));obtain⟨r0,r1,r2,r3,r4,r5⟩:=κ6 hs;refine bodyPost_ret (by simp[results,Tryz.results118,go_sem,r0,r1,r2,r3,r4,r5];try rfl) rfl ?_)
     exact⟨⟨9,0,false,false,false,0⟩,s5,rfl,HR.out,by (repeat (first|exact xE0 _|assumption|refine xE1 ?_ _|refine xE2 ?_|refine xE3 ?_ _|refine xE4 ?_ (by assumption)))⟩
  | false =>
   cases k6 with
   | true =>
    cases zd with
    | false =>
     have HSF:=η (set6 HO2.out HE.out (Nat.le_succ _) 9 0 false false false 0)
     go_wp2_with fail
     all_goals
      (have hsf:=HSF.out;generalize hF:(World.setCell (World.setCell (World.setCell (World.setCell (World.setCell (World.setCell wc ⟨w.heap.size+1,0,none⟩ (.int .u8 9)) ⟨w.heap.size+1,1,none⟩ (.int .u8 0)) ⟨w.heap.size+1,2,none⟩ (.bool false)) ⟨w.heap.size+1,3,none⟩ (.bool false)) ⟨w.heap.size+1,4,none⟩ (.bool false)) ⟨w.heap.size+1,5,none⟩ (.int .i64 0))=wF at hsf ⊢;obtain⟨hs,he⟩:=hsf;clear hF;(try simp only[Exit.then]);(repeat (first|go_skip|go_step));obtain⟨r0,r1,r2,r3,r4,r5⟩:=κ6 hs;refine bodyPost_ret (by simp[results,Tryz.results118,go_sem,r0,r1,r2,r3,r4,r5];try rfl) rfl ?_)
      exact⟨⟨9,0,false,false,false,0⟩,false,rfl,HR.out,by (repeat (first|exact xE0 _|assumption|refine xE1 ?_ _|refine xE2 ?_|refine xE3 ?_ _|refine xE4 ?_ (by assumption)))⟩
    | true =>
     have HSF:=η (set6 (zB (.cells #[.int .u8 x.op,.int .u8 x.dst,.int .u8 x.src,.int .i16 x.off,.int .i32 x.imm] 58) HO2.out) (HE.out.alloc' _) (Nat.le_succ _) 9 0 false false false 0)
     (have o1:=fun o=>zB o HO1.out;have o2:=fun o=>zB o HO2.out;have o3:=fun o=>zB o HO3.out;have a0o:=fun o=>cO (i:=0) (o1 o);have a1o:=fun o=>cO (i:=1) (o1 o);have a2o:=fun o=>cO (i:=2) (o1 o);have a3o:=fun o=>cO (i:=3) (o1 o);have a4o:=fun o=>cO (i:=4) (o1 o);have b0o:=fun o=>cO (i:=0) (o2 o);have b1o:=fun o=>cO (i:=1) (o2 o);have b2o:=fun o=>cO (i:=2) (o2 o);have b3o:=fun o=>cO (i:=3) (o2 o);have b4o:=fun o=>cO (i:=4) (o2 o);have b5o:=fun o=>cO (i:=5) (o2 o);have bfo:=fun o i=>zA (i:=i) (o2 o);have q0o:=fun o=>cO (i:=0) (o3 o);have q1o:=fun o=>cO (i:=1) (o3 o);have q2o:=fun o=>cO (i:=2) (o3 o);have q3o:=fun o=>cO (i:=3) (o3 o);have q4o:=fun o=>cO (i:=4) (o3 o);have q5o:=fun o=>cO (i:=5) (o3 o);simp only[gA,gB,gC]at a0o a1o a2o a3o a4o b0o b1o b2o b3o b4o b5o q0o q1o q2o q3o q4o q5o;clear o1 o2 o3)
     go_wp2_with fail
     refine(kP x true true false s6 _ hs6).mono ?_
     rintro e w5 ⟨rfl,rfl⟩
     go_wp2_with fail
     all_goals
      (have hsf:=HSF.out;generalize hF:(World.setCell (World.setCell (World.setCell (World.setCell (World.setCell (World.setCell (World.alloc wc (.cells #[.int .u8 x.op,.int .u8 x.dst,.int .u8 x.src,.int .i16 x.off,.int .i32 x.imm] 58)) ⟨w.heap.size+1,0,none⟩ (.int .u8 9)) ⟨w.heap.size+1,1,none⟩ (.int .u8 0)) ⟨w.heap.size+1,2,none⟩ (.bool false)) ⟨w.heap.size+1,3,none⟩ (.bool false)) ⟨w.heap.size+1,4,none⟩ (.bool false)) ⟨w.heap.size+1,5,none⟩ (.int .i64 0))=wF at hsf ⊢;obtain⟨hs,he⟩:=hsf;clear hF;(try simp only[Exit.then]);(repeat (first|go_skip|go_step));obtain⟨r0,r1,r2,r3,r4,r5⟩:=κ6 hs;refine bodyPost_ret (by simp[results,Tryz.results118,go_sem,r0,r1,r2,r3,r4,r5];try rfl) rfl ?_)
      exact⟨⟨9,0,false,false,false,0⟩,s6,rfl,HR.out,by (repeat (first|exact xE0 _|assumption|refine xE1 ?_ _|refine xE2 ?_|refine xE3 ?_ _|refine xE4 ?_ (by assumption)))⟩
   | false =>
    cases k7 with
    | true =>
     cases zd with
     | false =>
      have HSF:=η (set6 HO2.out HE.out (Nat.le_succ _) 11 0 false false false 0)
      go_wp2_with fail
      all_goals
       (have hsf:=HSF.out;generalize hF:(World.setCell (World.setCell (World.setCell (World.setCell (World.setCell (World.setCell wc ⟨w.heap.size+1,0,none⟩ (.int .u8 11)) ⟨w.heap.size+1,1,none⟩ (.int .u8 0)) ⟨w.heap.size+1,2,none⟩ (.bool false)) ⟨w.heap.size+1,3,none⟩ (.bool false)) ⟨w.heap.size+1,4,none⟩ (.bool false)) ⟨w.heap.size+1,5,none⟩ (.int .i64 0))=wF at hsf ⊢;obtain⟨hs,he⟩:=hsf;clear hF;(try simp only[Exit.then]);(repeat (first|go_skip|go_step));obtain⟨r0,r1,r2,r3,r4,r5⟩:=κ6 hs;refine bodyPost_ret (by simp[results,Tryz.results118,go_sem,r0,r1,r2,r3,r4,r5];try rfl) rfl ?_)
       exact⟨⟨11,0,false,false,false,0⟩,false,rfl,HR.out,by (repeat (first|exact xE0 _|assumption|refine xE1 ?_ _|refine xE2 ?_|refine xE3 ?_ _|refine xE4 ?_ (by assumption)))⟩
     | true =>
      have HSF:=η (set6 (zB (.cells #[.int .u8 x.op,.int .u8 x.dst,.int .u8 x.src,.int .i16 x.off,.int .i32 x.imm] 58) HO2.out) (HE.out.alloc' _) (Nat.le_succ _) 11 0 false false false 0)
      (have o1:=fun o=>zB o HO1.out;have o2:=fun o=>zB o HO2.out;have o3:=fun o=>zB o HO3.out;have a0o:=fun o=>cO (i:=0) (o1 o);have a1o:=fun o=>cO (i:=1) (o1 o);have a2o:=fun o=>cO (i:=2) (o1 o);have a3o:=fun o=>cO (i:=3) (o1 o);have a4o:=fun o=>cO (i:=4) (o1 o);have b0o:=fun o=>cO (i:=0) (o2 o);have b1o:=fun o=>cO (i:=1) (o2 o);have b2o:=fun o=>cO (i:=2) (o2 o);have b3o:=fun o=>cO (i:=3) (o2 o);have b4o:=fun o=>cO (i:=4) (o2 o);have b5o:=fun o=>cO (i:=5) (o2 o);have bfo:=fun o i=>zA (i:=i) (o2 o);have q0o:=fun o=>cO (i:=0) (o3 o);have q1o:=fun o=>cO (i:=1) (o3 o);have q2o:=fun o=>cO (i:=2) (o3 o);have q3o:=fun o=>cO (i:=3) (o3 o);have q4o:=fun o=>cO (i:=4) (o3 o);have q5o:=fun o=>cO (i:=5) (o3 o);simp only[gA,gB,gC]at a0o a1o a2o a3o a4o b0o b1o b2o b3o b4o b5o q0o q1o q2o q3o q4o q5o;clear o1 o2 o3)
      go_wp2_with fail
      refine(kP x true true false s6 _ hs6).mono ?_
      rintro e w5 ⟨rfl,rfl⟩
      go_wp2_with fail
      all_goals
       (have hsf:=HSF.out;generalize hF:(World.setCell (World.setCell (World.setCell (World.setCell (World.setCell (World.setCell (World.alloc wc (.cells #[.int .u8 x.op,.int .u8 x.dst,.int .u8 x.src,.int .i16 x.off,.int .i32 x.imm] 58)) ⟨w.heap.size+1,0,none⟩ (.int .u8 11)) ⟨w.heap.size+1,1,none⟩ (.int .u8 0)) ⟨w.heap.size+1,2,none⟩ (.bool false)) ⟨w.heap.size+1,3,none⟩ (.bool false)) ⟨w.heap.size+1,4,none⟩ (.bool false)) ⟨w.heap.size+1,5,none⟩ (.int .i64 0))=wF at hsf ⊢;obtain⟨hs,he⟩:=hsf;clear hF;(try simp only[Exit.then]);(repeat (first|go_skip|go_step));obtain⟨r0,r1,r2,r3,r4,r5⟩:=κ6 hs;refine bodyPost_ret (by simp[results,Tryz.results118,go_sem,r0,r1,r2,r3,r4,r5];try rfl) rfl ?_)
       exact⟨⟨11,0,false,false,false,0⟩,s6,rfl,HR.out,by (repeat (first|exact xE0 _|assumption|refine xE1 ?_ _|refine xE2 ?_|refine xE3 ?_ _|refine xE4 ?_ (by assumption)))⟩
    | false =>
     cases k8 with
     | true =>
      cases zd with
      | false =>
       have HSF:=η (set6 HO2.out HE.out (Nat.le_succ _) 12 0 false false false 0)
       go_wp2_with fail
       all_goals
        (have hsf:=HSF.out;generalize hF:(World.setCell (World.setCell (World.setCell (World.setCell (World.setCell (World.setCell wc ⟨w.heap.size+1,0,none⟩ (.int .u8 12)) ⟨w.heap.size+1,1,none⟩ (.int .u8 0)) ⟨w.heap.size+1,2,none⟩ (.bool false)) ⟨w.heap.size+1,3,none⟩ (.bool false)) ⟨w.heap.size+1,4,none⟩ (.bool false)) ⟨w.heap.size+1,5,none⟩ (.int .i64 0))=wF at hsf ⊢;obtain⟨hs,he⟩:=hsf;clear hF;(try simp only[Exit.then]);(repeat (first|go_skip|go_step));obtain⟨r0,r1,r2,r3,r4,r5⟩:=κ6 hs;refine bodyPost_ret (by simp[results,Tryz.results118,go_sem,r0,r1,r2,r3,r4,r5];try rfl) rfl ?_)
        exact⟨⟨12,0,false,false,false,0⟩,false,rfl,HR.out,by (repeat (first|exact xE0 _|assumption|refine xE1 ?_ _|refine xE2 ?_|refine xE3 ?_ _|refine xE4 ?_ (by assumption)))⟩
      | true =>
       have HSF:=η (set6 (zB (.cells #[.int .u8 x.op,.int .u8 x.dst,.int .u8 x.src,.int .i16 x.off,.int .i32 x.imm] 58) HO2.out) (HE.out.alloc' _) (Nat.le_succ _) 12 0 false false false 0)
       (have o1:=fun o=>zB o HO1.out;have o2:=fun o=>zB o HO2.out;have o3:=fun o=>zB o HO3.out;have a0o:=fun o=>cO (i:=0) (o1 o);have a1o:=fun o=>cO (i:=1) (o1 o);have a2o:=fun o=>cO (i:=2) (o1 o);have a3o:=fun o=>cO (i:=3) (o1 o);have a4o:=fun o=>cO (i:=4) (o1 o);have b0o:=fun o=>cO (i:=0) (o2 o);have b1o:=fun o=>cO (i:=1) (o2 o);have b2o:=fun o=>cO (i:=2) (o2 o);have b3o:=fun o=>cO (i:=3) (o2 o);have b4o:=fun o=>cO (i:=4) (o2 o);have b5o:=fun o=>cO (i:=5) (o2 o);have bfo:=fun o i=>zA (i:=i) (o2 o);have q0o:=fun o=>cO (i:=0) (o3 o);have q1o:=fun o=>cO (i:=1) (o3 o);have q2o:=fun o=>cO (i:=2) (o3 o);have q3o:=fun o=>cO (i:=3) (o3 o);have q4o:=fun o=>cO (i:=4) (o3 o);have q5o:=fun o=>cO (i:=5) (o3 o);simp only[gA,gB,gC]at a0o a1o a2o a3o a4o b0o b1o b2o b3o b4o b5o q0o q1o q2o q3o q4o q5o;clear o1 o2 o3)
       go_wp2_with fail
       refine(kP x true true true s8 _ hs8).mono ?_
       rintro e w5 ⟨rfl,rfl⟩
       go_wp2_with fail
       all_goals
        (have hsf:=HSF.out;generalize hF:(World.setCell (World.setCell (World.setCell (World.setCell (World.setCell (World.setCell (World.alloc wc (.cells #[.int .u8 x.op,.int .u8 x.dst,.int .u8 x.src,.int .i16 x.off,.int .i32 x.imm] 58)) ⟨w.heap.size+1,0,none⟩ (.int .u8 12)) ⟨w.heap.size+1,1,none⟩ (.int .u8 0)) ⟨w.heap.size+1,2,none⟩ (.bool false)) ⟨w.heap.size+1,3,none⟩ (.bool false)) ⟨w.heap.size+1,4,none⟩ (.bool false)) ⟨w.heap.size+1,5,none⟩ (.int .i64 0))=wF at hsf ⊢;obtain⟨hs,he⟩:=hsf;clear hF;(try simp only[Exit.then]);(repeat (first|go_skip|go_step));obtain⟨r0,r1,r2,r3,r4,r5⟩:=κ6 hs;refine bodyPost_ret (by simp[results,Tryz.results118,go_sem,r0,r1,r2,r3,r4,r5];try rfl) rfl ?_)
        exact⟨⟨12,0,false,false,false,0⟩,s8,rfl,HR.out,by (repeat (first|exact xE0 _|assumption|refine xE1 ?_ _|refine xE2 ?_|refine xE3 ?_ _|refine xE4 ?_ (by assumption)))⟩
     | false =>
      go_upto_if 66 with fail
      go_cut [66] (fun v wx=>v=.bool (g11 h)∧wx=wc)
      case first =>
       go_wp2_with fail
       all_goals
        go_meet
        exact⟨by simp only[g11, *,Bool.or_false,Bool.false_or,Bool.true_or,Bool.or_true],rfl⟩
      case rest =>
       obtain⟨rfl,rfl⟩:=hcut
       have HQ:=HW.out.2.2.2.2
       cases hg:g11 h with
       | true =>
        have HG:=η hg
        clear hg
        go_upto_region 22 with fail
        (obtain⟨W1,hE1,hB1,hO1,hS1⟩:=zP HO2.out HE.out (Nat.le_succ _) (10) (h) (wd) (rg) (false) (0);have X1:=η (zJ hO1 HO1.out (by omega));have X3:=η (zJ hO1 HO3.out (by omega));clear hO1;have HS1:=η hS1;clear hS1;have HB1:=η hB1;clear hB1;refine zC 8 W1 (by kernel_rfl) (by kernel_rfl) rfl rfl rfl (by kernel_rfl) ?_;apply Exists.intro;apply Exists.intro;refine⟨fun W hW=>?_,rfl,fun nn=>?_,fun W hW=>?_,fun nn=>?_⟩;{have aZ:=fun n:Grow W=>n.ext.obj (X1.out W hW);obtain⟨a0,a1,a2,a3,a4⟩:=χ5 aZ;clear aZ;have qZ:=fun n:Grow W=>n.ext.obj (X3.out W hW);obtain⟨q0,q1,q2,q3,q4,q5⟩:=χ6 qZ;clear qZ;simp only[List.take_succ_cons,List.take_zero];(repeat (go_big_quiet_step (exact Calls.grow1 (kP x (!rg) false rg _ _ hsb))));exact wpQuiet_nil rfl};{have O2:=nn.ext.obj HO2.out;obtain⟨b0,b1,b2,b3,b4,b5⟩:=κ6 O2;have bf:=fun i=>zA (i:=i) O2;clear O2;go_simp;exact HS1.out nn};{simp only[List.drop_succ_cons,List.drop_zero];(repeat (go_big_quiet_step (fail)));exact wpQuiet_nil rfl};have hs:=nn.ext.obj HB1.out;obtain⟨r0,r1,r2,r3,r4,r5⟩:=κ6 hs;(try simp only[Exit.then]);(repeat (first|go_skip|go_step));refine bodyPost_ret (by simp[results,Tryz.results118,go_sem,r0,r1,r2,r3,r4,r5];try rfl) rfl ?_)
        exact⟨⟨10,h,wd,rg,false,0⟩,_,rfl,by rw[HR.out,HG.out];rfl,hE1.trans' nn.ext⟩
       | false =>
        have HG:=η hg
        clear hg
        have HSF:=η (set6 HO2.out HE.out (Nat.le_succ _) 10 h wd rg false 0)
        go_wp2_with fail
        all_goals
         (have hsf:=HSF.out;generalize hF:(World.setCell (World.setCell (World.setCell (World.setCell (World.setCell (World.setCell wc ⟨w.heap.size+1,0,none⟩ (.int .u8 10)) ⟨w.heap.size+1,1,none⟩ (.int .u8 h)) ⟨w.heap.size+1,2,none⟩ (.bool wd)) ⟨w.heap.size+1,3,none⟩ (.bool rg)) ⟨w.heap.size+1,4,none⟩ (.bool false)) ⟨w.heap.size+1,5,none⟩ (.int .i64 0))=wF at hsf ⊢;obtain⟨hs,he⟩:=hsf;clear hF;(try simp only[Exit.then]);(repeat (first|go_skip|go_step));obtain⟨r0,r1,r2,r3,r4,r5⟩:=κ6 hs;refine bodyPost_ret (by simp[results,Tryz.results118,go_sem,r0,r1,r2,r3,r4,r5];try rfl) rfl ?_)
         exact⟨⟨10,h,wd,rg,false,0⟩,false,rfl,by rw[HR.out,HG.out];rfl,by (repeat (first|exact xE0 _|assumption|refine xE1 ?_ _|refine xE2 ?_|refine xE3 ?_ _|refine xE4 ?_ (by assumption)))⟩
def IdxI (xs:List Int)(y:Int)(w:World)(e:Ending)(w':World):Prop:=∃ i:Int,e=.returned (.int .i64 i)∧w'=w∧(decide (i ≥ 0)=xs.contains y)
theorem tG {xs:List Int}{y x:Int}{k:Nat}(h:(xs.take k).contains y=false)(hx:xs[k]?=some x)(hne:y≠x):(xs.take (k+1)).contains y=false:=by
 rw[List.take_add_one,hx]
 simp only[List.contains_eq_mem,decide_eq_false_iff_not,List.mem_append,Option.mem_toList,Option.mem_some_iff,not_or,Option.some.injEq]at h ⊢
 exact⟨h,fun e=>hne e.symm⟩
theorem el_int:El Tryz.prog 135 3 1 8 (.int .i64 0):=⟨Tryz.underlying135,by kernel_rfl,rfl,by decide,fun _=>by kernel_rfl⟩
theorem el_i32:El Tryz.prog 214 21 1 4 (.int .i32 0):=⟨Tryz.underlying214,by kernel_rfl,rfl,by decide,fun _=>by kernel_rfl⟩
set_option maxHeartbeats 400000 in
theorem index_i32 (v:Value)(xs:List Int)(y:Int)(w:World)(h:Rd w 1 (fun x=>[Value.int .i32 x]) v xs):
  Calls Tryz.prog 188 #[v,.int .i32 y] w (IdxI xs y w):=by
 obtain⟨a,n,c,rfl,hn,hN⟩:=h.val
 have HV:=η h
 clear h
 go_enter Tryz.func188,Tryz.ntmps188
 go_wp2
 go_loop [8] (fun i=>∃ k:Nat,k≤n∧i=.int .i64 k∧Hid ((xs.take k).contains y=false)) (fun i=>n - (intOf i).toNat)
 case atStart=>exact⟨0,Nat.zero_le _,rfl,η rfl⟩
 case round =>
  obtain⟨k,hk,rfl,HK⟩:=hrel
  by_cases hlt:k < n
  ·obtain⟨x,hx⟩:=zK (xs:=xs) (k:=k) (by have:=hN.out;omega)
   have ia:=fun W=>HV.out.run_at (P:=Tryz.prog) el_i32.under el_i32.size .i64 (k:Int) (by omega) (by omega) W
   have ca:=HV.out.cell hx (j:=0) rfl
   simp only[Nat.mul_one,Nat.add_zero,Int.toNat_natCast]at ia ca
   have HX:=η hx
   clear hx
   by_cases hy:y=x
   ·have hb:(y == x)=true:=by simpa using hy
    have HY:=η hy
    clear hy
    go_wp2
    go_returns
    refine⟨k,rfl,rfl,?_⟩
    have:y∈xs:=by rw[HY.out];exact List.mem_of_getElem? HX.out
    simp[this]
   ·have hb:(y == x)=false:=by simpa using hy
    have HY:=η hy
    clear hy
    go_wp2
    go_round
    case rel=>exact⟨k+1,by omega,by go_num,η (tG HK.out HX.out HY.out)⟩
    case measure=>simp[intOf];omega
  ·go_wp2
   go_returns
   refine⟨-1,rfl,rfl,?_⟩
   have h:=HK.out
   rw[List.take_of_length_le (by have:=hN.out;omega)]at h
   rw[h];rfl
set_option maxHeartbeats 400000 in
theorem contains_i32 (v:Value)(xs:List Int)(y:Int)(w:World)(h:Rd w 1 (fun x=>[Value.int .i32 x]) v xs):
  Calls Tryz.prog 157 #[v,.int .i32 y] w fun e w'=>e=.returned (.bool (xs.contains y))∧w'=w:=by
 have HV:=η h
 clear h
 go_enter Tryz.func157,Tryz.ntmps157
 go_wp2_with fail
 refine(index_i32 v xs y _ HV.out).mono ?_
 rintro e w' ⟨i,rfl,rfl,hi⟩
 have HI:=η hi
 clear hi
 go_wp2_with fail
 go_returns
 exact⟨by simp only[HI.out];rfl,rfl⟩
set_option maxHeartbeats 400000 in
theorem r_in (v:Value)(xs:List Int)(y:Int)(w:World)(h:Rd w 1 (fun x=>[Value.int .u8 x]) v xs):
  Calls Tryz.prog 77 #[v,.int .u8 y] w fun e w'=>e=.returned (.bool (xs.contains y))∧w'=w:=by
 obtain⟨a,n,c,rfl,hn,hN⟩:=h.val
 have HV:=η h
 clear h
 go_enter Tryz.func77,Tryz.ntmps77
 go_wp2
 go_loop [5] (fun i=>∃ k:Nat,k≤n∧i=.int .i64 k∧Hid ((xs.take k).contains y=false)) (fun i=>n - (intOf i).toNat)
 case atStart=>exact⟨0,Nat.zero_le _,rfl,η rfl⟩
 case round =>
  obtain⟨k,hk,rfl,HK⟩:=hrel
  by_cases hlt:k < n
  ·obtain⟨x,hx⟩:=zK (xs:=xs) (k:=k) (by have:=hN.out;omega)
   have ia:=fun W=>HV.out.run_at (P:=Tryz.prog) el_u8.under el_u8.size .i64 (k:Int) (by omega) (by omega) W
   have ca:=HV.out.cell hx (j:=0) rfl
   simp only[Nat.mul_one,Nat.add_zero,Int.toNat_natCast]at ia ca
   have HX:=η hx
   clear hx
   by_cases hy:y=x
   ·have hb:(x == y)=true:=by simpa using hy.symm
    have HY:=η hy
    clear hy
    go_wp2
    go_returns
    have:y∈xs:=by rw[HY.out];exact List.mem_of_getElem? HX.out
    exact⟨by simp[this],rfl⟩
   ·have hb:(x == y)=false:=by simpa using fun e=>hy e.symm
    have HY:=η hy
    clear hy
    go_wp2
    go_round
    case rel=>exact⟨k+1,by omega,by go_num,η (tG HK.out HX.out HY.out)⟩
    case measure=>simp[intOf];omega
  ·go_wp2
   go_returns
   have h:=HK.out
   rw[List.take_of_length_le (by have:=hN.out;omega)]at h
   exact⟨by rw[show decide (y∈xs)=false by simpa using h];rfl,rfl⟩
end Go.Proofs.YtppefchjoodgnaaGreat
