import Derived.Test.YtppefchjoodgnaaGreatPQ26
set_option linter.unusedSimpArgs false
set_option linter.unusedVariables false
namespace Go.Proofs.YtppefchjoodgnaaGreat
open Go.RowKit
set_option maxRecDepth 20000 in
set_option maxHeartbeats 2000000 in
theorem r_memory (x:Ins)(w:World)(hx:x.Ok):Calls Tryz.prog 81 #[x.agg] w (WhA (memR x) w):=by
 obtain⟨sb1,sb2,sb3,sb4⟩:=sz_bound x.op hx.op
 unfold memR
 obtain⟨L,hL⟩:∃ L,szL x.op=L:=⟨_,rfl⟩
 obtain⟨S,hS⟩:∃ S,szS x.op=S:=⟨_,rfl⟩
 obtain⟨T,hT⟩:∃ T,szT x.op=T:=⟨_,rfl⟩
 obtain⟨U,hU⟩:∃ U,szU x.op=U:=⟨_,rfl⟩
 obtain⟨zd,hzd⟩:∃ z,(x.dst != 10)=z:=⟨_,rfl⟩
 obtain⟨o1,ho1⟩:∃ z,xJ x true true false=z:=⟨_,rfl⟩
 obtain⟨o2,ho2⟩:∃ z,xJ x false true true=z:=⟨_,rfl⟩
 obtain⟨k195,h195⟩:∃ z,(x.op == 195)=z:=⟨_,rfl⟩
 obtain⟨k219,h219⟩:∃ z,(x.op == 219)=z:=⟨_,rfl⟩
 obtain⟨i0,hi0⟩:∃ z,(x.imm == 0)=z:=⟨_,rfl⟩
 obtain⟨i64,hi64⟩:∃ z,(x.imm == 64)=z:=⟨_,rfl⟩
 obtain⟨i80,hi80⟩:∃ z,(x.imm == 80)=z:=⟨_,rfl⟩
 obtain⟨i160,hi160⟩:∃ z,(x.imm == 160)=z:=⟨_,rfl⟩
 rw[hL,hS,hT,hU,hzd,ho1,ho2,h195,h219,hi0,hi64,hi80,hi160]
 rw[hL]at sb1
 rw[hS]at sb2
 rw[hT]at sb3
 rw[hU]at sb4
 obtain⟨L0,L8⟩:=sb1
 obtain⟨S0,S8⟩:=sb2
 obtain⟨T0,T8⟩:=sb3
 obtain⟨U0,U8⟩:=sb4
 obtain⟨R,hR⟩:∃ R,R=(if 0 < L+S then (if (zd && o1)=true then some (⟨5,0,false,false,decide (S > 0),L+S⟩:Wh) else none) else if 0 < T then (if o2=true then some ⟨6,0,false,false,false,T⟩ else none) else if 0 < U then (if o1=true then some ⟨7,0,false,true,false,U⟩ else none) else if (k195 || k219)=true then (if (i0 || (i64 || (i80 || i160)))=true then some ⟨8,x.imm%256,false,true,false,if k219=true then 8 else 4⟩ else none) else none):=⟨_,rfl⟩
 rw[← hR]
 have HR:=η hR
 have HL:=η hL
 have HS:=η hS
 have HT:=η hT
 have HU:=η hU
 clear hR hL hS hT hU
 go_enter Tryz.func81,Tryz.ntmps81
 go_upto_region 1 with fail
 have HX0:Hid (Ext w ((w.alloc (zQ x)).alloc (zF Wh.zero))):=η (by (repeat (first|exact xE0 _|assumption|refine xE1 ?_ _|refine xE2 ?_|refine xE3 ?_ _|refine xE4 ?_ (by assumption))))
 have HO1:Hid (((w.alloc (zQ x)).alloc (zF Wh.zero)).heap[w.heap.size]?=some (zQ x)):=η (by (repeat (first|(refine zD _ _ ?_;simp;done)|refine zB _ ?_)))
 have HO2:Hid (((w.alloc (zQ x)).alloc (zF Wh.zero)).heap[w.heap.size+1]?=some (zF Wh.zero)):=η (by (repeat (first|(refine zD _ _ ?_;simp;done)|refine zB _ ?_)))
 generalize hF:(w.alloc (zQ x)).alloc (zF Wh.zero)=w0 at HX0 HO1 HO2 ⊢
 clear hF
 (have o1:=HO1.out;obtain⟨a0,a1,a2,a3,a4⟩:=κ5 o1;clear o1)
 have hlt:=zE HO1.out
 go_wp2_with fail
 clear a0 a1 a2 a3 a4 hlt
 refine(r_sizesL [97,105,113,121] x.op _ _ _ _ rfl rfl rfl (by decide) L HL.out).mono ?_
 rintro e w1 ⟨rfl,hE⟩
 have HE1:=η hE
 have HX1:Hid (Ext w w1):=η (Ext.trans' (Ext.alloc' HX0.out _) HE1.out)
 replace HO1:=η (hE.obj (zB _ HO1.out))
 replace HO2:=η (hE.obj (zB _ HO2.out))
 clear hE
 (have o1:=HO1.out;obtain⟨a0,a1,a2,a3,a4⟩:=κ5 o1;clear o1)
 have hlt:=zE HO1.out
 go_wp2_with fail
 clear a0 a1 a2 a3 a4 hlt
 refine(r_sizesL [129,137,145] x.op _ _ _ _ rfl rfl rfl (by decide) S HS.out).mono ?_
 rintro e w2 ⟨rfl,hE⟩
 have HE2:=η hE
 have HX2:Hid (Ext w w2):=η (Ext.trans' (Ext.alloc' HX1.out _) HE2.out)
 replace HO1:=η (hE.obj (zB _ HO1.out))
 replace HO2:=η (hE.obj (zB _ HO2.out))
 clear hE
 (have o1:=HO1.out;obtain⟨a0,a1,a2,a3,a4⟩:=κ5 o1;clear o1)
 have hlt:=zE HO1.out
 go_wp2_with fail
 clear a0 a1 a2 a3 a4 hlt
 refine(r_sizesL [98,106,114,122] x.op _ _ _ _ rfl rfl rfl (by decide) T HT.out).mono ?_
 rintro e w3 ⟨rfl,hE⟩
 have HE3:=η hE
 have HX3:Hid (Ext w w3):=η (Ext.trans' (Ext.alloc' HX2.out _) HE3.out)
 replace HO1:=η (hE.obj (zB _ HO1.out))
 replace HO2:=η (hE.obj (zB _ HO2.out))
 clear hE
 (have o1:=HO1.out;obtain⟨a0,a1,a2,a3,a4⟩:=κ5 o1;clear o1)
 have hlt:=zE HO1.out
 go_wp2_with fail
 clear a0 a1 a2 a3 a4 hlt
 refine(r_sizesL [99,107,115,123] x.op _ _ _ _ rfl rfl rfl (by decide) U HU.out).mono ?_
 rintro e w4 ⟨rfl,hE⟩
 have HE4:=η hE
 have HX4:Hid (Ext w w4):=η (Ext.trans' (Ext.alloc' HX3.out _) HE4.out)
 replace HO1:=η (hE.obj (zB _ HO1.out))
 replace HO2:=η (hE.obj (zB _ HO2.out))
 clear hE
 have HE:=HX4
 have HO3:=HO2
 clear HE1 HE2 HE3 HE4 HX0 HX1 HX2 HX3
 obtain⟨sg,hsg⟩:∃ z,decide (S > 0)=z:=⟨_,rfl⟩
 rw[hsg]at HR
 by_cases c1:0 < L+S
 ·have HR1:Hid (R=if (zd && o1)=true then some (⟨5,0,false,false,sg,L+S⟩:Wh) else none):=η (by rw[HR.out,if_pos c1])
  clear HR
  (have o1:=HO1.out;obtain⟨a0,a1,a2,a3,a4⟩:=κ5 o1;clear o1)
  cases zd with
  | false =>
   (have o2:=HO2.out;obtain⟨b0,b1,b2,b3,b4,b5⟩:=κ6 o2;have bf:=fun i=>zA (i:=i) o2;clear o2)
   have HSF:=η (set6 HO2.out HE.out (Nat.le_succ _) 5 0 false false sg (L+S))
   go_wp2_with fail
   (have hsf:=HSF.out;generalize hF:(World.setCell (World.setCell (World.setCell (World.setCell (World.setCell (World.setCell w4 ⟨w.heap.size+1,0,none⟩ (.int .u8 5)) ⟨w.heap.size+1,1,none⟩ (.int .u8 0)) ⟨w.heap.size+1,2,none⟩ (.bool false)) ⟨w.heap.size+1,3,none⟩ (.bool false)) ⟨w.heap.size+1,4,none⟩ (.bool sg)) ⟨w.heap.size+1,5,none⟩ (.int .i64 (L+S)))=wF at hsf ⊢;obtain⟨hs,he⟩:=hsf;clear hF;(try simp only[Exit.then]);(repeat (first|go_skip|go_step));obtain⟨r0,r1,r2,r3,r4,r5⟩:=κ6 hs;refine bodyPost_ret (by simp[results,Tryz.results81,go_sem,r0,r1,r2,r3,r4,r5];try rfl) rfl ?_)
   exact⟨⟨5,0,false,false,sg,L+S⟩,false,rfl,by rw[HR1.out];rfl,by (repeat (first|exact xE0 _|assumption|refine xE1 ?_ _|refine xE2 ?_|refine xE3 ?_ _|refine xE4 ?_ (by assumption)))⟩
  | true =>
   (go_wp2_with fail;refine(qK x true true false o1 _ ho1).mono ?_;rintro e w5 ⟨rfl,hE5⟩;have HE5:=η (HE.out.trans' hE5);have O5:=η (hE5.obj HO2.out);have HSF:=η (set6 O5.out HE5.out (Nat.le_succ _) (5) (0) (false) (false) (sg) ((L+S)));clear hE5;obtain⟨b0,b1,b2,b3,b4,b5⟩:=κ6 O5.out;have bf:=fun i=>zA (i:=i) O5.out;go_wp2_with fail;(have hsf:=HSF.out;generalize hF:(World.setCell (World.setCell (World.setCell (World.setCell (World.setCell (World.setCell w5 ⟨w.heap.size+1,0,none⟩ (.int .u8 5)) ⟨w.heap.size+1,1,none⟩ (.int .u8 0)) ⟨w.heap.size+1,2,none⟩ (.bool false)) ⟨w.heap.size+1,3,none⟩ (.bool false)) ⟨w.heap.size+1,4,none⟩ (.bool sg)) ⟨w.heap.size+1,5,none⟩ (.int .i64 (L+S)))=wF at hsf ⊢;obtain⟨hs,he⟩:=hsf;clear hF;(try simp only[Exit.then]);(repeat (first|go_skip|go_step));obtain⟨r0,r1,r2,r3,r4,r5⟩:=κ6 hs;refine bodyPost_ret (by simp[results,Tryz.results81,go_sem,r0,r1,r2,r3,r4,r5];try rfl) rfl ?_))
   exact⟨⟨5,0,false,false,sg,L+S⟩,o1,rfl,by rw[HR1.out];rfl,by (repeat (first|exact xE0 _|assumption|refine xE1 ?_ _|refine xE2 ?_|refine xE3 ?_ _|refine xE4 ?_ (by assumption)))⟩
 ·by_cases c2:0 < T
  ·have HR1:Hid (R=if o2=true then some (⟨6,0,false,false,false,T⟩:Wh) else none):=η (by rw[HR.out,if_neg c1,if_pos c2])
   clear HR
   (have o1:=HO1.out;obtain⟨a0,a1,a2,a3,a4⟩:=κ5 o1;clear o1)
   (go_wp2_with fail;refine(qK x false true true o2 _ ho2).mono ?_;rintro e w5 ⟨rfl,hE5⟩;have HE5:=η (HE.out.trans' hE5);have O5:=η (hE5.obj HO2.out);have HSF:=η (set6 O5.out HE5.out (Nat.le_succ _) (6) (0) (false) (false) (false) (T));clear hE5;obtain⟨b0,b1,b2,b3,b4,b5⟩:=κ6 O5.out;have bf:=fun i=>zA (i:=i) O5.out;go_wp2_with fail;(have hsf:=HSF.out;generalize hF:(World.setCell (World.setCell (World.setCell (World.setCell (World.setCell (World.setCell w5 ⟨w.heap.size+1,0,none⟩ (.int .u8 6)) ⟨w.heap.size+1,1,none⟩ (.int .u8 0)) ⟨w.heap.size+1,2,none⟩ (.bool false)) ⟨w.heap.size+1,3,none⟩ (.bool false)) ⟨w.heap.size+1,4,none⟩ (.bool false)) ⟨w.heap.size+1,5,none⟩ (.int .i64 T))=wF at hsf ⊢;obtain⟨hs,he⟩:=hsf;clear hF;(try simp only[Exit.then]);(repeat (first|go_skip|go_step));obtain⟨r0,r1,r2,r3,r4,r5⟩:=κ6 hs;refine bodyPost_ret (by simp[results,Tryz.results81,go_sem,r0,r1,r2,r3,r4,r5];try rfl) rfl ?_))
   exact⟨⟨6,0,false,false,false,T⟩,o2,rfl,HR1.out,by (repeat (first|exact xE0 _|assumption|refine xE1 ?_ _|refine xE2 ?_|refine xE3 ?_ _|refine xE4 ?_ (by assumption)))⟩
  ·by_cases c3:0 < U
   ·have HR1:Hid (R=if o1=true then some (⟨7,0,false,true,false,U⟩:Wh) else none):=η (by rw[HR.out,if_neg c1,if_neg c2,if_pos c3])
    clear HR
    (have o1:=HO1.out;obtain⟨a0,a1,a2,a3,a4⟩:=κ5 o1;clear o1)
    (go_wp2_with fail;refine(qK x true true false o1 _ ho1).mono ?_;rintro e w5 ⟨rfl,hE5⟩;have HE5:=η (HE.out.trans' hE5);have O5:=η (hE5.obj HO2.out);have HSF:=η (set6 O5.out HE5.out (Nat.le_succ _) (7) (0) (false) (true) (false) (U));clear hE5;obtain⟨b0,b1,b2,b3,b4,b5⟩:=κ6 O5.out;have bf:=fun i=>zA (i:=i) O5.out;go_wp2_with fail;(have hsf:=HSF.out;generalize hF:(World.setCell (World.setCell (World.setCell (World.setCell (World.setCell (World.setCell w5 ⟨w.heap.size+1,0,none⟩ (.int .u8 7)) ⟨w.heap.size+1,1,none⟩ (.int .u8 0)) ⟨w.heap.size+1,2,none⟩ (.bool false)) ⟨w.heap.size+1,3,none⟩ (.bool true)) ⟨w.heap.size+1,4,none⟩ (.bool false)) ⟨w.heap.size+1,5,none⟩ (.int .i64 U))=wF at hsf ⊢;obtain⟨hs,he⟩:=hsf;clear hF;(try simp only[Exit.then]);(repeat (first|go_skip|go_step));obtain⟨r0,r1,r2,r3,r4,r5⟩:=κ6 hs;refine bodyPost_ret (by simp[results,Tryz.results81,go_sem,r0,r1,r2,r3,r4,r5];try rfl) rfl ?_))
    exact⟨⟨7,0,false,true,false,U⟩,o1,rfl,HR1.out,by (repeat (first|exact xE0 _|assumption|refine xE1 ?_ _|refine xE2 ?_|refine xE3 ?_ _|refine xE4 ?_ (by assumption)))⟩
   ·obtain⟨m,hm⟩:∃ m:Int,(if k219=true then (8:Int) else 4)=m:=⟨_,rfl⟩
    have HR1:Hid (R=if (k195 || k219)=true then (if (i0 || (i64 || (i80 || i160)))=true then some ⟨8,x.imm%256,false,true,false,m⟩ else none) else none):=η (by rw[HR.out,if_neg c1,if_neg c2,if_neg c3,hm])
    have HM:=η hm
    clear HR hm
    have e9:(k195 || k219)=true∨(k195 || k219)=false:=by cases k195<;>cases k219<;>simp
    rcases e9 with e9|e9
    ·have HR2:Hid (R=if (i0 || (i64 || (i80 || i160)))=true then some ⟨8,x.imm%256,false,true,false,m⟩ else none):=η (by rw[HR1.out,if_pos e9])
     have HK:=η e9
     clear e9 HR1
     (have o1:=HO1.out;obtain⟨a0,a1,a2,a3,a4⟩:=κ5 o1;clear o1)
     have hlt:=zE HO1.out
     have hlt2:=zE HO2.out
     go_upto_region 11 with fail
     go_cut [57] (fun v wx=>v=.bool true∧wx=w4)
     case first =>
      cases k195
      ·obtain rfl:k219=true:=by simpa using HK.out
       go_wp2_with fail
       go_meet
       exact⟨rfl,rfl⟩
      ·go_wp2_with fail
       go_meet
       exact⟨rfl,rfl⟩
     case rest =>
      obtain⟨rfl,hwc⟩:=hcut
      obtain rfl:=hwc.symm
      go_upto_if 69 with fail
      go_cut [8] (fun v wx=>v=.pointer (some ⟨w4.heap.size,0,none⟩)∧Hid (Ext w wx∧wx.heap[w.heap.size]?=some (zQ x)∧wx.heap[w.heap.size+1]?=some (zF Wh.zero)∧wx.heap[w4.heap.size]?=some (zF ⟨8,0,false,true,false,m⟩)))
      case first =>
       have HT1:Hid ((w4.alloc (zF ⟨8,0,false,true,false,4⟩)).heap[w4.heap.size]?=some (zF ⟨8,0,false,true,false,4⟩)):=η (by (repeat (first|(refine zD _ _ ?_;simp;done)|refine zB _ ?_)))
       have HO1':=η (zB (zF ⟨8,0,false,true,false,4⟩) HO1.out)
       have HO2':=η (zB (zF ⟨8,0,false,true,false,4⟩) HO2.out)
       cases k219
       ·obtain rfl:m=4:=HM.out.symm
        go_wp2_with fail
        go_meet
        exact⟨rfl,η ⟨by have:=HE.out;(repeat (first|exact xE0 _|assumption|refine xE1 ?_ _|refine xE2 ?_|refine xE3 ?_ _|refine xE4 ?_ (by assumption))),HO1'.out,HO2'.out,HT1.out⟩⟩
       ·obtain rfl:m=8:=HM.out.symm
        go_wp2_with fail
        go_meet
        refine⟨rfl,η ⟨by have:=HE.out;(repeat (first|exact xE0 _|assumption|refine xE1 ?_ _|refine xE2 ?_|refine xE3 ?_ _|refine xE4 ?_ (by assumption))),?_,?_,?_⟩⟩
        ·exact zB _ HO1.out
        ·exact zB _ HO2.out
        ·(repeat (first|(refine zD _ _ ?_;simp;done)|refine zB _ ?_))
      case rest =>
       obtain⟨rfl,HW⟩:=hcut
       have hq4:=hlt2
       replace HO1:=η HW.out.2.1
       replace HO2:=η HW.out.2.2.1
       have HO3:=η HW.out.2.2.2
       replace HE:=η HW.out.1
       have hq5:=hlt
       clear a0 a1 a2 a3 a4
       go_upto_region 15 with fail
       go_cut [8] (fun v wx=>v=.pointer (some ⟨w4.heap.size,0,none⟩)∧Hid (Ext w wx∧wx.heap[w.heap.size]?=some (zQ x)∧wx.heap[w.heap.size+1]?=some (zF Wh.zero)∧wx.heap[w4.heap.size]?=some (zF ⟨8,x.imm%256,false,true,false,m⟩)))
       case first =>
        have ob:=fun i=>zA (i:=i) HO3.out
        (have o1:=HO1.out;have o3:=HO3.out;obtain⟨a0,a1,a2,a3,a4⟩:=κ5 o1;obtain⟨q0,q1,q2,q3,q4,q5⟩:=κ6 o3;clear o1 o3)
        obtain⟨s1,s2,s3⟩:=setop HO3.out HE.out (by omega) (x.imm%256)
        have S1:=η s1
        have S2:=η s2
        have S3:=η s3
        clear s1 s2 s3
        go_wp2_with fail
        go_meet
        exact⟨rfl,η ⟨S3.out,(S2.out _ (by omega)).trans HO1.out,(S2.out _ (by omega)).trans HO2.out,S1.out⟩⟩
       case rest =>
        obtain⟨rfl,HV⟩:=hcut
        replace HO1:=η HV.out.2.1
        replace HO2:=η HV.out.2.2.1
        replace HO3:=η HV.out.2.2.2
        replace HE:=η HV.out.1
        have HQ:=hq4
        go_upto_region 16 with fail
        cases i0
        ·cases i64
         ·cases i80
          ·cases i160
           ·(obtain⟨W1,hE1,hB1,hO1,hS1⟩:=zP HO2.out HE.out (Nat.le_succ _) (8) ((x.imm%256)) (false) (true) (false) (m);have X1:=η (zJ hO1 HO1.out (by omega));have X3:=η (zJ hO1 HO3.out (by omega));clear hO1;have HS1:=η hS1;clear hS1;have HB1:=η hB1;clear hB1;refine zC 19 W1 (by kernel_rfl) (by kernel_rfl) rfl rfl rfl (by kernel_rfl) ?_;apply Exists.intro;apply Exists.intro;refine⟨fun W hW=>?_,rfl,fun nn=>?_,fun W hW=>?_,fun nn=>?_⟩;{have aZ:=fun n:Grow W=>n.ext.obj (X1.out W hW);obtain⟨a0,a1,a2,a3,a4⟩:=χ5 aZ;clear aZ;have qZ:=fun n:Grow W=>n.ext.obj (X3.out W hW);obtain⟨q0,q1,q2,q3,q4,q5⟩:=χ6 qZ;clear qZ;simp only[List.take_succ_cons,List.take_zero];(repeat (go_big_quiet_step (fail)));exact wpQuiet_nil rfl};{have O2:=nn.ext.obj HO2.out;obtain⟨b0,b1,b2,b3,b4,b5⟩:=κ6 O2;have bf:=fun i=>zA (i:=i) O2;clear O2;go_simp;exact HS1.out nn};{simp only[List.drop_succ_cons,List.drop_zero];(repeat (go_big_quiet_step (fail)));exact wpQuiet_nil rfl};have hs:=nn.ext.obj HB1.out;obtain⟨r0,r1,r2,r3,r4,r5⟩:=κ6 hs;(try simp only[Exit.then]);(repeat (first|go_skip|go_step));refine bodyPost_ret (by simp[results,Tryz.results81,go_sem,r0,r1,r2,r3,r4,r5];try rfl) rfl ?_)
            exact⟨⟨8,x.imm%256,false,true,false,m⟩,_,rfl,by rw[HR2.out];rfl,hE1.trans' nn.ext⟩
           ·(obtain⟨W1,hE1,hB1,hO1,hS1⟩:=zP HO2.out HE.out (Nat.le_succ _) (8) ((x.imm%256)) (false) (true) (false) (m);have X1:=η (zJ hO1 HO1.out (by omega));have X3:=η (zJ hO1 HO3.out (by omega));clear hO1;have HS1:=η hS1;clear hS1;have HB1:=η hB1;clear hB1;refine zC 19 W1 (by kernel_rfl) (by kernel_rfl) rfl rfl rfl (by kernel_rfl) ?_;apply Exists.intro;apply Exists.intro;refine⟨fun W hW=>?_,rfl,fun nn=>?_,fun W hW=>?_,fun nn=>?_⟩;{have aZ:=fun n:Grow W=>n.ext.obj (X1.out W hW);obtain⟨a0,a1,a2,a3,a4⟩:=χ5 aZ;clear aZ;have qZ:=fun n:Grow W=>n.ext.obj (X3.out W hW);obtain⟨q0,q1,q2,q3,q4,q5⟩:=χ6 qZ;clear qZ;simp only[List.take_succ_cons,List.take_zero];(repeat (go_big_quiet_step (fail)));exact wpQuiet_nil rfl};{have O2:=nn.ext.obj HO2.out;obtain⟨b0,b1,b2,b3,b4,b5⟩:=κ6 O2;have bf:=fun i=>zA (i:=i) O2;clear O2;go_simp;exact HS1.out nn};{simp only[List.drop_succ_cons,List.drop_zero];(repeat (go_big_quiet_step (fail)));exact wpQuiet_nil rfl};have hs:=nn.ext.obj HB1.out;obtain⟨r0,r1,r2,r3,r4,r5⟩:=κ6 hs;(try simp only[Exit.then]);(repeat (first|go_skip|go_step));refine bodyPost_ret (by simp[results,Tryz.results81,go_sem,r0,r1,r2,r3,r4,r5];try rfl) rfl ?_)
            exact⟨⟨8,x.imm%256,false,true,false,m⟩,_,rfl,by rw[HR2.out];rfl,hE1.trans' nn.ext⟩
          ·(obtain⟨W1,hE1,hB1,hO1,hS1⟩:=zP HO2.out HE.out (Nat.le_succ _) (8) ((x.imm%256)) (false) (true) (false) (m);have X1:=η (zJ hO1 HO1.out (by omega));have X3:=η (zJ hO1 HO3.out (by omega));clear hO1;have HS1:=η hS1;clear hS1;have HB1:=η hB1;clear hB1;refine zC 19 W1 (by kernel_rfl) (by kernel_rfl) rfl rfl rfl (by kernel_rfl) ?_;apply Exists.intro;apply Exists.intro;refine⟨fun W hW=>?_,rfl,fun nn=>?_,fun W hW=>?_,fun nn=>?_⟩;{have aZ:=fun n:Grow W=>n.ext.obj (X1.out W hW);obtain⟨a0,a1,a2,a3,a4⟩:=χ5 aZ;clear aZ;have qZ:=fun n:Grow W=>n.ext.obj (X3.out W hW);obtain⟨q0,q1,q2,q3,q4,q5⟩:=χ6 qZ;clear qZ;simp only[List.take_succ_cons,List.take_zero];(repeat (go_big_quiet_step (fail)));exact wpQuiet_nil rfl};{have O2:=nn.ext.obj HO2.out;obtain⟨b0,b1,b2,b3,b4,b5⟩:=κ6 O2;have bf:=fun i=>zA (i:=i) O2;clear O2;go_simp;exact HS1.out nn};{simp only[List.drop_succ_cons,List.drop_zero];(repeat (go_big_quiet_step (fail)));exact wpQuiet_nil rfl};have hs:=nn.ext.obj HB1.out;obtain⟨r0,r1,r2,r3,r4,r5⟩:=κ6 hs;(try simp only[Exit.then]);(repeat (first|go_skip|go_step));refine bodyPost_ret (by simp[results,Tryz.results81,go_sem,r0,r1,r2,r3,r4,r5];try rfl) rfl ?_)
           exact⟨⟨8,x.imm%256,false,true,false,m⟩,_,rfl,by rw[HR2.out];rfl,hE1.trans' nn.ext⟩
         ·(obtain⟨W1,hE1,hB1,hO1,hS1⟩:=zP HO2.out HE.out (Nat.le_succ _) (8) ((x.imm%256)) (false) (true) (false) (m);have X1:=η (zJ hO1 HO1.out (by omega));have X3:=η (zJ hO1 HO3.out (by omega));clear hO1;have HS1:=η hS1;clear hS1;have HB1:=η hB1;clear hB1;refine zC 19 W1 (by kernel_rfl) (by kernel_rfl) rfl rfl rfl (by kernel_rfl) ?_;apply Exists.intro;apply Exists.intro;refine⟨fun W hW=>?_,rfl,fun nn=>?_,fun W hW=>?_,fun nn=>?_⟩;{have aZ:=fun n:Grow W=>n.ext.obj (X1.out W hW);obtain⟨a0,a1,a2,a3,a4⟩:=χ5 aZ;clear aZ;have qZ:=fun n:Grow W=>n.ext.obj (X3.out W hW);obtain⟨q0,q1,q2,q3,q4,q5⟩:=χ6 qZ;clear qZ;simp only[List.take_succ_cons,List.take_zero];(repeat (go_big_quiet_step (fail)));exact wpQuiet_nil rfl};{have O2:=nn.ext.obj HO2.out;obtain⟨b0,b1,b2,b3,b4,b5⟩:=κ6 O2;have bf:=fun i=>zA (i:=i) O2;clear O2;go_simp;exact HS1.out nn};{simp only[List.drop_succ_cons,List.drop_zero];(repeat (go_big_quiet_step (fail)));exact wpQuiet_nil rfl};have hs:=nn.ext.obj HB1.out;obtain⟨r0,r1,r2,r3,r4,r5⟩:=κ6 hs;(try simp only[Exit.then]);(repeat (first|go_skip|go_step));refine bodyPost_ret (by simp[results,Tryz.results81,go_sem,r0,r1,r2,r3,r4,r5];try rfl) rfl ?_)
          exact⟨⟨8,x.imm%256,false,true,false,m⟩,_,rfl,by rw[HR2.out];rfl,hE1.trans' nn.ext⟩
        ·(obtain⟨W1,hE1,hB1,hO1,hS1⟩:=zP HO2.out HE.out (Nat.le_succ _) (8) ((x.imm%256)) (false) (true) (false) (m);have X1:=η (zJ hO1 HO1.out (by omega));have X3:=η (zJ hO1 HO3.out (by omega));clear hO1;have HS1:=η hS1;clear hS1;have HB1:=η hB1;clear hB1;refine zC 19 W1 (by kernel_rfl) (by kernel_rfl) rfl rfl rfl (by kernel_rfl) ?_;apply Exists.intro;apply Exists.intro;refine⟨fun W hW=>?_,rfl,fun nn=>?_,fun W hW=>?_,fun nn=>?_⟩;{have aZ:=fun n:Grow W=>n.ext.obj (X1.out W hW);obtain⟨a0,a1,a2,a3,a4⟩:=χ5 aZ;clear aZ;have qZ:=fun n:Grow W=>n.ext.obj (X3.out W hW);obtain⟨q0,q1,q2,q3,q4,q5⟩:=χ6 qZ;clear qZ;simp only[List.take_succ_cons,List.take_zero];(repeat (go_big_quiet_step (fail)));exact wpQuiet_nil rfl};{have O2:=nn.ext.obj HO2.out;obtain⟨b0,b1,b2,b3,b4,b5⟩:=κ6 O2;have bf:=fun i=>zA (i:=i) O2;clear O2;go_simp;exact HS1.out nn};{simp only[List.drop_succ_cons,List.drop_zero];(repeat (go_big_quiet_step (fail)));exact wpQuiet_nil rfl};have hs:=nn.ext.obj HB1.out;obtain⟨r0,r1,r2,r3,r4,r5⟩:=κ6 hs;(try simp only[Exit.then]);(repeat (first|go_skip|go_step));refine bodyPost_ret (by simp[results,Tryz.results81,go_sem,r0,r1,r2,r3,r4,r5];try rfl) rfl ?_)
         exact⟨⟨8,x.imm%256,false,true,false,m⟩,_,rfl,by rw[HR2.out];rfl,hE1.trans' nn.ext⟩
    ·have HR2:Hid (R=none):=η (by rw[HR1.out,e9];rfl)
     obtain⟨rfl,rfl⟩:k195=false∧k219=false:=by cases k195<;>cases k219<;>simp_all
     clear e9 HR1
     have HSF:=η (set6 HO2.out HE.out (Nat.le_succ _) 0 0 false false false 0)
     (have o1:=HO1.out;obtain⟨a0,a1,a2,a3,a4⟩:=κ5 o1;clear o1)
     (have o2:=HO2.out;obtain⟨b0,b1,b2,b3,b4,b5⟩:=κ6 o2;have bf:=fun i=>zA (i:=i) o2;clear o2)
     go_wp2_with fail
     (have hsf:=HSF.out;generalize hF:(World.setCell (World.setCell (World.setCell (World.setCell (World.setCell (World.setCell w4 ⟨w.heap.size+1,0,none⟩ (.int .u8 0)) ⟨w.heap.size+1,1,none⟩ (.int .u8 0)) ⟨w.heap.size+1,2,none⟩ (.bool false)) ⟨w.heap.size+1,3,none⟩ (.bool false)) ⟨w.heap.size+1,4,none⟩ (.bool false)) ⟨w.heap.size+1,5,none⟩ (.int .i64 0))=wF at hsf ⊢;obtain⟨hs,he⟩:=hsf;clear hF;(try simp only[Exit.then]);(repeat (first|go_skip|go_step));obtain⟨r0,r1,r2,r3,r4,r5⟩:=κ6 hs;refine bodyPost_ret (by simp[results,Tryz.results81,go_sem,r0,r1,r2,r3,r4,r5];try rfl) rfl ?_)
     exact⟨Wh.zero,false,rfl,HR2.out,by (repeat (first|exact xE0 _|assumption|refine xE1 ?_ _|refine xE2 ?_|refine xE3 ?_ _|refine xE4 ?_ (by assumption)))⟩
end Go.Proofs.YtppefchjoodgnaaGreat
