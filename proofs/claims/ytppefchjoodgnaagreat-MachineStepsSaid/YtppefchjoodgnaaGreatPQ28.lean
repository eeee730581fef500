import Derived.Test.YtppefchjoodgnaaGreatPQ27
import Derived.Test.YtppefchjoodgnaaGreatPQ15
import Derived.Test.YtppefchjoodgnaaGreatPQ12
import Derived.StillTail
set_option linter.unusedSimpArgs false
set_option linter.unusedVariables false
namespace Go.Proofs.YtppefchjoodgnaaGreat
open Go.RowKit
def spec8:List Int:=[212,220,215,24,5,6,133,149]
def gP (x:Ins):Option Wh:=if x.op=212∨x.op=220∨x.op=215 then vL x else if x.op=24 then gV x else if x.op=5∨x.op=6∨x.op=133∨x.op=149 then kJ x else none
theorem jmp5 (x:Ins):(x.op=5→kJ x=if ((x.dst == 0) && xJ x false true false)=true then some ⟨9,0,false,false,false,0⟩ else none) ∧
  (x.op=6→kJ x=if ((x.dst == 0) && xJ x false false true)=true then some ⟨9,0,false,false,false,0⟩ else none) ∧
  (x.op=133→kJ x=if ((x.dst == 0) && xJ x false false true)=true then some ⟨11,0,false,false,false,0⟩ else none) ∧
  (x.op=149→kJ x=if ((x.dst == 0) && xJ x false false false)=true then some ⟨12,0,false,false,false,0⟩ else none):=by
 unfold kJ
 simp only[only_eq,Bool.not_false,Bool.not_true]
 refine⟨fun h=>?_,fun h=>?_,fun h=>?_,fun h=>?_⟩<;>simp[h]
set_option maxRecDepth 20000 in
set_option maxHeartbeats 4000000 in
theorem r_other (x:Ins)(w:World)(hx:x.Ok):Calls Tryz.prog 78 #[x.agg] w (WhA (gP x) w):=by
 obtain⟨R,hR⟩:∃ R,R=gP x:=⟨_,rfl⟩
 rw[← hR]
 have HR:=η hR
 have HIM:=η hx.imm
 have himm:=hx.imm
 clear hR hx
 obtain⟨wd,hwd⟩:∃ z,(x.op != 212)=z:=⟨_,rfl⟩
 obtain⟨k1,h1⟩:∃ z,(x.op == 212)=z:=⟨_,rfl⟩
 obtain⟨k2,h2⟩:∃ z,(x.op == 220)=z:=⟨_,rfl⟩
 obtain⟨k3,h3⟩:∃ z,(x.op == 215)=z:=⟨_,rfl⟩
 obtain⟨k4,h4⟩:∃ z,(x.op == 24)=z:=⟨_,rfl⟩
 obtain⟨k5,h5⟩:∃ z,(x.op == 5)=z:=⟨_,rfl⟩
 obtain⟨k6,h6⟩:∃ z,(x.op == 6)=z:=⟨_,rfl⟩
 obtain⟨k7,h7⟩:∃ z,(x.op == 133)=z:=⟨_,rfl⟩
 obtain⟨k8,h8⟩:∃ z,(x.op == 149)=z:=⟨_,rfl⟩
 have HQ:Hid ((x.op=212 ↔ k1=true)∧(x.op=220 ↔ k2=true)∧(x.op=215 ↔ k3=true)∧(x.op=24 ↔ k4=true)∧(x.op=5 ↔ k5=true)∧(x.op=6 ↔ k6=true)∧(x.op=133 ↔ k7=true)∧(x.op=149 ↔ k8=true)):=η (by
  rw[← h1,← h2,← h3,← h4,← h5,← h6,← h7,← h8];simp)
 go_enter Tryz.func78,Tryz.ntmps78
 go_upto_region 1 with fail
 have HE:Hid (Ext w ((w.alloc (zQ x)).alloc (zF Wh.zero))):=η (by (repeat (first|exact xE0 _|assumption|refine xE1 ?_ _|refine xE2 ?_|refine xE3 ?_ _|refine xE4 ?_ (by assumption))))
 have HO1:Hid (((w.alloc (zQ x)).alloc (zF Wh.zero)).heap[w.heap.size]?=some (zQ x)):=η (by (repeat (first|(refine zD _ _ ?_;simp;done)|refine zB _ ?_)))
 have HO2:Hid (((w.alloc (zQ x)).alloc (zF Wh.zero)).heap[w.heap.size+1]?=some (zF Wh.zero)):=η (by (repeat (first|(refine zD _ _ ?_;simp;done)|refine zB _ ?_)))
 generalize hF:(w.alloc (zQ x)).alloc (zF Wh.zero)=wc0 at HE HO1 HO2 ⊢
 clear hF
 have HO3:=HO2
 have hlt:=zE HO1.out
 have hlt2:=zE HO2.out
 (have o1:=HO1.out;obtain⟨a0,a1,a2,a3,a4⟩:=κ5 o1;clear o1)
 go_upto_if 7 with fail
 go_cut [7] (fun v wx=>v=.bool (k1 || (k2 || k3))∧wx=wc0)
 case first =>
  cases k1
  ·cases k2
   all_goals
    go_wp2_with fail
    go_meet
    exact⟨rfl,rfl⟩
  ·go_wp2_with fail
   go_meet
   exact⟨rfl,rfl⟩
 case rest =>
  obtain⟨rfl,hwc⟩:=hcut
  obtain rfl:=hwc.symm
  have HKS:Hid ((k1 || (k2 || k3))=true ↔ (x.op=212∨x.op=220∨x.op=215)):=η (by
   obtain⟨q1,q2,q3,_⟩:=HQ.out
   rw[q1,q2,q3]
   simp)
  generalize (k1 || (k2 || k3))=ks at *
  clear h1 h2 h3
  cases ks with
  | true =>
   have HRS:Hid (R=vL x):=η (by rw[HR.out,gP,if_pos (HKS.out.1 rfl)])
   obtain⟨zd,hzd⟩:∃ z,(x.dst != 10)=z:=⟨_,rfl⟩
   obtain⟨zs,hzs⟩:∃ z,xJ x false false true=z:=⟨_,rfl⟩
   obtain⟨i1,hi1⟩:∃ z,(x.imm == 16)=z:=⟨_,rfl⟩
   obtain⟨i3,hi3⟩:∃ z,(x.imm == 32)=z:=⟨_,rfl⟩
   obtain⟨i6,hi6⟩:∃ z,(x.imm == 64)=z:=⟨_,rfl⟩
   have hzs':yN x true true false=zs:=by rw[← hzs,only_eq];rfl
   have HZ:=η hzs'
   clear hzs' h4 h5 h6 h7 h8
   go_upto_region 5 with fail
   go_cut [4] (fun v wx=>∃ q n,v=.pointer (some ⟨q,0,none⟩)∧Hid (Ext w wx∧wx.heap[w.heap.size]?=some (zQ x)∧wx.heap[w.heap.size+1]?=some (zF Wh.zero)∧wx.heap[q]?=some (zF ⟨2,0,wd,false,false,n⟩)∧w.heap.size+1 < q)∧Hid ((x.imm=16→n=2)∧(x.imm=32→n=4)∧(x.imm=64→n=8)))
   case first =>
    go_wp2_with fail
    go_meet
    refine⟨_,x.imm.tdiv 8,rfl,η ⟨by have:=HE.out;(repeat (first|exact xE0 _|assumption|refine xE1 ?_ _|refine xE2 ?_|refine xE3 ?_ _|refine xE4 ?_ (by assumption))),?_,?_,?_,?_⟩,η ⟨?_,?_,?_⟩⟩
    ·exact zB _ HO1.out
    ·exact zB _ HO2.out
    ·(repeat (first|(refine zD _ _ ?_;simp;done)|refine zB _ ?_))
    ·omega
    ·intro h;rw[h];decide +kernel
    ·intro h;rw[h];decide +kernel
    ·intro h;rw[h];decide +kernel
   case rest =>
    obtain⟨q,n,rfl,HW,HN⟩:=hcut
    have HAR:=η (swaps_ok x n zd zs i1 i3 i6 wd HN.out hzd HZ.out hi1 hi3 hi6 hwd)
    replace HO1:=η HW.out.2.1
    replace HO2:=η HW.out.2.2.1
    replace HO3:=η HW.out.2.2.2.1
    replace HE:=η HW.out.1
    clear a0 a1 a2 a3 a4
    go_upto_region 6 with fail
    have HQ:=HW.out.2.2.2.2
    cases zd with
    | false =>
     (obtain⟨W1,hE1,hB1,hO1,hS1⟩:=zP HO2.out HE.out (Nat.le_succ _) (2) (0) (wd) (false) (false) (n);have X1:=η (zJ hO1 HO1.out (by omega));have X3:=η (zJ hO1 HO3.out (by omega));clear hO1;have HS1:=η hS1;clear hS1;have HB1:=η hB1;clear hB1;refine zC 23 W1 (by kernel_rfl) (by kernel_rfl) rfl rfl rfl (by kernel_rfl) ?_;apply Exists.intro;apply Exists.intro;refine⟨fun W hW=>?_,rfl,fun nn=>?_,fun W hW=>?_,fun nn=>?_⟩;{have aZ:=fun n:Grow W=>n.ext.obj (X1.out W hW);obtain⟨a0,a1,a2,a3,a4⟩:=χ5 aZ;clear aZ;have qZ:=fun n:Grow W=>n.ext.obj (X3.out W hW);obtain⟨q0,q1,q2,q3,q4⟩:=χ5 qZ;have q5:=fun n:Grow W=>cO (i:=5) (qZ n);simp only[gA,gB,gC]at q5;clear qZ;simp only[List.take_succ_cons,List.take_zero];(repeat (go_big_quiet_step (exact Calls.grow1 (uD x false false true _ _ hzs))));exact wpQuiet_nil rfl};{have O2:=nn.ext.obj HO2.out;obtain⟨b0,b1,b2,b3,b4,b5⟩:=κ6 O2;have bf:=fun i=>zA (i:=i) O2;clear O2;go_simp;exact HS1.out nn};{simp only[List.drop_succ_cons,List.drop_zero];(repeat (go_big_quiet_step (fail)));exact wpQuiet_nil rfl};have hs:=nn.ext.obj HB1.out;obtain⟨r0,r1,r2,r3,r4,r5⟩:=κ6 hs;(try simp only[Exit.then]);(repeat (first|go_skip|go_step));refine bodyPost_ret (by simp[results,Tryz.results78,go_sem,r0,r1,r2,r3,r4,r5];try rfl) rfl ?_)
     exact⟨⟨2,0,wd,false,false,n⟩,_,rfl,by rw[HRS.out,HAR.out];rfl,hE1.trans' nn.ext⟩
    | true =>
     cases zs with
     | false =>
      (obtain⟨W1,hE1,hB1,hO1,hS1⟩:=zP HO2.out HE.out (Nat.le_succ _) (2) (0) (wd) (false) (false) (n);have X1:=η (zJ hO1 HO1.out (by omega));have X3:=η (zJ hO1 HO3.out (by omega));clear hO1;have HS1:=η hS1;clear hS1;have HB1:=η hB1;clear hB1;refine zC 23 W1 (by kernel_rfl) (by kernel_rfl) rfl rfl rfl (by kernel_rfl) ?_;apply Exists.intro;apply Exists.intro;refine⟨fun W hW=>?_,rfl,fun nn=>?_,fun W hW=>?_,fun nn=>?_⟩;{have aZ:=fun n:Grow W=>n.ext.obj (X1.out W hW);obtain⟨a0,a1,a2,a3,a4⟩:=χ5 aZ;clear aZ;have qZ:=fun n:Grow W=>n.ext.obj (X3.out W hW);obtain⟨q0,q1,q2,q3,q4⟩:=χ5 qZ;have q5:=fun n:Grow W=>cO (i:=5) (qZ n);simp only[gA,gB,gC]at q5;clear qZ;simp only[List.take_succ_cons,List.take_zero];(repeat (go_big_quiet_step (exact Calls.grow1 (uD x false false true _ _ hzs))));exact wpQuiet_nil rfl};{have O2:=nn.ext.obj HO2.out;obtain⟨b0,b1,b2,b3,b4,b5⟩:=κ6 O2;have bf:=fun i=>zA (i:=i) O2;clear O2;go_simp;exact HS1.out nn};{simp only[List.drop_succ_cons,List.drop_zero];(repeat (go_big_quiet_step (fail)));exact wpQuiet_nil rfl};have hs:=nn.ext.obj HB1.out;obtain⟨r0,r1,r2,r3,r4,r5⟩:=κ6 hs;(try simp only[Exit.then]);(repeat (first|go_skip|go_step));refine bodyPost_ret (by simp[results,Tryz.results78,go_sem,r0,r1,r2,r3,r4,r5];try rfl) rfl ?_)
      exact⟨⟨2,0,wd,false,false,n⟩,_,rfl,by rw[HRS.out,HAR.out];rfl,hE1.trans' nn.ext⟩
     | true =>
      cases i1
      ·cases i3
       ·(obtain⟨W1,hE1,hB1,hO1,hS1⟩:=zP HO2.out HE.out (Nat.le_succ _) (2) (0) (wd) (false) (false) (n);have X1:=η (zJ hO1 HO1.out (by omega));have X3:=η (zJ hO1 HO3.out (by omega));clear hO1;have HS1:=η hS1;clear hS1;have HB1:=η hB1;clear hB1;refine zC 23 W1 (by kernel_rfl) (by kernel_rfl) rfl rfl rfl (by kernel_rfl) ?_;apply Exists.intro;apply Exists.intro;refine⟨fun W hW=>?_,rfl,fun nn=>?_,fun W hW=>?_,fun nn=>?_⟩;{have aZ:=fun n:Grow W=>n.ext.obj (X1.out W hW);obtain⟨a0,a1,a2,a3,a4⟩:=χ5 aZ;clear aZ;have qZ:=fun n:Grow W=>n.ext.obj (X3.out W hW);obtain⟨q0,q1,q2,q3,q4⟩:=χ5 qZ;have q5:=fun n:Grow W=>cO (i:=5) (qZ n);simp only[gA,gB,gC]at q5;clear qZ;simp only[List.take_succ_cons,List.take_zero];(repeat (go_big_quiet_step (exact Calls.grow1 (uD x false false true _ _ hzs))));exact wpQuiet_nil rfl};{have O2:=nn.ext.obj HO2.out;obtain⟨b0,b1,b2,b3,b4,b5⟩:=κ6 O2;have bf:=fun i=>zA (i:=i) O2;clear O2;go_simp;exact HS1.out nn};{simp only[List.drop_succ_cons,List.drop_zero];(repeat (go_big_quiet_step (fail)));exact wpQuiet_nil rfl};have hs:=nn.ext.obj HB1.out;obtain⟨r0,r1,r2,r3,r4,r5⟩:=κ6 hs;(try simp only[Exit.then]);(repeat (first|go_skip|go_step));refine bodyPost_ret (by simp[results,Tryz.results78,go_sem,r0,r1,r2,r3,r4,r5];try rfl) rfl ?_)
        exact⟨⟨2,0,wd,false,false,n⟩,_,rfl,by rw[HRS.out,HAR.out];rfl,hE1.trans' nn.ext⟩
       ·(obtain⟨W1,hE1,hB1,hO1,hS1⟩:=zP HO2.out HE.out (Nat.le_succ _) (2) (0) (wd) (false) (false) (n);have X1:=η (zJ hO1 HO1.out (by omega));have X3:=η (zJ hO1 HO3.out (by omega));clear hO1;have HS1:=η hS1;clear hS1;have HB1:=η hB1;clear hB1;refine zC 23 W1 (by kernel_rfl) (by kernel_rfl) rfl rfl rfl (by kernel_rfl) ?_;apply Exists.intro;apply Exists.intro;refine⟨fun W hW=>?_,rfl,fun nn=>?_,fun W hW=>?_,fun nn=>?_⟩;{have aZ:=fun n:Grow W=>n.ext.obj (X1.out W hW);obtain⟨a0,a1,a2,a3,a4⟩:=χ5 aZ;clear aZ;have qZ:=fun n:Grow W=>n.ext.obj (X3.out W hW);obtain⟨q0,q1,q2,q3,q4⟩:=χ5 qZ;have q5:=fun n:Grow W=>cO (i:=5) (qZ n);simp only[gA,gB,gC]at q5;clear qZ;simp only[List.take_succ_cons,List.take_zero];(repeat (go_big_quiet_step (exact Calls.grow1 (uD x false false true _ _ hzs))));exact wpQuiet_nil rfl};{have O2:=nn.ext.obj HO2.out;obtain⟨b0,b1,b2,b3,b4,b5⟩:=κ6 O2;have bf:=fun i=>zA (i:=i) O2;clear O2;go_simp;exact HS1.out nn};{simp only[List.drop_succ_cons,List.drop_zero];(repeat (go_big_quiet_step (fail)));exact wpQuiet_nil rfl};have hs:=nn.ext.obj HB1.out;obtain⟨r0,r1,r2,r3,r4,r5⟩:=κ6 hs;(try simp only[Exit.then]);(repeat (first|go_skip|go_step));refine bodyPost_ret (by simp[results,Tryz.results78,go_sem,r0,r1,r2,r3,r4,r5];try rfl) rfl ?_)
        exact⟨⟨2,0,wd,false,false,n⟩,_,rfl,by rw[HRS.out,HAR.out];rfl,hE1.trans' nn.ext⟩
      ·(obtain⟨W1,hE1,hB1,hO1,hS1⟩:=zP HO2.out HE.out (Nat.le_succ _) (2) (0) (wd) (false) (false) (n);have X1:=η (zJ hO1 HO1.out (by omega));have X3:=η (zJ hO1 HO3.out (by omega));clear hO1;have HS1:=η hS1;clear hS1;have HB1:=η hB1;clear hB1;refine zC 23 W1 (by kernel_rfl) (by kernel_rfl) rfl rfl rfl (by kernel_rfl) ?_;apply Exists.intro;apply Exists.intro;refine⟨fun W hW=>?_,rfl,fun nn=>?_,fun W hW=>?_,fun nn=>?_⟩;{have aZ:=fun n:Grow W=>n.ext.obj (X1.out W hW);obtain⟨a0,a1,a2,a3,a4⟩:=χ5 aZ;clear aZ;have qZ:=fun n:Grow W=>n.ext.obj (X3.out W hW);obtain⟨q0,q1,q2,q3,q4⟩:=χ5 qZ;have q5:=fun n:Grow W=>cO (i:=5) (qZ n);simp only[gA,gB,gC]at q5;clear qZ;simp only[List.take_succ_cons,List.take_zero];(repeat (go_big_quiet_step (exact Calls.grow1 (uD x false false true _ _ hzs))));exact wpQuiet_nil rfl};{have O2:=nn.ext.obj HO2.out;obtain⟨b0,b1,b2,b3,b4,b5⟩:=κ6 O2;have bf:=fun i=>zA (i:=i) O2;clear O2;go_simp;exact HS1.out nn};{simp only[List.drop_succ_cons,List.drop_zero];(repeat (go_big_quiet_step (fail)));exact wpQuiet_nil rfl};have hs:=nn.ext.obj HB1.out;obtain⟨r0,r1,r2,r3,r4,r5⟩:=κ6 hs;(try simp only[Exit.then]);(repeat (first|go_skip|go_step));refine bodyPost_ret (by simp[results,Tryz.results78,go_sem,r0,r1,r2,r3,r4,r5];try rfl) rfl ?_)
       exact⟨⟨2,0,wd,false,false,n⟩,_,rfl,by rw[HRS.out,HAR.out];rfl,hE1.trans' nn.ext⟩
  | false =>
   cases k4 with
   | true =>
    have HRS:Hid (R=gV x):=η (by rw[HR.out,gP,if_neg (fun h=>by have:=HKS.out.2 h;cases this),if_pos (HQ.out.2.2.2.1.2 rfl)])
    obtain⟨zd,hd⟩:∃ z,(x.dst != 10)=z:=⟨_,rfl⟩
    obtain⟨zo,ho⟩:∃ z,(x.off == 0)=z:=⟨_,rfl⟩
    obtain⟨z0,h0⟩:∃ z,(x.src == 0)=z:=⟨_,rfl⟩
    obtain⟨z1,h1⟩:∃ z,(x.src == 1)=z:=⟨_,rfl⟩
    obtain⟨zi,hi⟩:∃ z,decide (x.imm ≥ 0)=z:=⟨_,rfl⟩
    have HAR:=η (wide_ok x zd zo z0 z1 zi hd ho h0 h1 hi)
    replace HO3:=HO1
    cases z0 with
    | true =>
     clear h5 h6 h7 h8
     go_upto_region 9 with fail
     clear a0 a1 a2 a3 a4
     cases zd
     ·(obtain⟨W1,hE1,hB1,hO1,hS1⟩:=zP HO2.out HE.out (Nat.le_succ _) (3) (0) (true) (false) (false) (0);have X1:=η (zJ hO1 HO1.out (by omega));have X3:=η (zJ hO1 HO3.out (by omega));clear hO1;have HS1:=η hS1;clear hS1;have HB1:=η hB1;clear hB1;refine zC 9 W1 (by kernel_rfl) (by kernel_rfl) rfl rfl rfl (by kernel_rfl) ?_;apply Exists.intro;apply Exists.intro;refine⟨fun W hW=>?_,rfl,fun nn=>?_,fun W hW=>?_,fun nn=>?_⟩;{have aZ:=fun n:Grow W=>n.ext.obj (X1.out W hW);obtain⟨a0,a1,a2,a3,a4⟩:=χ5 aZ;clear aZ;have qZ:=fun n:Grow W=>n.ext.obj (X3.out W hW);obtain⟨q0,q1,q2,q3,q4⟩:=χ5 qZ;have q5:=fun n:Grow W=>cO (i:=5) (qZ n);simp only[gA,gB,gC]at q5;clear qZ;simp only[List.take_succ_cons,List.take_zero];(repeat (go_big_quiet_step (fail)));exact wpQuiet_nil rfl};{have O2:=nn.ext.obj HO2.out;obtain⟨b0,b1,b2,b3,b4,b5⟩:=κ6 O2;have bf:=fun i=>zA (i:=i) O2;clear O2;go_simp;exact HS1.out nn};{simp only[List.drop_succ_cons,List.drop_zero];(repeat (go_big_quiet_step (fail)));exact wpQuiet_nil rfl};have hs:=nn.ext.obj HB1.out;obtain⟨r0,r1,r2,r3,r4,r5⟩:=κ6 hs;(try simp only[Exit.then]);(repeat (first|go_skip|go_step));refine bodyPost_ret (by simp[results,Tryz.results78,go_sem,r0,r1,r2,r3,r4,r5];try rfl) rfl ?_)
      exact⟨⟨3,0,true,false,false,0⟩,_,rfl,by rw[HRS.out,HAR.out];rfl,hE1.trans' nn.ext⟩
     ·(obtain⟨W1,hE1,hB1,hO1,hS1⟩:=zP HO2.out HE.out (Nat.le_succ _) (3) (0) (true) (false) (false) (0);have X1:=η (zJ hO1 HO1.out (by omega));have X3:=η (zJ hO1 HO3.out (by omega));clear hO1;have HS1:=η hS1;clear hS1;have HB1:=η hB1;clear hB1;refine zC 9 W1 (by kernel_rfl) (by kernel_rfl) rfl rfl rfl (by kernel_rfl) ?_;apply Exists.intro;apply Exists.intro;refine⟨fun W hW=>?_,rfl,fun nn=>?_,fun W hW=>?_,fun nn=>?_⟩;{have aZ:=fun n:Grow W=>n.ext.obj (X1.out W hW);obtain⟨a0,a1,a2,a3,a4⟩:=χ5 aZ;clear aZ;have qZ:=fun n:Grow W=>n.ext.obj (X3.out W hW);obtain⟨q0,q1,q2,q3,q4⟩:=χ5 qZ;have q5:=fun n:Grow W=>cO (i:=5) (qZ n);simp only[gA,gB,gC]at q5;clear qZ;simp only[List.take_succ_cons,List.take_zero];(repeat (go_big_quiet_step (fail)));exact wpQuiet_nil rfl};{have O2:=nn.ext.obj HO2.out;obtain⟨b0,b1,b2,b3,b4,b5⟩:=κ6 O2;have bf:=fun i=>zA (i:=i) O2;clear O2;go_simp;exact HS1.out nn};{simp only[List.drop_succ_cons,List.drop_zero];(repeat (go_big_quiet_step (fail)));exact wpQuiet_nil rfl};have hs:=nn.ext.obj HB1.out;obtain⟨r0,r1,r2,r3,r4,r5⟩:=κ6 hs;(try simp only[Exit.then]);(repeat (first|go_skip|go_step));refine bodyPost_ret (by simp[results,Tryz.results78,go_sem,r0,r1,r2,r3,r4,r5];try rfl) rfl ?_)
      exact⟨⟨3,0,true,false,false,0⟩,_,rfl,by rw[HRS.out,HAR.out];rfl,hE1.trans' nn.ext⟩
    | false =>
     clear h5 h6 h7 h8
     go_upto_region 10 with fail
     clear a0 a1 a2 a3 a4
     cases zd
     ·(obtain⟨W1,hE1,hB1,hO1,hS1⟩:=zP HO2.out HE.out (Nat.le_succ _) (4) (0) (true) (false) (false) (0);have X1:=η (zJ hO1 HO1.out (by omega));have X3:=η (zJ hO1 HO3.out (by omega));clear hO1;have HS1:=η hS1;clear hS1;have HB1:=η hB1;clear hB1;refine zC 19 W1 (by kernel_rfl) (by kernel_rfl) rfl rfl rfl (by kernel_rfl) ?_;apply Exists.intro;apply Exists.intro;refine⟨fun W hW=>?_,rfl,fun nn=>?_,fun W hW=>?_,fun nn=>?_⟩;{have aZ:=fun n:Grow W=>n.ext.obj (X1.out W hW);obtain⟨a0,a1,a2,a3,a4⟩:=χ5 aZ;clear aZ;have qZ:=fun n:Grow W=>n.ext.obj (X3.out W hW);obtain⟨q0,q1,q2,q3,q4⟩:=χ5 qZ;have q5:=fun n:Grow W=>cO (i:=5) (qZ n);simp only[gA,gB,gC]at q5;clear qZ;simp only[List.take_succ_cons,List.take_zero];(repeat (go_big_quiet_step (fail)));exact wpQuiet_nil rfl};{have O2:=nn.ext.obj HO2.out;obtain⟨b0,b1,b2,b3,b4,b5⟩:=κ6 O2;have bf:=fun i=>zA (i:=i) O2;clear O2;go_simp;exact HS1.out nn};{simp only[List.drop_succ_cons,List.drop_zero];(repeat (go_big_quiet_step (fail)));exact wpQuiet_nil rfl};have hs:=nn.ext.obj HB1.out;obtain⟨r0,r1,r2,r3,r4,r5⟩:=κ6 hs;(try simp only[Exit.then]);(repeat (first|go_skip|go_step));refine bodyPost_ret (by simp[results,Tryz.results78,go_sem,r0,r1,r2,r3,r4,r5];try rfl) rfl ?_)
      exact⟨⟨4,0,true,false,false,0⟩,_,rfl,by rw[HRS.out,HAR.out];rfl,hE1.trans' nn.ext⟩
     ·cases zo
      ·(obtain⟨W1,hE1,hB1,hO1,hS1⟩:=zP HO2.out HE.out (Nat.le_succ _) (4) (0) (true) (false) (false) (0);have X1:=η (zJ hO1 HO1.out (by omega));have X3:=η (zJ hO1 HO3.out (by omega));clear hO1;have HS1:=η hS1;clear hS1;have HB1:=η hB1;clear hB1;refine zC 19 W1 (by kernel_rfl) (by kernel_rfl) rfl rfl rfl (by kernel_rfl) ?_;apply Exists.intro;apply Exists.intro;refine⟨fun W hW=>?_,rfl,fun nn=>?_,fun W hW=>?_,fun nn=>?_⟩;{have aZ:=fun n:Grow W=>n.ext.obj (X1.out W hW);obtain⟨a0,a1,a2,a3,a4⟩:=χ5 aZ;clear aZ;have qZ:=fun n:Grow W=>n.ext.obj (X3.out W hW);obtain⟨q0,q1,q2,q3,q4⟩:=χ5 qZ;have q5:=fun n:Grow W=>cO (i:=5) (qZ n);simp only[gA,gB,gC]at q5;clear qZ;simp only[List.take_succ_cons,List.take_zero];(repeat (go_big_quiet_step (fail)));exact wpQuiet_nil rfl};{have O2:=nn.ext.obj HO2.out;obtain⟨b0,b1,b2,b3,b4,b5⟩:=κ6 O2;have bf:=fun i=>zA (i:=i) O2;clear O2;go_simp;exact HS1.out nn};{simp only[List.drop_succ_cons,List.drop_zero];(repeat (go_big_quiet_step (fail)));exact wpQuiet_nil rfl};have hs:=nn.ext.obj HB1.out;obtain⟨r0,r1,r2,r3,r4,r5⟩:=κ6 hs;(try simp only[Exit.then]);(repeat (first|go_skip|go_step));refine bodyPost_ret (by simp[results,Tryz.results78,go_sem,r0,r1,r2,r3,r4,r5];try rfl) rfl ?_)
       exact⟨⟨4,0,true,false,false,0⟩,_,rfl,by rw[HRS.out,HAR.out];rfl,hE1.trans' nn.ext⟩
      ·cases z1
       ·(obtain⟨W1,hE1,hB1,hO1,hS1⟩:=zP HO2.out HE.out (Nat.le_succ _) (4) (0) (true) (false) (false) (0);have X1:=η (zJ hO1 HO1.out (by omega));have X3:=η (zJ hO1 HO3.out (by omega));clear hO1;have HS1:=η hS1;clear hS1;have HB1:=η hB1;clear hB1;refine zC 19 W1 (by kernel_rfl) (by kernel_rfl) rfl rfl rfl (by kernel_rfl) ?_;apply Exists.intro;apply Exists.intro;refine⟨fun W hW=>?_,rfl,fun nn=>?_,fun W hW=>?_,fun nn=>?_⟩;{have aZ:=fun n:Grow W=>n.ext.obj (X1.out W hW);obtain⟨a0,a1,a2,a3,a4⟩:=χ5 aZ;clear aZ;have qZ:=fun n:Grow W=>n.ext.obj (X3.out W hW);obtain⟨q0,q1,q2,q3,q4⟩:=χ5 qZ;have q5:=fun n:Grow W=>cO (i:=5) (qZ n);simp only[gA,gB,gC]at q5;clear qZ;simp only[List.take_succ_cons,List.take_zero];(repeat (go_big_quiet_step (fail)));exact wpQuiet_nil rfl};{have O2:=nn.ext.obj HO2.out;obtain⟨b0,b1,b2,b3,b4,b5⟩:=κ6 O2;have bf:=fun i=>zA (i:=i) O2;clear O2;go_simp;exact HS1.out nn};{simp only[List.drop_succ_cons,List.drop_zero];(repeat (go_big_quiet_step (fail)));exact wpQuiet_nil rfl};have hs:=nn.ext.obj HB1.out;obtain⟨r0,r1,r2,r3,r4,r5⟩:=κ6 hs;(try simp only[Exit.then]);(repeat (first|go_skip|go_step));refine bodyPost_ret (by simp[results,Tryz.results78,go_sem,r0,r1,r2,r3,r4,r5];try rfl) rfl ?_)
        exact⟨⟨4,0,true,false,false,0⟩,_,rfl,by rw[HRS.out,HAR.out];rfl,hE1.trans' nn.ext⟩
       ·(obtain⟨W1,hE1,hB1,hO1,hS1⟩:=zP HO2.out HE.out (Nat.le_succ _) (4) (0) (true) (false) (false) (0);have X1:=η (zJ hO1 HO1.out (by omega));have X3:=η (zJ hO1 HO3.out (by omega));clear hO1;have HS1:=η hS1;clear hS1;have HB1:=η hB1;clear hB1;refine zC 19 W1 (by kernel_rfl) (by kernel_rfl) rfl rfl rfl (by kernel_rfl) ?_;apply Exists.intro;apply Exists.intro;refine⟨fun W hW=>?_,rfl,fun nn=>?_,fun W hW=>?_,fun nn=>?_⟩;{have aZ:=fun n:Grow W=>n.ext.obj (X1.out W hW);obtain⟨a0,a1,a2,a3,a4⟩:=χ5 aZ;clear aZ;have qZ:=fun n:Grow W=>n.ext.obj (X3.out W hW);obtain⟨q0,q1,q2,q3,q4⟩:=χ5 qZ;have q5:=fun n:Grow W=>cO (i:=5) (qZ n);simp only[gA,gB,gC]at q5;clear qZ;simp only[List.take_succ_cons,List.take_zero];(repeat (go_big_quiet_step (fail)));exact wpQuiet_nil rfl};{have O2:=nn.ext.obj HO2.out;obtain⟨b0,b1,b2,b3,b4,b5⟩:=κ6 O2;have bf:=fun i=>zA (i:=i) O2;clear O2;go_simp;exact HS1.out nn};{simp only[List.drop_succ_cons,List.drop_zero];(repeat (go_big_quiet_step (fail)));exact wpQuiet_nil rfl};have hs:=nn.ext.obj HB1.out;obtain⟨r0,r1,r2,r3,r4,r5⟩:=κ6 hs;(try simp only[Exit.then]);(repeat (first|go_skip|go_step));refine bodyPost_ret (by simp[results,Tryz.results78,go_sem,r0,r1,r2,r3,r4,r5];try rfl) rfl ?_)
        exact⟨⟨4,0,true,false,false,0⟩,_,rfl,by rw[HRS.out,HAR.out];rfl,hE1.trans' nn.ext⟩
   | false =>
    have HR4:Hid (R=if x.op=5∨x.op=6∨x.op=133∨x.op=149 then kJ x else none):=η (by rw[HR.out,gP,if_neg (fun h=>by have:=HKS.out.2 h;cases this),if_neg (fun h=>by have:=HQ.out.2.2.2.1.1 h;cases this)])
    obtain⟨zd,hzd⟩:∃ z,(x.dst == 0)=z:=⟨_,rfl⟩
    have HJ:=η (jmp5 x)
    clear HR
    cases k5 with
    | true =>
     obtain⟨on,hon⟩:∃ z,xJ x false true false=z:=⟨_,rfl⟩
     have HRS:Hid (R=if (zd && on)=true then some (⟨9,0,false,false,false,0⟩:Wh) else none):=η (by rw[HR4.out,if_pos ((fun h=>Or.inl h) (HQ.out.2.2.2.2.1.2 rfl)),HJ.out.1 (HQ.out.2.2.2.2.1.2 rfl),hzd,hon])
     cases zd with
     | false =>
      have HSF:=η (set6 HO2.out HE.out (Nat.le_succ _) 9 0 false false false 0)
      (have o2:=HO2.out;obtain⟨b0,b1,b2,b3,b4,b5⟩:=κ6 o2;have bf:=fun i=>zA (i:=i) o2;clear o2)
      go_wp2_with fail
      (have hsf:=HSF.out;generalize hF:(World.setCell (World.setCell (World.setCell (World.setCell (World.setCell (World.setCell wc0 ⟨w.heap.size+1,0,none⟩ (.int .u8 9)) ⟨w.heap.size+1,1,none⟩ (.int .u8 0)) ⟨w.heap.size+1,2,none⟩ (.bool false)) ⟨w.heap.size+1,3,none⟩ (.bool false)) ⟨w.heap.size+1,4,none⟩ (.bool false)) ⟨w.heap.size+1,5,none⟩ (.int .i64 0))=wF at hsf ⊢;obtain⟨hs,he⟩:=hsf;clear hF;(try simp only[Exit.then]);(repeat (first|go_skip|go_step));obtain⟨r0,r1,r2,r3,r4,r5⟩:=κ6 hs;refine bodyPost_ret (by simp[results,Tryz.results78,go_sem,r0,r1,r2,r3,r4,r5];try rfl) rfl ?_)
      exact⟨⟨9,0,false,false,false,0⟩,false,rfl,by rw[HRS.out];rfl,by (repeat (first|exact xE0 _|assumption|refine xE1 ?_ _|refine xE2 ?_|refine xE3 ?_ _|refine xE4 ?_ (by assumption)))⟩
     | true =>
      (go_wp2_with fail;refine(qK x false true false on _ hon).mono ?_;rintro e w5 ⟨rfl,hE5⟩;have HE5:=η (HE.out.trans' hE5);have O5:=η (hE5.obj HO2.out);have HSF:=η (set6 O5.out HE5.out (Nat.le_succ _) (9) (0) (false) (false) (false) (0));clear hE5;obtain⟨b0,b1,b2,b3,b4,b5⟩:=κ6 O5.out;have bf:=fun i=>zA (i:=i) O5.out;go_wp2_with fail;(have hsf:=HSF.out;generalize hF:(World.setCell (World.setCell (World.setCell (World.setCell (World.setCell (World.setCell w5 ⟨w.heap.size+1,0,none⟩ (.int .u8 9)) ⟨w.heap.size+1,1,none⟩ (.int .u8 0)) ⟨w.heap.size+1,2,none⟩ (.bool false)) ⟨w.heap.size+1,3,none⟩ (.bool false)) ⟨w.heap.size+1,4,none⟩ (.bool false)) ⟨w.heap.size+1,5,none⟩ (.int .i64 0))=wF at hsf ⊢;obtain⟨hs,he⟩:=hsf;clear hF;(try simp only[Exit.then]);(repeat (first|go_skip|go_step));obtain⟨r0,r1,r2,r3,r4,r5⟩:=κ6 hs;refine bodyPost_ret (by simp[results,Tryz.results78,go_sem,r0,r1,r2,r3,r4,r5];try rfl) rfl ?_))
      exact⟨⟨9,0,false,false,false,0⟩,on,rfl,by rw[HRS.out];rfl,by (repeat (first|exact xE0 _|assumption|refine xE1 ?_ _|refine xE2 ?_|refine xE3 ?_ _|refine xE4 ?_ (by assumption)))⟩
    | false =>
     cases k6 with
     | true =>
      obtain⟨on,hon⟩:∃ z,xJ x false false true=z:=⟨_,rfl⟩
      have HRS:Hid (R=if (zd && on)=true then some (⟨9,0,false,false,false,0⟩:Wh) else none):=η (by rw[HR4.out,if_pos ((fun h=>.inr (.inl h)) (HQ.out.2.2.2.2.2.1.2 rfl)),HJ.out.2.1 (HQ.out.2.2.2.2.2.1.2 rfl),hzd,hon])
      cases zd with
      | false =>
       have HSF:=η (set6 HO2.out HE.out (Nat.le_succ _) 9 0 false false false 0)
       (have o2:=HO2.out;obtain⟨b0,b1,b2,b3,b4,b5⟩:=κ6 o2;have bf:=fun i=>zA (i:=i) o2;clear o2)
       go_wp2_with fail
       (have hsf:=HSF.out;generalize hF:(World.setCell (World.setCell (World.setCell (World.setCell (World.setCell (World.setCell wc0 ⟨w.heap.size+1,0,none⟩ (.int .u8 9)) ⟨w.heap.size+1,1,none⟩ (.int .u8 0)) ⟨w.heap.size+1,2,none⟩ (.bool false)) ⟨w.heap.size+1,3,none⟩ (.bool false)) ⟨w.heap.size+1,4,none⟩ (.bool false)) ⟨w.heap.size+1,5,none⟩ (.int .i64 0))=wF at hsf ⊢;obtain⟨hs,he⟩:=hsf;clear hF;(try simp only[Exit.then]);(repeat (first|go_skip|go_step));obtain⟨r0,r1,r2,r3,r4,r5⟩:=κ6 hs;refine bodyPost_ret (by simp[results,Tryz.results78,go_sem,r0,r1,r2,r3,r4,r5];try rfl) rfl ?_)
       exact⟨⟨9,0,false,false,false,0⟩,false,rfl,by rw[HRS.out];rfl,by (repeat (first|exact xE0 _|assumption|refine xE1 ?_ _|refine xE2 ?_|refine xE3 ?_ _|refine xE4 ?_ (by assumption)))⟩
      | true =>
       (go_wp2_with fail;refine(qK x false false true on _ hon).mono ?_;rintro e w5 ⟨rfl,hE5⟩;have HE5:=η (HE.out.trans' hE5);have O5:=η (hE5.obj HO2.out);have HSF:=η (set6 O5.out HE5.out (Nat.le_succ _) (9) (0) (false) (false) (false) (0));clear hE5;obtain⟨b0,b1,b2,b3,b4,b5⟩:=κ6 O5.out;have bf:=fun i=>zA (i:=i) O5.out;go_wp2_with fail;(have hsf:=HSF.out;generalize hF:(World.setCell (World.setCell (World.setCell (World.setCell (World.setCell (World.setCell w5 ⟨w.heap.size+1,0,none⟩ (.int .u8 9)) ⟨w.heap.size+1,1,none⟩ (.int .u8 0)) ⟨w.heap.size+1,2,none⟩ (.bool false)) ⟨w.heap.size+1,3,none⟩ (.bool false)) ⟨w.heap.size+1,4,none⟩ (.bool false)) ⟨w.heap.size+1,5,none⟩ (.int .i64 0))=wF at hsf ⊢;obtain⟨hs,he⟩:=hsf;clear hF;(try simp only[Exit.then]);(repeat (first|go_skip|go_step));obtain⟨r0,r1,r2,r3,r4,r5⟩:=κ6 hs;refine bodyPost_ret (by simp[results,Tryz.results78,go_sem,r0,r1,r2,r3,r4,r5];try rfl) rfl ?_))
       exact⟨⟨9,0,false,false,false,0⟩,on,rfl,by rw[HRS.out];rfl,by (repeat (first|exact xE0 _|assumption|refine xE1 ?_ _|refine xE2 ?_|refine xE3 ?_ _|refine xE4 ?_ (by assumption)))⟩
     | false =>
      cases k7 with
      | true =>
       obtain⟨on,hon⟩:∃ z,xJ x false false true=z:=⟨_,rfl⟩
       have HRS:Hid (R=if (zd && on)=true then some (⟨11,0,false,false,false,0⟩:Wh) else none):=η (by rw[HR4.out,if_pos ((fun h=>.inr (.inr (.inl h))) (HQ.out.2.2.2.2.2.2.1.2 rfl)),HJ.out.2.2.1 (HQ.out.2.2.2.2.2.2.1.2 rfl),hzd,hon])
       cases zd with
       | false =>
        have HSF:=η (set6 HO2.out HE.out (Nat.le_succ _) 11 0 false false false 0)
        (have o2:=HO2.out;obtain⟨b0,b1,b2,b3,b4,b5⟩:=κ6 o2;have bf:=fun i=>zA (i:=i) o2;clear o2)
        go_wp2_with fail
        (have hsf:=HSF.out;generalize hF:(World.setCell (World.setCell (World.setCell (World.setCell (World.setCell (World.setCell wc0 ⟨w.heap.size+1,0,none⟩ (.int .u8 11)) ⟨w.heap.size+1,1,none⟩ (.int .u8 0)) ⟨w.heap.size+1,2,none⟩ (.bool false)) ⟨w.heap.size+1,3,none⟩ (.bool false)) ⟨w.heap.size+1,4,none⟩ (.bool false)) ⟨w.heap.size+1,5,none⟩ (.int .i64 0))=wF at hsf ⊢;obtain⟨hs,he⟩:=hsf;clear hF;(try simp only[Exit.then]);(repeat (first|go_skip|go_step));obtain⟨r0,r1,r2,r3,r4,r5⟩:=κ6 hs;refine bodyPost_ret (by simp[results,Tryz.results78,go_sem,r0,r1,r2,r3,r4,r5];try rfl) rfl ?_)
        exact⟨⟨11,0,false,false,false,0⟩,false,rfl,by rw[HRS.out];rfl,by (repeat (first|exact xE0 _|assumption|refine xE1 ?_ _|refine xE2 ?_|refine xE3 ?_ _|refine xE4 ?_ (by assumption)))⟩
       | true =>
        (go_wp2_with fail;refine(qK x false false true on _ hon).mono ?_;rintro e w5 ⟨rfl,hE5⟩;have HE5:=η (HE.out.trans' hE5);have O5:=η (hE5.obj HO2.out);have HSF:=η (set6 O5.out HE5.out (Nat.le_succ _) (11) (0) (false) (false) (false) (0));clear hE5;obtain⟨b0,b1,b2,b3,b4,b5⟩:=κ6 O5.out;have bf:=fun i=>zA (i:=i) O5.out;go_wp2_with fail;(have hsf:=HSF.out;generalize hF:(World.setCell (World.setCell (World.setCell (World.setCell (World.setCell (World.setCell w5 ⟨w.heap.size+1,0,none⟩ (.int .u8 11)) ⟨w.heap.size+1,1,none⟩ (.int .u8 0)) ⟨w.heap.size+1,2,none⟩ (.bool false)) ⟨w.heap.size+1,3,none⟩ (.bool false)) ⟨w.heap.size+1,4,none⟩ (.bool false)) ⟨w.heap.size+1,5,none⟩ (.int .i64 0))=wF at hsf ⊢;obtain⟨hs,he⟩:=hsf;clear hF;(try simp only[Exit.then]);(repeat (first|go_skip|go_step));obtain⟨r0,r1,r2,r3,r4,r5⟩:=κ6 hs;refine bodyPost_ret (by simp[results,Tryz.results78,go_sem,r0,r1,r2,r3,r4,r5];try rfl) rfl ?_))
        exact⟨⟨11,0,false,false,false,0⟩,on,rfl,by rw[HRS.out];rfl,by (repeat (first|exact xE0 _|assumption|refine xE1 ?_ _|refine xE2 ?_|refine xE3 ?_ _|refine xE4 ?_ (by assumption)))⟩
      | false =>
       cases k8 with
       | true =>
        obtain⟨on,hon⟩:∃ z,xJ x false false false=z:=⟨_,rfl⟩
        have HRS:Hid (R=if (zd && on)=true then some (⟨12,0,false,false,false,0⟩:Wh) else none):=η (by rw[HR4.out,if_pos ((fun h=>.inr (.inr (.inr h))) (HQ.out.2.2.2.2.2.2.2.2 rfl)),HJ.out.2.2.2 (HQ.out.2.2.2.2.2.2.2.2 rfl),hzd,hon])
        cases zd with
        | false =>
         have HSF:=η (set6 HO2.out HE.out (Nat.le_succ _) 12 0 false false false 0)
         (have o2:=HO2.out;obtain⟨b0,b1,b2,b3,b4,b5⟩:=κ6 o2;have bf:=fun i=>zA (i:=i) o2;clear o2)
         go_wp2_with fail
         (have hsf:=HSF.out;generalize hF:(World.setCell (World.setCell (World.setCell (World.setCell (World.setCell (World.setCell wc0 ⟨w.heap.size+1,0,none⟩ (.int .u8 12)) ⟨w.heap.size+1,1,none⟩ (.int .u8 0)) ⟨w.heap.size+1,2,none⟩ (.bool false)) ⟨w.heap.size+1,3,none⟩ (.bool false)) ⟨w.heap.size+1,4,none⟩ (.bool false)) ⟨w.heap.size+1,5,none⟩ (.int .i64 0))=wF at hsf ⊢;obtain⟨hs,he⟩:=hsf;clear hF;(try simp only[Exit.then]);(repeat (first|go_skip|go_step));obtain⟨r0,r1,r2,r3,r4,r5⟩:=κ6 hs;refine bodyPost_ret (by simp[results,Tryz.results78,go_sem,r0,r1,r2,r3,r4,r5];try rfl) rfl ?_)
         exact⟨⟨12,0,false,false,false,0⟩,false,rfl,by rw[HRS.out];rfl,by (repeat (first|exact xE0 _|assumption|refine xE1 ?_ _|refine xE2 ?_|refine xE3 ?_ _|refine xE4 ?_ (by assumption)))⟩
        | true =>
         (go_wp2_with fail;refine(qK x false false false on _ hon).mono ?_;rintro e w5 ⟨rfl,hE5⟩;have HE5:=η (HE.out.trans' hE5);have O5:=η (hE5.obj HO2.out);have HSF:=η (set6 O5.out HE5.out (Nat.le_succ _) (12) (0) (false) (false) (false) (0));clear hE5;obtain⟨b0,b1,b2,b3,b4,b5⟩:=κ6 O5.out;have bf:=fun i=>zA (i:=i) O5.out;go_wp2_with fail;(have hsf:=HSF.out;generalize hF:(World.setCell (World.setCell (World.setCell (World.setCell (World.setCell (World.setCell w5 ⟨w.heap.size+1,0,none⟩ (.int .u8 12)) ⟨w.heap.size+1,1,none⟩ (.int .u8 0)) ⟨w.heap.size+1,2,none⟩ (.bool false)) ⟨w.heap.size+1,3,none⟩ (.bool false)) ⟨w.heap.size+1,4,none⟩ (.bool false)) ⟨w.heap.size+1,5,none⟩ (.int .i64 0))=wF at hsf ⊢;obtain⟨hs,he⟩:=hsf;clear hF;(try simp only[Exit.then]);(repeat (first|go_skip|go_step));obtain⟨r0,r1,r2,r3,r4,r5⟩:=κ6 hs;refine bodyPost_ret (by simp[results,Tryz.results78,go_sem,r0,r1,r2,r3,r4,r5];try rfl) rfl ?_))
         exact⟨⟨12,0,false,false,false,0⟩,on,rfl,by rw[HRS.out];rfl,by (repeat (first|exact xE0 _|assumption|refine xE1 ?_ _|refine xE2 ?_|refine xE3 ?_ _|refine xE4 ?_ (by assumption)))⟩
       | false =>
        have HRS:Hid (R=none):=η (by
         obtain⟨_,_,_,_,q5,q6,q7,q8⟩:=HQ.out
         rw[HR4.out,if_neg]
         rw[q5,q6,q7,q8]
         simp)
        have HSF:=η (set6 HO2.out HE.out (Nat.le_succ _) 0 0 false false false 0)
        (have o2:=HO2.out;obtain⟨b0,b1,b2,b3,b4,b5⟩:=κ6 o2;have bf:=fun i=>zA (i:=i) o2;clear o2)
        go_wp2_with fail
        (have hsf:=HSF.out;generalize hF:(World.setCell (World.setCell (World.setCell (World.setCell (World.setCell (World.setCell wc0 ⟨w.heap.size+1,0,none⟩ (.int .u8 0)) ⟨w.heap.size+1,1,none⟩ (.int .u8 0)) ⟨w.heap.size+1,2,none⟩ (.bool false)) ⟨w.heap.size+1,3,none⟩ (.bool false)) ⟨w.heap.size+1,4,none⟩ (.bool false)) ⟨w.heap.size+1,5,none⟩ (.int .i64 0))=wF at hsf ⊢;obtain⟨hs,he⟩:=hsf;clear hF;(try simp only[Exit.then]);(repeat (first|go_skip|go_step));obtain⟨r0,r1,r2,r3,r4,r5⟩:=κ6 hs;refine bodyPost_ret (by simp[results,Tryz.results78,go_sem,r0,r1,r2,r3,r4,r5];try rfl) rfl ?_)
        exact⟨Wh.zero,false,rfl,HRS.out,by (repeat (first|exact xE0 _|assumption|refine xE1 ?_ _|refine xE2 ?_|refine xE3 ?_ _|refine xE4 ?_ (by assumption)))⟩
section
variable {P:Program} {ops:Array Oper} {md:Region.Mode} {D:Bool→World→Prop} {s m:Nat}
def tK (C:World→Prop)(v:Value):Result Next→Prop
 | .ok (.value u) w'=>u=v∧C w'
 | _=>False
def waitsB (md:Region.Mode)(ops:Array Oper)(s m n:Nat):Bool :=
 (List.range n).all fun i=>decide (i < m) || (match ops[i]? with|some o=>o.after.any (fun e=>Region.binds md e && (e.on == s || (decide (m≤e.on) && decide (e.on < i))))|none=>false)
theorem waits_listed {n:Nat}{listed:Array Bool}(hB:waitsB md ops s m n=true)(inv:HeadInv md ops n listed):∀ i,i < n→m≤i→(listed.getD i false=true∨i∈Region.ready md ops listed)→listed.getD s false=true:=by
 intro i
 induction i using Nat.strongRecOn with
 | _ i ih =>
  intro hin hmi hl
  unfold waitsB at hB
  rw[List.all_eq_true]at hB
  have h1:=hB i (by simpa using hin)
  simp only[Bool.or_eq_true,decide_eq_true_eq]at h1
  rcases h1 with h1|h1
  ·omega
  ·cases ho:ops[i]? with
   | none=>rw[ho]at h1;cases h1
   | some o =>
    rw[ho]at h1
    simp only[Array.any_eq_true']at h1
    obtain⟨e,he,h2⟩:=h1
    simp only[Bool.and_eq_true,Bool.or_eq_true,beq_iff_eq,decide_eq_true_eq]at h2
    obtain⟨hb,h2⟩:=h2
    have hon:listed.getD e.on false=true:=by
     rcases hl with hl|hl
     ·exact inv.closed i o ho hl e he hb
     ·obtain⟨_,o',ho',hall⟩:=mem_ready.1 hl
      rw[ho]at ho'
      injection ho' with ho'
      subst ho'
      exact hall e he hb
    rcases h2 with h2|⟨h2,h3⟩
    ·rw[← h2];exact hon
    ·exact ih e.on h3 (by omega) h2 (.inl hon)
end
structure Same (W:World) where
 val:World
 heap:val.heap=W.heap
 ext:Ext W val
instance (W:World):Nonempty (Same W):=⟨⟨W,rfl,Ext.rfl' W⟩⟩
end Go.Proofs.YtppefchjoodgnaaGreat
