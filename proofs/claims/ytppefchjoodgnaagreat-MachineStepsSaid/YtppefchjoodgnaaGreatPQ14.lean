import Derived.Test.YtppefchjoodgnaaGreatPQ12
import Derived.Test.YtppefchjoodgnaaGreatPQ13
import Derived.BigRegion
import Derived.Deep.RegionHeld3
set_option linter.unusedSimpArgs false
set_option linter.unusedVariables false
namespace Go.Proofs.YtppefchjoodgnaaGreat
open Go.RowKit
def kR (op:Int):Int:=if op / 8%4=0 then 4 else if op / 8%4=1 then 2 else if op / 8%4=2 then 1 else 8
def uM (x:Ins):Option Wh :=
 if x.op%8=1 then (if x.dst≠10∧x.imm=0∧(x.op / 32 * 32=96∨(x.op / 32 * 32=128∧kR x.op < 8)) then some ⟨5,0,false,false,x.op / 32 * 32 == 128,kR x.op⟩ else none)
 else if x.op%8=2 then (if x.op / 32 * 32=96∧x.src=0 then some ⟨6,0,false,false,false,kR x.op⟩ else none)
 else if x.op%8=3 then
  (if x.op / 32 * 32=96 then (if x.imm=0 then some ⟨7,0,false,true,false,kR x.op⟩ else none)
   else if x.op / 32 * 32=192∧4≤kR x.op∧x.imm∈[0,64,80,160] then some ⟨8,x.imm%256,false,true,false,kR x.op⟩ else none)
 else none
theorem setq {w0 wc:World}{q:Nat}{y:Wh}(h:wc.heap[q]?=some (zF y))(he:Ext w0 wc)(hq:w0.heap.size≤q)(k:Int):
  (wc.setCell ⟨q,0,none⟩ (.int .u8 k)).heap[q]?=some (zF {y with kind:=k})∧(∀ j,j≠q→(wc.setCell ⟨q,0,none⟩ (.int .u8 k)).heap[j]?=wc.heap[j]?)∧Ext w0 (wc.setCell ⟨q,0,none⟩ (.int .u8 k)) :=
 ⟨by simpa using heap_setCell_same wc q 0 _ _ (.int .u8 k) h,fun j hj=>heap_setCell_other _ _ _ _ hj,he.setCell hq _⟩
theorem setop {w0 wc:World}{q:Nat}{y:Wh}(h:wc.heap[q]?=some (zF y))(he:Ext w0 wc)(hq:w0.heap.size≤q)(k:Int):
  (wc.setCell ⟨q,1,none⟩ (.int .u8 k)).heap[q]?=some (zF {y with op:=k})∧(∀ j,j≠q→(wc.setCell ⟨q,1,none⟩ (.int .u8 k)).heap[j]?=wc.heap[j]?)∧Ext w0 (wc.setCell ⟨q,1,none⟩ (.int .u8 k)) :=
 ⟨by simpa using heap_setCell_same wc q 1 _ _ (.int .u8 k) h,fun j hj=>heap_setCell_other _ _ _ _ hj,he.setCell hq _⟩
theorem setreg {w0 wc:World}{q:Nat}{y:Wh}(h:wc.heap[q]?=some (zF y))(he:Ext w0 wc)(hq:w0.heap.size≤q)(k:Bool):
  (wc.setCell ⟨q,3,none⟩ (.bool k)).heap[q]?=some (zF {y with reg:=k})∧(∀ j,j≠q→(wc.setCell ⟨q,3,none⟩ (.bool k)).heap[j]?=wc.heap[j]?)∧Ext w0 (wc.setCell ⟨q,3,none⟩ (.bool k)) :=
 ⟨by simpa using heap_setCell_same wc q 3 _ _ (.bool k) h,fun j hj=>heap_setCell_other _ _ _ _ hj,he.setCell hq _⟩
theorem setsg {w0 wc:World}{q:Nat}{y:Wh}(h:wc.heap[q]?=some (zF y))(he:Ext w0 wc)(hq:w0.heap.size≤q)(k:Bool):
  (wc.setCell ⟨q,4,none⟩ (.bool k)).heap[q]?=some (zF {y with signed:=k})∧(∀ j,j≠q→(wc.setCell ⟨q,4,none⟩ (.bool k)).heap[j]?=wc.heap[j]?)∧Ext w0 (wc.setCell ⟨q,4,none⟩ (.bool k)) :=
 ⟨by simpa using heap_setCell_same wc q 4 _ _ (.bool k) h,fun j hj=>heap_setCell_other _ _ _ _ hj,he.setCell hq _⟩
theorem rd_four (w:World):Rd (w.alloc (.cells #[.int .i32 0,.int .i32 64,.int .i32 80,.int .i32 160] 21)) 1 (fun x=>[Value.int .i32 x]) (.slice (some ⟨w.heap.size,0,none⟩) 4 4) [0,64,80,160]:=by
 have h:=heap_alloc_new w (.cells #[.int .i32 0,.int .i32 64,.int .i32 80,.int .i32 160] 21)
 refine⟨_,_,rfl,by simp,by simp[maxLen],by simp,fun i x hx j u hu=>?_⟩
 have hj:j=0:=by
  rcases j with _|j
  ·rfl
  ·simp at hu
 subst hj
 simp at hu
 subst hu
 have e:elt (.slice (some ⟨w.heap.size,0,none⟩) 4 4) (i * 1+0)=⟨w.heap.size,i,none⟩:=by simp[elt,Addr.add]<;>omega
 rw[e,cO h]
 rcases i with _|_|_|_|i
 all_goals first|(simp at hx;subst hx;rfl)|(simp at hx)
set_option maxHeartbeats 1000000 in
theorem p_size (op:Int)(w:World)(h:0≤op∧op≤255):Calls Tryz.prog 156 #[.int .u8 op] w fun e w'=>e=.returned (.int .i64 (kR op))∧w'=w:=by
 have e1:bits .and .u8 op 24=op / 8%4 * 8:=xL (fun x=>bits .and .u8 x 24=x / 8%4 * 8) (by decide +kernel) op h
 obtain⟨m,hm⟩:∃ m,op / 8%4=m:=⟨_,rfl⟩
 have hm4:m=0∨m=1∨m=2∨m=3:=by omega
 unfold kR
 rw[hm]at e1 ⊢
 clear hm h
 rcases hm4 with rfl|rfl|rfl|rfl
 all_goals
  go_enter Tryz.func156,Tryz.ntmps156
  go_wp2
  go_returns
  exact⟨rfl,rfl⟩
set_option maxRecDepth 20000 in
set_option maxHeartbeats 8000000 in
theorem p_moves (x:Ins)(w:World)(hx:x.Ok):Calls Tryz.prog 119 #[x.agg] w (WhA (uM x) w):=by
 have e1:bits .and .u8 x.op 224=x.op / 32 * 32:=xL (fun x=>bits .and .u8 x 224=x / 32 * 32) (by decide +kernel) x.op hx.op
 have HOP:=η hx.op
 unfold uM
 obtain⟨m,hm⟩:∃ m,x.op / 32 * 32=m:=⟨_,rfl⟩
 obtain⟨c,hc⟩:∃ c,x.op%8=c:=⟨_,rfl⟩
 obtain⟨n,hn⟩:∃ n,kR x.op=n:=⟨_,rfl⟩
 obtain⟨zd,hzd⟩:∃ z,(x.dst != 10)=z:=⟨_,rfl⟩
 obtain⟨zi,hzi⟩:∃ z,(x.imm == 0)=z:=⟨_,rfl⟩
 obtain⟨zs,hzs⟩:∃ z,(x.src == 0)=z:=⟨_,rfl⟩
 obtain⟨k1,hk1⟩:∃ z,(c == 1)=z:=⟨_,rfl⟩
 obtain⟨k2,hk2⟩:∃ z,(c == 2)=z:=⟨_,rfl⟩
 obtain⟨k3,hk3⟩:∃ z,(c == 3)=z:=⟨_,rfl⟩
 obtain⟨m96,hm96⟩:∃ z,(m == 96)=z:=⟨_,rfl⟩
 obtain⟨m128,hm128⟩:∃ z,(m == 128)=z:=⟨_,rfl⟩
 obtain⟨m192,hm192⟩:∃ z,(m == 192)=z:=⟨_,rfl⟩
 obtain⟨n8,hn8⟩:∃ z,decide (n < 8)=z:=⟨_,rfl⟩
 obtain⟨n4,hn4⟩:∃ z,decide (n ≥ 4)=z:=⟨_,rfl⟩
 obtain⟨f4,hf4⟩:∃ z,[(0:Int),64,80,160].contains x.imm=z:=⟨_,rfl⟩
 have HC:=η hc
 have HNN:=η hn
 rw[hm]at e1
 rw[hm,hc,hn]
 have b1:(c=1)=(k1=true):=by rw[← hk1];simp
 have b2:(c=2)=(k2=true):=by rw[← hk2];simp
 have b3:(c=3)=(k3=true):=by rw[← hk3];simp
 have b4:(m=96)=(m96=true):=by rw[← hm96];simp
 have b5:(m=128)=(m128=true):=by rw[← hm128];simp
 have b6:(m=192)=(m192=true):=by rw[← hm192];simp
 have b7:(n < 8)=(n8=true):=by rw[← hn8];simp
 have b8:(4≤n)=(n4=true):=by rw[← hn4];simp
 have b9:(x.imm∈[(0:Int),64,80,160])=(f4=true):=by rw[← hf4];simp
 have b10:(x.dst≠10)=(zd=true):=by rw[← hzd];simp
 have b11:(x.imm=0)=(zi=true):=by rw[← hzi];simp
 have b12:(x.src=0)=(zs=true):=by rw[← hzs];simp
 simp only[b1,b2,b3,b4,b5,b6,b7,b8,b9,b10,b11,b12,hm128]
 obtain⟨R,hR⟩:∃ R,R=(if k1=true then (if zd=true∧zi=true∧(m96=true∨m128=true∧n8=true) then some (⟨5,0,false,false,m128,n⟩:Wh) else none) else if k2=true then (if m96=true∧zs=true then some ⟨6,0,false,false,false,n⟩ else none) else if k3=true then (if m96=true then (if zi=true then some ⟨7,0,false,true,false,n⟩ else none) else if m192=true∧n4=true∧f4=true then some ⟨8,x.imm%256,false,true,false,n⟩ else none) else none):=⟨_,rfl⟩
 rw[← hR]
 have HR:=η hR
 clear hm hc hn hR b1 b2 b3 b4 b5 b6 b7 b8 b9 b10 b11 b12
 have HF4:=η hf4
 clear hf4
 go_enter Tryz.func119,Tryz.ntmps119
 go_upto_region 1 with fail
 go_cut [4] (fun v wx=>∃ q,v=.pointer (some ⟨q,0,none⟩)∧Hid (Ext w wx∧wx.heap[w.heap.size]?=some (zQ x)∧wx.heap[w.heap.size+1]?=some (zF Wh.zero)∧wx.heap[q]?=some (zF ⟨0,0,false,false,false,n⟩)∧w.heap.size+1 < q))
 case first =>
  go_wp2_with fail
  refine(p_size x.op _ HOP.out).mono ?_
  rw[HNN.out]
  rintro e w5 ⟨rfl,rfl⟩
  go_wp2_with fail
  all_goals
   go_meet
   refine⟨_,rfl,η ⟨by (repeat (first|exact xE0 _|assumption|refine xE1 ?_ _|refine xE2 ?_|refine xE3 ?_ _|refine xE4 ?_ (by assumption))),?_,?_,?_,?_⟩⟩
   ·(repeat (first|(refine zD _ _ ?_;simp;done)|refine zB _ ?_))
   ·(repeat (first|(refine zD _ _ ?_;simp;done)|refine zB _ ?_))
   ·(repeat (first|(refine zD _ _ ?_;simp;done)|refine zB _ ?_))
   ·omega
 case rest =>
  obtain⟨q,rfl,HW⟩:=hcut
  have HO1:=η HW.out.2.1
  (have o1:=HO1.out;obtain⟨a0,a1,a2,a3,a4⟩:=κ5 o1;clear o1)
  go_upto_region 3 with fail
  go_cut [14] (fun v wx=>v=.int .u8 c∧Hid (Ext wc wx))
  case first =>
   go_wp2_with fail
   refine(p_class x _ HOP.out).mono ?_
   rw[HC.out]
   rintro e w5 ⟨rfl,rfl⟩
   go_wp2_with fail
   go_meet
   exact⟨rfl,η (by (repeat (first|exact xE0 _|assumption|refine xE1 ?_ _|refine xE2 ?_|refine xE3 ?_ _|refine xE4 ?_ (by assumption))))⟩
  case rest =>
   obtain⟨rfl,HX⟩:=hcut
   have HQ:=HW.out.2.2.2.2
   have HO1:=η (HX.out.obj HW.out.2.1)
   have HO2:=η (HX.out.obj HW.out.2.2.1)
   have HO3:=η (HX.out.obj HW.out.2.2.2.1)
   have HE:=η (HW.out.1.trans' HX.out)
   clear HW HX a0 a1 a2 a3 a4
   have ob:=fun i=>zA (i:=i) HO3.out
   have HOB:=η ob
   clear ob
   cases k1 with
   | true =>
    have ob:=HOB.out
    (have o1:=HO1.out;have o3:=HO3.out;obtain⟨a0,a1,a2,a3,a4⟩:=κ5 o1;obtain⟨q0,q1,q2,q3,q4,q5⟩:=κ6 o3;clear o1 o3)
    go_upto_region 6 with fail
    obtain⟨s1,s2,s3⟩:=setq HO3.out HE.out (by omega) (5)
    have hp1:=(s2 _ (by omega:w.heap.size≠q)).trans HO1.out
    have hp2:=(s2 _ (by omega:w.heap.size+1≠q)).trans HO2.out
    replace HO1:=η hp1
    replace HO2:=η hp2
    replace HO3:=η s1
    replace HE:=η s3
    clear s1 s2 s3 hp1 hp2
    obtain⟨s1,s2,s3⟩:=setsg HO3.out HE.out (by omega) (m128)
    have hp1:=(s2 _ (by omega:w.heap.size≠q)).trans HO1.out
    have hp2:=(s2 _ (by omega:w.heap.size+1≠q)).trans HO2.out
    replace HO1:=η hp1
    replace HO2:=η hp2
    replace HO3:=η s1
    replace HE:=η s3
    clear s1 s2 s3 hp1 hp2
    generalize hF:(World.setCell (World.setCell wc ⟨q,0,none⟩ (.int .u8 5)) ⟨q,4,none⟩ (.bool m128))=wF at HO1 HO2 HO3 HE ⊢
    clear hF
    clear a0 a1 a2 a3 a4 q0 q1 q2 q3 q4 q5
    cases zd
    ·(obtain⟨W1,hE1,hB1,hO1,hS1⟩:=zP HO2.out HE.out (Nat.le_succ _) (5) (0) (false) (false) (m128) (n);have X1:=η (zJ hO1 HO1.out (by omega));have X3:=η (zJ hO1 HO3.out (by omega));clear hO1;have HS1:=η hS1;clear hS1;have HB1:=η hB1;clear hB1;refine zC 22 W1 (by kernel_rfl) (by kernel_rfl) rfl rfl rfl (by kernel_rfl) ?_;apply Exists.intro;apply Exists.intro;refine⟨fun W hW=>?_,rfl,fun nn=>?_,fun W hW=>?_,fun nn=>?_⟩;{have aZ:=fun n:Grow W=>n.ext.obj (X1.out W hW);obtain⟨a0,a1,a2,a3,a4⟩:=χ5 aZ;clear aZ;have qZ:=fun n:Grow W=>n.ext.obj (X3.out W hW);obtain⟨q0,q1,q2,q3,q4,q5⟩:=χ6 qZ;clear qZ;simp only[List.take_succ_cons,List.take_zero];(repeat (go_big_quiet_step (fail)));exact wpQuiet_nil rfl};{have O2:=nn.ext.obj HO2.out;obtain⟨b0,b1,b2,b3,b4,b5⟩:=κ6 O2;have bf:=fun i=>zA (i:=i) O2;clear O2;go_simp;exact HS1.out nn};{simp only[List.drop_succ_cons,List.drop_zero];(repeat (go_big_quiet_step (fail)));exact wpQuiet_nil rfl};have hs:=nn.ext.obj HB1.out;obtain⟨r0,r1,r2,r3,r4,r5⟩:=κ6 hs;(try simp only[Exit.then]);(repeat (first|go_skip|go_step));refine bodyPost_ret (by simp[results,Tryz.results119,go_sem,r0,r1,r2,r3,r4,r5];try rfl) rfl ?_)
     exact⟨⟨5,0,false,false,m128,n⟩,false,rfl,HR.out,hE1.trans' nn.ext⟩
    ·cases zi
     ·(obtain⟨W1,hE1,hB1,hO1,hS1⟩:=zP HO2.out HE.out (Nat.le_succ _) (5) (0) (false) (false) (m128) (n);have X1:=η (zJ hO1 HO1.out (by omega));have X3:=η (zJ hO1 HO3.out (by omega));clear hO1;have HS1:=η hS1;clear hS1;have HB1:=η hB1;clear hB1;refine zC 22 W1 (by kernel_rfl) (by kernel_rfl) rfl rfl rfl (by kernel_rfl) ?_;apply Exists.intro;apply Exists.intro;refine⟨fun W hW=>?_,rfl,fun nn=>?_,fun W hW=>?_,fun nn=>?_⟩;{have aZ:=fun n:Grow W=>n.ext.obj (X1.out W hW);obtain⟨a0,a1,a2,a3,a4⟩:=χ5 aZ;clear aZ;have qZ:=fun n:Grow W=>n.ext.obj (X3.out W hW);obtain⟨q0,q1,q2,q3,q4,q5⟩:=χ6 qZ;clear qZ;simp only[List.take_succ_cons,List.take_zero];(repeat (go_big_quiet_step (fail)));exact wpQuiet_nil rfl};{have O2:=nn.ext.obj HO2.out;obtain⟨b0,b1,b2,b3,b4,b5⟩:=κ6 O2;have bf:=fun i=>zA (i:=i) O2;clear O2;go_simp;exact HS1.out nn};{simp only[List.drop_succ_cons,List.drop_zero];(repeat (go_big_quiet_step (fail)));exact wpQuiet_nil rfl};have hs:=nn.ext.obj HB1.out;obtain⟨r0,r1,r2,r3,r4,r5⟩:=κ6 hs;(try simp only[Exit.then]);(repeat (first|go_skip|go_step));refine bodyPost_ret (by simp[results,Tryz.results119,go_sem,r0,r1,r2,r3,r4,r5];try rfl) rfl ?_)
      exact⟨⟨5,0,false,false,m128,n⟩,false,rfl,HR.out,hE1.trans' nn.ext⟩
     ·cases m96
      ·cases m128
       ·(obtain⟨W1,hE1,hB1,hO1,hS1⟩:=zP HO2.out HE.out (Nat.le_succ _) (5) (0) (false) (false) (false) (n);have X1:=η (zJ hO1 HO1.out (by omega));have X3:=η (zJ hO1 HO3.out (by omega));clear hO1;have HS1:=η hS1;clear hS1;have HB1:=η hB1;clear hB1;refine zC 22 W1 (by kernel_rfl) (by kernel_rfl) rfl rfl rfl (by kernel_rfl) ?_;apply Exists.intro;apply Exists.intro;refine⟨fun W hW=>?_,rfl,fun nn=>?_,fun W hW=>?_,fun nn=>?_⟩;{have aZ:=fun n:Grow W=>n.ext.obj (X1.out W hW);obtain⟨a0,a1,a2,a3,a4⟩:=χ5 aZ;clear aZ;have qZ:=fun n:Grow W=>n.ext.obj (X3.out W hW);obtain⟨q0,q1,q2,q3,q4,q5⟩:=χ6 qZ;clear qZ;simp only[List.take_succ_cons,List.take_zero];(repeat (go_big_quiet_step (fail)));exact wpQuiet_nil rfl};{have O2:=nn.ext.obj HO2.out;obtain⟨b0,b1,b2,b3,b4,b5⟩:=κ6 O2;have bf:=fun i=>zA (i:=i) O2;clear O2;go_simp;exact HS1.out nn};{simp only[List.drop_succ_cons,List.drop_zero];(repeat (go_big_quiet_step (fail)));exact wpQuiet_nil rfl};have hs:=nn.ext.obj HB1.out;obtain⟨r0,r1,r2,r3,r4,r5⟩:=κ6 hs;(try simp only[Exit.then]);(repeat (first|go_skip|go_step));refine bodyPost_ret (by simp[results,Tryz.results119,go_sem,r0,r1,r2,r3,r4,r5];try rfl) rfl ?_)
        exact⟨⟨5,0,false,false,false,n⟩,_,rfl,HR.out,hE1.trans' nn.ext⟩
       ·(obtain⟨W1,hE1,hB1,hO1,hS1⟩:=zP HO2.out HE.out (Nat.le_succ _) (5) (0) (false) (false) (true) (n);have X1:=η (zJ hO1 HO1.out (by omega));have X3:=η (zJ hO1 HO3.out (by omega));clear hO1;have HS1:=η hS1;clear hS1;have HB1:=η hB1;clear hB1;refine zC 22 W1 (by kernel_rfl) (by kernel_rfl) rfl rfl rfl (by kernel_rfl) ?_;apply Exists.intro;apply Exists.intro;refine⟨fun W hW=>?_,rfl,fun nn=>?_,fun W hW=>?_,fun nn=>?_⟩;{have aZ:=fun n:Grow W=>n.ext.obj (X1.out W hW);obtain⟨a0,a1,a2,a3,a4⟩:=χ5 aZ;clear aZ;have qZ:=fun n:Grow W=>n.ext.obj (X3.out W hW);obtain⟨q0,q1,q2,q3,q4,q5⟩:=χ6 qZ;clear qZ;simp only[List.take_succ_cons,List.take_zero];(repeat (go_big_quiet_step (fail)));exact wpQuiet_nil rfl};{have O2:=nn.ext.obj HO2.out;obtain⟨b0,b1,b2,b3,b4,b5⟩:=κ6 O2;have bf:=fun i=>zA (i:=i) O2;clear O2;go_simp;exact HS1.out nn};{simp only[List.drop_succ_cons,List.drop_zero];(repeat (go_big_quiet_step (fail)));exact wpQuiet_nil rfl};have hs:=nn.ext.obj HB1.out;obtain⟨r0,r1,r2,r3,r4,r5⟩:=κ6 hs;(try simp only[Exit.then]);(repeat (first|go_skip|go_step));refine bodyPost_ret (by simp[results,Tryz.results119,go_sem,r0,r1,r2,r3,r4,r5];try rfl) rfl ?_)
        exact⟨⟨5,0,false,false,true,n⟩,n8,rfl,by rw[HR.out];cases n8<;>rfl,hE1.trans' nn.ext⟩
      ·(obtain⟨W1,hE1,hB1,hO1,hS1⟩:=zP HO2.out HE.out (Nat.le_succ _) (5) (0) (false) (false) (m128) (n);have X1:=η (zJ hO1 HO1.out (by omega));have X3:=η (zJ hO1 HO3.out (by omega));clear hO1;have HS1:=η hS1;clear hS1;have HB1:=η hB1;clear hB1;refine zC 22 W1 (by kernel_rfl) (by kernel_rfl) rfl rfl rfl (by kernel_rfl) ?_;apply Exists.intro;apply Exists.intro;refine⟨fun W hW=>?_,rfl,fun nn=>?_,fun W hW=>?_,fun nn=>?_⟩;{have aZ:=fun n:Grow W=>n.ext.obj (X1.out W hW);obtain⟨a0,a1,a2,a3,a4⟩:=χ5 aZ;clear aZ;have qZ:=fun n:Grow W=>n.ext.obj (X3.out W hW);obtain⟨q0,q1,q2,q3,q4,q5⟩:=χ6 qZ;clear qZ;simp only[List.take_succ_cons,List.take_zero];(repeat (go_big_quiet_step (fail)));exact wpQuiet_nil rfl};{have O2:=nn.ext.obj HO2.out;obtain⟨b0,b1,b2,b3,b4,b5⟩:=κ6 O2;have bf:=fun i=>zA (i:=i) O2;clear O2;go_simp;exact HS1.out nn};{simp only[List.drop_succ_cons,List.drop_zero];(repeat (go_big_quiet_step (fail)));exact wpQuiet_nil rfl};have hs:=nn.ext.obj HB1.out;obtain⟨r0,r1,r2,r3,r4,r5⟩:=κ6 hs;(try simp only[Exit.then]);(repeat (first|go_skip|go_step));refine bodyPost_ret (by simp[results,Tryz.results119,go_sem,r0,r1,r2,r3,r4,r5];try rfl) rfl ?_)
       exact⟨⟨5,0,false,false,m128,n⟩,true,rfl,HR.out,hE1.trans' nn.ext⟩
   | false =>
    cases k2 with
    | true =>
     have ob:=HOB.out
     (have o1:=HO1.out;have o3:=HO3.out;obtain⟨a0,a1,a2,a3,a4⟩:=κ5 o1;obtain⟨q0,q1,q2,q3,q4,q5⟩:=κ6 o3;clear o1 o3)
     go_upto_region 9 with fail
     obtain⟨s1,s2,s3⟩:=setq HO3.out HE.out (by omega) (6)
     have hp1:=(s2 _ (by omega:w.heap.size≠q)).trans HO1.out
     have hp2:=(s2 _ (by omega:w.heap.size+1≠q)).trans HO2.out
     replace HO1:=η hp1
     replace HO2:=η hp2
     replace HO3:=η s1
     replace HE:=η s3
     clear s1 s2 s3 hp1 hp2
     generalize hF:(World.setCell wc ⟨q,0,none⟩ (.int .u8 6))=wF at HO1 HO2 HO3 HE ⊢
     clear hF
     clear a0 a1 a2 a3 a4 q0 q1 q2 q3 q4 q5
     cases m96
     ·(obtain⟨W1,hE1,hB1,hO1,hS1⟩:=zP HO2.out HE.out (Nat.le_succ _) (6) (0) (false) (false) (false) (n);have X1:=η (zJ hO1 HO1.out (by omega));have X3:=η (zJ hO1 HO3.out (by omega));clear hO1;have HS1:=η hS1;clear hS1;have HB1:=η hB1;clear hB1;refine zC 8 W1 (by kernel_rfl) (by kernel_rfl) rfl rfl rfl (by kernel_rfl) ?_;apply Exists.intro;apply Exists.intro;refine⟨fun W hW=>?_,rfl,fun nn=>?_,fun W hW=>?_,fun nn=>?_⟩;{have aZ:=fun n:Grow W=>n.ext.obj (X1.out W hW);obtain⟨a0,a1,a2,a3,a4⟩:=χ5 aZ;clear aZ;have qZ:=fun n:Grow W=>n.ext.obj (X3.out W hW);obtain⟨q0,q1,q2,q3,q4,q5⟩:=χ6 qZ;clear qZ;simp only[List.take_succ_cons,List.take_zero];(repeat (go_big_quiet_step (fail)));exact wpQuiet_nil rfl};{have O2:=nn.ext.obj HO2.out;obtain⟨b0,b1,b2,b3,b4,b5⟩:=κ6 O2;have bf:=fun i=>zA (i:=i) O2;clear O2;go_simp;exact HS1.out nn};{simp only[List.drop_succ_cons,List.drop_zero];(repeat (go_big_quiet_step (fail)));exact wpQuiet_nil rfl};have hs:=nn.ext.obj HB1.out;obtain⟨r0,r1,r2,r3,r4,r5⟩:=κ6 hs;(try simp only[Exit.then]);(repeat (first|go_skip|go_step));refine bodyPost_ret (by simp[results,Tryz.results119,go_sem,r0,r1,r2,r3,r4,r5];try rfl) rfl ?_)
      exact⟨⟨6,0,false,false,false,n⟩,_,rfl,HR.out,hE1.trans' nn.ext⟩
     ·(obtain⟨W1,hE1,hB1,hO1,hS1⟩:=zP HO2.out HE.out (Nat.le_succ _) (6) (0) (false) (false) (false) (n);have X1:=η (zJ hO1 HO1.out (by omega));have X3:=η (zJ hO1 HO3.out (by omega));clear hO1;have HS1:=η hS1;clear hS1;have HB1:=η hB1;clear hB1;refine zC 8 W1 (by kernel_rfl) (by kernel_rfl) rfl rfl rfl (by kernel_rfl) ?_;apply Exists.intro;apply Exists.intro;refine⟨fun W hW=>?_,rfl,fun nn=>?_,fun W hW=>?_,fun nn=>?_⟩;{have aZ:=fun n:Grow W=>n.ext.obj (X1.out W hW);obtain⟨a0,a1,a2,a3,a4⟩:=χ5 aZ;clear aZ;have qZ:=fun n:Grow W=>n.ext.obj (X3.out W hW);obtain⟨q0,q1,q2,q3,q4,q5⟩:=χ6 qZ;clear qZ;simp only[List.take_succ_cons,List.take_zero];(repeat (go_big_quiet_step (fail)));exact wpQuiet_nil rfl};{have O2:=nn.ext.obj HO2.out;obtain⟨b0,b1,b2,b3,b4,b5⟩:=κ6 O2;have bf:=fun i=>zA (i:=i) O2;clear O2;go_simp;exact HS1.out nn};{simp only[List.drop_succ_cons,List.drop_zero];(repeat (go_big_quiet_step (fail)));exact wpQuiet_nil rfl};have hs:=nn.ext.obj HB1.out;obtain⟨r0,r1,r2,r3,r4,r5⟩:=κ6 hs;(try simp only[Exit.then]);(repeat (first|go_skip|go_step));refine bodyPost_ret (by simp[results,Tryz.results119,go_sem,r0,r1,r2,r3,r4,r5];try rfl) rfl ?_)
      exact⟨⟨6,0,false,false,false,n⟩,zs,rfl,by rw[HR.out];cases zs<;>rfl,hE1.trans' nn.ext⟩
    | false =>
     cases k3 with
     | true =>
      have ob:=HOB.out
      (have o1:=HO1.out;have o3:=HO3.out;obtain⟨a0,a1,a2,a3,a4⟩:=κ5 o1;obtain⟨q0,q1,q2,q3,q4,q5⟩:=κ6 o3;clear o1 o3)
      go_upto_region 12 with fail
      obtain⟨s1,s2,s3⟩:=setreg HO3.out HE.out (by omega) (true)
      have hp1:=(s2 _ (by omega:w.heap.size≠q)).trans HO1.out
      have hp2:=(s2 _ (by omega:w.heap.size+1≠q)).trans HO2.out
      replace HO1:=η hp1
      replace HO2:=η hp2
      replace HO3:=η s1
      replace HE:=η s3
      clear s1 s2 s3 hp1 hp2
      generalize hF:(World.setCell wc ⟨q,3,none⟩ (.bool true))=wF at HO1 HO2 HO3 HE ⊢
      clear hF
      clear a0 a1 a2 a3 a4 q0 q1 q2 q3 q4 q5
      cases m96 with
      | true =>
       have ob:=fun i=>zA (i:=i) HO3.out
       (have o1:=HO1.out;have o3:=HO3.out;obtain⟨a0,a1,a2,a3,a4⟩:=κ5 o1;obtain⟨q0,q1,q2,q3,q4,q5⟩:=κ6 o3;clear o1 o3)
       go_upto_region 14 with fail
       obtain⟨s1,s2,s3⟩:=setq HO3.out HE.out (by omega) (7)
       have hp1:=(s2 _ (by omega:w.heap.size≠q)).trans HO1.out
       have hp2:=(s2 _ (by omega:w.heap.size+1≠q)).trans HO2.out
       replace HO1:=η hp1
       replace HO2:=η hp2
       replace HO3:=η s1
       replace HE:=η s3
       clear s1 s2 s3 hp1 hp2
       generalize hF:(World.setCell wF ⟨q,0,none⟩ (.int .u8 7))=wF at HO1 HO2 HO3 HE ⊢
       clear hF
       clear a0 a1 a2 a3 a4 q0 q1 q2 q3 q4 q5
       (obtain⟨W1,hE1,hB1,hO1,hS1⟩:=zP HO2.out HE.out (Nat.le_succ _) (7) (0) (false) (true) (false) (n);have X1:=η (zJ hO1 HO1.out (by omega));have X3:=η (zJ hO1 HO3.out (by omega));clear hO1;have HS1:=η hS1;clear hS1;have HB1:=η hB1;clear hB1;refine zC 4 W1 (by kernel_rfl) (by kernel_rfl) rfl rfl rfl (by kernel_rfl) ?_;apply Exists.intro;apply Exists.intro;refine⟨fun W hW=>?_,rfl,fun nn=>?_,fun W hW=>?_,fun nn=>?_⟩;{have aZ:=fun n:Grow W=>n.ext.obj (X1.out W hW);obtain⟨a0,a1,a2,a3,a4⟩:=χ5 aZ;clear aZ;have qZ:=fun n:Grow W=>n.ext.obj (X3.out W hW);obtain⟨q0,q1,q2,q3,q4,q5⟩:=χ6 qZ;clear qZ;simp only[List.take_succ_cons,List.take_zero];(repeat (go_big_quiet_step (fail)));exact wpQuiet_nil rfl};{have O2:=nn.ext.obj HO2.out;obtain⟨b0,b1,b2,b3,b4,b5⟩:=κ6 O2;have bf:=fun i=>zA (i:=i) O2;clear O2;go_simp;exact HS1.out nn};{simp only[List.drop_succ_cons,List.drop_zero];(repeat (go_big_quiet_step (fail)));exact wpQuiet_nil rfl};have hs:=nn.ext.obj HB1.out;obtain⟨r0,r1,r2,r3,r4,r5⟩:=κ6 hs;(try simp only[Exit.then]);(repeat (first|go_skip|go_step));refine bodyPost_ret (by simp[results,Tryz.results119,go_sem,r0,r1,r2,r3,r4,r5];try rfl) rfl ?_)
       exact⟨⟨7,0,false,true,false,n⟩,zi,rfl,by rw[HR.out];cases zi<;>rfl,hE1.trans' nn.ext⟩
      | false =>
       go_upto_region 15 with fail
       go_cut [67] (fun v wx=>Hid (Ext w wx∧wx.heap[w.heap.size]?=some (zQ x)∧wx.heap[w.heap.size+1]?=some (zF Wh.zero)∧wx.heap[q]?=some (zF ⟨8,x.imm%256,false,true,false,n⟩)))
       case first =>
        have ob:=fun i=>zA (i:=i) HO3.out
        (have o1:=HO1.out;have o3:=HO3.out;obtain⟨a0,a1,a2,a3,a4⟩:=κ5 o1;obtain⟨q0,q1,q2,q3,q4,q5⟩:=κ6 o3;clear o1 o3)
        go_region
        all_goals
         go_wp2_with fail
         go_meet
         obtain⟨s1,s2,s3⟩:=setq HO3.out HE.out (by omega) 8
         obtain⟨t1,t2,t3⟩:=setop s1 s3 (by omega) (x.imm%256)
         exact η ⟨Ext.drew' t3,(t2 _ (by omega)).trans ((s2 _ (by omega)).trans HO1.out),(t2 _ (by omega)).trans ((s2 _ (by omega)).trans HO2.out),t1⟩
       case rest =>
        have HO1:=η hcut.out.2.1
        have HO2:=η hcut.out.2.2.1
        have HO3:=η hcut.out.2.2.2
        have HE:=η hcut.out.1
        go_upto_region 16 with fail
        cases m192
        ·(obtain⟨W1,hE1,hB1,hO1,hS1⟩:=zP HO2.out HE.out (Nat.le_succ _) (8) ((x.imm%256)) (false) (true) (false) (n);have X1:=η (zJ hO1 HO1.out (by omega));have X3:=η (zJ hO1 HO3.out (by omega));clear hO1;have HS1:=η hS1;clear hS1;have HB1:=η hB1;clear hB1;refine zC 14 W1 (by kernel_rfl) (by kernel_rfl) rfl rfl rfl (by kernel_rfl) ?_;apply Exists.intro;apply Exists.intro;refine⟨fun W hW=>?_,rfl,fun nn=>?_,fun W hW=>?_,fun nn=>?_⟩;{have aZ:=fun n:Grow W=>n.ext.obj (X1.out W hW);obtain⟨a0,a1,a2,a3,a4⟩:=χ5 aZ;clear aZ;have qZ:=fun n:Grow W=>n.ext.obj (X3.out W hW);obtain⟨q0,q1,q2,q3,q4,q5⟩:=χ6 qZ;clear qZ;simp only[List.take_succ_cons,List.take_zero];(repeat (go_big_quiet_step (fail)));exact wpQuiet_nil rfl};{have O2:=nn.ext.obj HO2.out;obtain⟨b0,b1,b2,b3,b4,b5⟩:=κ6 O2;have bf:=fun i=>zA (i:=i) O2;clear O2;go_simp;exact HS1.out nn};{simp only[List.drop_succ_cons,List.drop_zero];(repeat (go_big_quiet_step (fail)));exact wpQuiet_nil rfl};have hs:=nn.ext.obj HB1.out;obtain⟨r0,r1,r2,r3,r4,r5⟩:=κ6 hs;(try simp only[Exit.then]);(repeat (first|go_skip|go_step));refine bodyPost_ret (by simp[results,Tryz.results119,go_sem,r0,r1,r2,r3,r4,r5];try rfl) rfl ?_)
         exact⟨⟨8,(x.imm%256),false,true,false,n⟩,_,rfl,HR.out,hE1.trans' nn.ext⟩
        ·cases n4
         ·(obtain⟨W1,hE1,hB1,hO1,hS1⟩:=zP HO2.out HE.out (Nat.le_succ _) (8) ((x.imm%256)) (false) (true) (false) (n);have X1:=η (zJ hO1 HO1.out (by omega));have X3:=η (zJ hO1 HO3.out (by omega));clear hO1;have HS1:=η hS1;clear hS1;have HB1:=η hB1;clear hB1;refine zC 14 W1 (by kernel_rfl) (by kernel_rfl) rfl rfl rfl (by kernel_rfl) ?_;apply Exists.intro;apply Exists.intro;refine⟨fun W hW=>?_,rfl,fun nn=>?_,fun W hW=>?_,fun nn=>?_⟩;{have aZ:=fun n:Grow W=>n.ext.obj (X1.out W hW);obtain⟨a0,a1,a2,a3,a4⟩:=χ5 aZ;clear aZ;have qZ:=fun n:Grow W=>n.ext.obj (X3.out W hW);obtain⟨q0,q1,q2,q3,q4,q5⟩:=χ6 qZ;clear qZ;simp only[List.take_succ_cons,List.take_zero];(repeat (go_big_quiet_step (fail)));exact wpQuiet_nil rfl};{have O2:=nn.ext.obj HO2.out;obtain⟨b0,b1,b2,b3,b4,b5⟩:=κ6 O2;have bf:=fun i=>zA (i:=i) O2;clear O2;go_simp;exact HS1.out nn};{simp only[List.drop_succ_cons,List.drop_zero];(repeat (go_big_quiet_step (fail)));exact wpQuiet_nil rfl};have hs:=nn.ext.obj HB1.out;obtain⟨r0,r1,r2,r3,r4,r5⟩:=κ6 hs;(try simp only[Exit.then]);(repeat (first|go_skip|go_step));refine bodyPost_ret (by simp[results,Tryz.results119,go_sem,r0,r1,r2,r3,r4,r5];try rfl) rfl ?_)
          exact⟨⟨8,(x.imm%256),false,true,false,n⟩,_,rfl,HR.out,hE1.trans' nn.ext⟩
         ·(have o1:=HO1.out;have o2:=HO2.out;have o3:=HO3.out;obtain⟨a0,a1,a2,a3,a4⟩:=κ5 o1;obtain⟨b0,b1,b2,b3,b4,b5⟩:=κ6 o2;have bf:=fun i=>zA (i:=i) o2;obtain⟨q0,q1,q2,q3,q4,q5⟩:=κ6 o3;clear o1 o2 o3)
          (have o1:=fun o=>zB o HO1.out;have o2:=fun o=>zB o HO2.out;have o3:=fun o=>zB o HO3.out;have a0o:=fun o=>cO (i:=0) (o1 o);have a1o:=fun o=>cO (i:=1) (o1 o);have a2o:=fun o=>cO (i:=2) (o1 o);have a3o:=fun o=>cO (i:=3) (o1 o);have a4o:=fun o=>cO (i:=4) (o1 o);have b0o:=fun o=>cO (i:=0) (o2 o);have b1o:=fun o=>cO (i:=1) (o2 o);have b2o:=fun o=>cO (i:=2) (o2 o);have b3o:=fun o=>cO (i:=3) (o2 o);have b4o:=fun o=>cO (i:=4) (o2 o);have b5o:=fun o=>cO (i:=5) (o2 o);have bfo:=fun o i=>zA (i:=i) (o2 o);have q0o:=fun o=>cO (i:=0) (o3 o);have q1o:=fun o=>cO (i:=1) (o3 o);have q2o:=fun o=>cO (i:=2) (o3 o);have q3o:=fun o=>cO (i:=3) (o3 o);have q4o:=fun o=>cO (i:=4) (o3 o);have q5o:=fun o=>cO (i:=5) (o3 o);simp only[gA,gB,gC]at a0o a1o a2o a3o a4o b0o b1o b2o b3o b4o b5o q0o q1o q2o q3o q4o q5o;clear o1 o2 o3)
          have hun:undef=Value.tuple #[]:=rfl
          have HSF:=η (set6 (zB (.cells #[.int .i32 0,.int .i32 64,.int .i32 80,.int .i32 160] 21) HO2.out) (HE.out.alloc' _) (Nat.le_succ _) 8 (x.imm%256) false true false n)
          first|go_region_law ((go_simp;go_at_call 157;refine(contains_i32 (.slice (some ⟨wc.heap.size,0,none⟩) 4 4) [0,64,80,160] x.imm _ ((rd_four wc).ext (by (repeat (first|exact xE0 _|assumption|refine xE1 ?_ _|refine xE2 ?_|refine xE3 ?_ _|refine xE4 ?_ (by assumption)))))).mono ?_;rw[HF4.out];rintro e w5 ⟨rfl,rfl⟩))|fail
          all_goals
           (have hsf:=HSF.out;generalize hF:(World.setCell (World.setCell (World.setCell (World.setCell (World.setCell (World.setCell (World.alloc wc (.cells #[.int .i32 0,.int .i32 64,.int .i32 80,.int .i32 160] 21)) ⟨w.heap.size+1,0,none⟩ (.int .u8 8)) ⟨w.heap.size+1,1,none⟩ (.int .u8 (x.imm%256))) ⟨w.heap.size+1,2,none⟩ (.bool false)) ⟨w.heap.size+1,3,none⟩ (.bool true)) ⟨w.heap.size+1,4,none⟩ (.bool false)) ⟨w.heap.size+1,5,none⟩ (.int .i64 n))=wF at hsf ⊢;obtain⟨hs,he⟩:=hsf;clear hF;(try simp only[Exit.then]);(repeat (first|go_skip|go_step));obtain⟨r0,r1,r2,r3,r4,r5⟩:=κ6 hs;refine bodyPost_ret (by simp[results,Tryz.results119,go_sem,r0,r1,r2,r3,r4,r5];try rfl) rfl ?_)
           exact⟨⟨8,x.imm%256,false,true,false,n⟩,f4,rfl,by rw[HR.out];cases f4<;>rfl,by (repeat (first|exact xE0 _|assumption|refine xE1 ?_ _|refine xE2 ?_|refine xE3 ?_ _|refine xE4 ?_ (by assumption)))⟩
     | false =>
      have HSF:=η (set6 HO2.out HE.out (Nat.le_succ _) 0 0 false false false n)
      (have o1:=HO1.out;have o2:=HO2.out;have o3:=HO3.out;obtain⟨a0,a1,a2,a3,a4⟩:=κ5 o1;obtain⟨b0,b1,b2,b3,b4,b5⟩:=κ6 o2;have bf:=fun i=>zA (i:=i) o2;obtain⟨q0,q1,q2,q3,q4,q5⟩:=κ6 o3;clear o1 o2 o3)
      go_wp2_with fail
      all_goals
       (have hsf:=HSF.out;generalize hF:(World.setCell (World.setCell (World.setCell (World.setCell (World.setCell (World.setCell wc ⟨w.heap.size+1,0,none⟩ (.int .u8 0)) ⟨w.heap.size+1,1,none⟩ (.int .u8 0)) ⟨w.heap.size+1,2,none⟩ (.bool false)) ⟨w.heap.size+1,3,none⟩ (.bool false)) ⟨w.heap.size+1,4,none⟩ (.bool false)) ⟨w.heap.size+1,5,none⟩ (.int .i64 n))=wF at hsf ⊢;obtain⟨hs,he⟩:=hsf;clear hF;(try simp only[Exit.then]);(repeat (first|go_skip|go_step));obtain⟨r0,r1,r2,r3,r4,r5⟩:=κ6 hs;refine bodyPost_ret (by simp[results,Tryz.results119,go_sem,r0,r1,r2,r3,r4,r5];try rfl) rfl ?_)
       exact⟨⟨0,0,false,false,false,n⟩,false,rfl,HR.out,by (repeat (first|exact xE0 _|assumption|refine xE1 ?_ _|refine xE2 ?_|refine xE3 ?_ _|refine xE4 ?_ (by assumption)))⟩
end Go.Proofs.YtppefchjoodgnaaGreat
