import Derived.Test.YtppefchjoodgnaaGreatPQ14
import Derived.Test.YtppefchjoodgnaaGreatPQ12
set_option linter.unusedSimpArgs false
set_option linter.unusedVariables false
namespace Go.Proofs.YtppefchjoodgnaaGreat
open Go.RowKit
abbrev encU:Int→List Value:=fun x=>[Value.int .u8 x]
theorem rd_u8s (w:World)(xs:List Int)(b n:Nat)(hb:b=w.heap.size)(hn:n=xs.length)(hl:xs.length≤1000):Rd (w.alloc (.cells (xs.flatMap encU).toArray 5)) 1 encU (.slice (some ⟨b,0,none⟩) n n) xs :=
 (Own.lit (zG .u8) (base:=0) (w:=w) xs hb hn (Nat.zero_le _) (by simp[maxLen];omega)).rd (zG _)
theorem r_inL (xs:List Int)(y:Int)(w W:World)(b n:Nat)(hW:W=w.alloc (.cells (xs.flatMap encU).toArray 5))(hb:b=w.heap.size)(hn:n=xs.length)(hl:xs.length≤1000)(z:Bool)(hz:xs.contains y=z):
  Calls Tryz.prog 77 #[.slice (some ⟨b,0,none⟩) n n,.int .u8 y] W fun e w'=>e=.returned (.bool z)∧w'=W:=by
 subst hW;subst hz
 exact r_in _ xs y _ (rd_u8s w xs b n hb hn hl)
def xJ (x:Ins)(s o i:Bool):Bool:=(s || x.src == 0) && ((o || x.off == 0) && (i || x.imm == 0))
theorem only_eq (x:Ins)(s o i:Bool):xJ x s o i=yN x (!s) (!o) (!i):=by
 unfold xJ yN
 cases s<;>cases o<;>cases i<;>simp[bne,Bool.and_assoc]
set_option maxHeartbeats 1000000 in
theorem r_only (x:Ins)(s o i:Bool)(w:World):Calls Tryz.prog 80 #[x.agg,.bool s,.bool o,.bool i] w fun e w'=>e=.returned (.bool (xJ x s o i))∧w'=w.alloc (.cells #[.int .u8 x.op,.int .u8 x.dst,.int .u8 x.src,.int .i16 x.off,.int .i32 x.imm] 58):=by
 obtain⟨a,ha⟩:∃ a,(x.src == 0)=a:=⟨_,rfl⟩
 obtain⟨b,hb⟩:∃ b,(x.off == 0)=b:=⟨_,rfl⟩
 obtain⟨c,hc⟩:∃ c,(x.imm == 0)=c:=⟨_,rfl⟩
 have HS:Hid (xJ x s o i=((s || a) && ((o || b) && (i || c)))):=η (by rw[xJ,ha,hb,hc])
 cases s<;>cases o<;>cases i<;>cases a<;>cases b
 all_goals
  go_enter Tryz.func80,Tryz.ntmps80
  go_wp2_with fail
  go_returns
  exact⟨by rw[HS.out];simp,rfl⟩
theorem uD (x:Ins)(s o i z:Bool)(w:World)(hz:xJ x s o i=z):Calls Tryz.prog 80 #[x.agg,.bool s,.bool o,.bool i] w fun e w'=>e=.returned (.bool z)∧w'=w.alloc (.cells #[.int .u8 x.op,.int .u8 x.dst,.int .u8 x.src,.int .i16 x.off,.int .i32 x.imm] 58):=hz ▸ r_only x s o i w
def knownA (h:Int):Bool:=[(0:Int),16,32,64,80,160,96,112,192,48,144,176].contains h
def offA (x:Ins)(h:Int)(wd rg:Bool):Bool :=
 if (h == 48)=true then (x.off == 0 || x.off == 1) else if (h == 144)=true then (x.off == 0 || x.off == 1)
 else if (h == 176)=true then (x.off == 0 || (rg && (x.off == 8 || (x.off == 16 || (wd && x.off == 32))))) else x.off == 0
theorem arith_ref (x:Ins)(h:Int)(wd rg:Bool):xD x h wd rg=if (x.dst == 10)=true then none else if (h == 128)=true then (if (!rg && xJ x false false false)=true then some ⟨1,h,wd,rg,false,0⟩ else none)
  else if (knownA h && (offA x h wd rg && xJ x rg true (!rg)))=true then some ⟨1,h,wd,rg,false,0⟩ else none:=by
 unfold xD
 rw[only_eq,only_eq]
 by_cases hd:x.dst=10
 ·simp[hd]
 ·simp only[hd,beq_iff_eq,if_false,Bool.not_false,Bool.not_true,Bool.not_not]
  by_cases h1:h=128
  ·subst h1
   simp only[if_true]
   cases rg
   ·cases hz:yN x true true true with
    | true =>
     have:yN x true false false=true:=by unfold yN at *;revert hz;cases (x.src != 0)<;>simp
     simp[this]
    | false=>simp
   ·simp
  ·simp only[h1,if_false]
   cases hz:yN x (!rg) false rg with
   | false=>simp
   | true =>
    simp only[Bool.and_true,Bool.true_eq_false,if_false]
    unfold knownA offA
    by_cases g:h=0∨h=16∨h=32∨h=64∨h=80∨h=160∨h=96∨h=112∨h=192
    ·rw[if_pos g]
     rcases g with rfl|rfl|rfl|rfl|rfl|rfl|rfl|rfl|rfl<;>simp
    ·rw[if_neg g]
     by_cases g2:h=48∨h=144
     ·rw[if_pos g2]
      rcases g2 with rfl|rfl<;>simp
     ·rw[if_neg g2]
      by_cases g3:h=176
      ·subst g3
       simp only[if_true]
       cases rg<;>cases wd<;>simp
      ·rw[if_neg g3]
       have:([(0:Int),16,32,64,80,160,96,112,192,48,144,176].contains h)=false:=by simp;omega
       rw[this]
       simp
set_option maxRecDepth 20000 in
set_option maxHeartbeats 4000000 in
theorem r_arith (x:Ins)(w:World)(hx:x.Ok):Calls Tryz.prog 79 #[x.agg] w (WhA (xD x (x.op / 16 * 16) (x.op%8 == 7) (x.op / 8%2 == 1)) w):=by
 have b0:=hx.op.1
 have b1:=hx.op.2
 rw[arith_ref]
 obtain⟨h,hh⟩:∃ h,x.op / 16 * 16=h:=⟨_,rfl⟩
 obtain⟨rg,hrg⟩:∃ rg,(x.op / 8%2 == 1)=rg:=⟨_,rfl⟩
 obtain⟨wd,hwd⟩:∃ wd,(x.op%8 == 7)=wd:=⟨_,rfl⟩
 obtain⟨zd,hzd⟩:∃ z,(x.dst == 10)=z:=⟨_,rfl⟩
 obtain⟨k128,hk128⟩:∃ z,(h == 128)=z:=⟨_,rfl⟩
 obtain⟨on3,hon3⟩:∃ z,xJ x false false false=z:=⟨_,rfl⟩
 obtain⟨on1,hon1⟩:∃ z,xJ x rg true (!rg)=z:=⟨_,rfl⟩
 obtain⟨kn,hkn⟩:∃ z,knownA h=z:=⟨_,rfl⟩
 obtain⟨of,hof⟩:∃ z,offA x h wd rg=z:=⟨_,rfl⟩
 rw[hh,hrg,hwd,hzd,hk128,hon3,hon1,hkn,hof]
 obtain⟨R,hR⟩:∃ R,R=(if zd=true then none else if k128=true then (if (!rg && on3)=true then some (⟨1,h,wd,rg,false,0⟩:Wh) else none) else if (kn && (of && on1))=true then some ⟨1,h,wd,rg,false,0⟩ else none):=⟨_,rfl⟩
 rw[← hR]
 have HR:=η hR
 have HOF:=η hof
 have HKN:=η hkn
 clear hR hof hkn
 go_enter Tryz.func79,Tryz.ntmps79
 go_upto_region 1 with fail
 go_cut [4] (fun v wx=>∃ q,v=.pointer (some ⟨q,0,none⟩)∧Hid (Ext w wx∧wx.heap[w.heap.size]?=some (zQ x)∧wx.heap[w.heap.size+1]?=some (zF Wh.zero)∧wx.heap[q]?=some (zF ⟨1,h,wd,rg,false,0⟩)∧w.heap.size+1 < q))
 case first =>
  go_wp2_with fail
  go_meet
  refine⟨_,rfl,η ⟨by (repeat (first|exact xE0 _|assumption|refine xE1 ?_ _|refine xE2 ?_|refine xE3 ?_ _|refine xE4 ?_ (by assumption))),?_,?_,?_,?_⟩⟩
  ·(repeat (first|(refine zD _ _ ?_;simp;done)|refine zB _ ?_))
  ·(repeat (first|(refine zD _ _ ?_;simp;done)|refine zB _ ?_))
  ·(repeat (first|(refine zD _ _ ?_;simp;done)|refine zB _ ?_))
  ·omega
 case rest =>
  obtain⟨q,rfl,HW⟩:=hcut
  have HO1:=η HW.out.2.1
  have HO2:=η HW.out.2.2.1
  have HO3:=η HW.out.2.2.2.1
  have HE:=η HW.out.1
  have HQ:=HW.out.2.2.2.2
  clear hh hrg hwd
  cases zd with
  | true =>
   have HSF:=η (set6 HO2.out HE.out (Nat.le_succ _) 0 0 false false false 0)
   (have o1:=HO1.out;have o2:=HO2.out;have o3:=HO3.out;obtain⟨a0,a1,a2,a3,a4⟩:=κ5 o1;obtain⟨b0,b1,b2,b3,b4,b5⟩:=κ6 o2;have bf:=fun i=>zA (i:=i) o2;obtain⟨q0,q1,q2,q3,q4,q5⟩:=κ6 o3;clear o1 o2 o3)
   go_wp2_with fail
   all_goals
    (have hsf:=HSF.out;generalize hF:(World.setCell (World.setCell (World.setCell (World.setCell (World.setCell (World.setCell wc ⟨w.heap.size+1,0,none⟩ (.int .u8 0)) ⟨w.heap.size+1,1,none⟩ (.int .u8 0)) ⟨w.heap.size+1,2,none⟩ (.bool false)) ⟨w.heap.size+1,3,none⟩ (.bool false)) ⟨w.heap.size+1,4,none⟩ (.bool false)) ⟨w.heap.size+1,5,none⟩ (.int .i64 0))=wF at hsf ⊢;obtain⟨hs,he⟩:=hsf;clear hF;(try simp only[Exit.then]);(repeat (first|go_skip|go_step));obtain⟨r0,r1,r2,r3,r4,r5⟩:=κ6 hs;refine bodyPost_ret (by simp[results,Tryz.results79,go_sem,r0,r1,r2,r3,r4,r5];try rfl) rfl ?_)
    exact⟨Wh.zero,false,rfl,by rw[HR.out];rfl,by (repeat (first|exact xE0 _|assumption|refine xE1 ?_ _|refine xE2 ?_|refine xE3 ?_ _|refine xE4 ?_ (by assumption)))⟩
  | false =>
   have q1:=cO (i:=1) HO3.out
   simp only[gA,gB,gC]at q1
   cases k128 with
   | true =>
    (have o1:=HO1.out;obtain⟨a0,a1,a2,a3,a4⟩:=κ5 o1;clear o1)
    go_upto_region 4 with fail
    go_cut [27] (fun v wx=>v=.bool true∧wx=wc)
    case first =>
     go_wp2_with fail
     go_meet
     exact⟨rfl,rfl⟩
    case rest =>
     obtain⟨rfl,rfl⟩:=hcut
     clear q1 a0 a1 a2 a3 a4
     go_upto_region 5 with fail
     cases rg with
     | true =>
      (obtain⟨W1,hE1,hB1,hO1,hS1⟩:=zP HO2.out HE.out (Nat.le_succ _) (1) (h) (wd) (true) (false) (0);have X1:=η (zJ hO1 HO1.out (by omega));have X3:=η (zJ hO1 HO3.out (by omega));clear hO1;have HS1:=η hS1;clear hS1;have HB1:=η hB1;clear hB1;refine zC 8 W1 (by kernel_rfl) (by kernel_rfl) rfl rfl rfl (by kernel_rfl) ?_;apply Exists.intro;apply Exists.intro;refine⟨fun W hW=>?_,rfl,fun nn=>?_,fun W hW=>?_,fun nn=>?_⟩;{have aZ:=fun n:Grow W=>n.ext.obj (X1.out W hW);obtain⟨a0,a1,a2,a3,a4⟩:=χ5 aZ;clear aZ;have qZ:=fun n:Grow W=>n.ext.obj (X3.out W hW);obtain⟨q0,q1,q2,q3,q4,q5⟩:=χ6 qZ;clear qZ;simp only[List.take_succ_cons,List.take_zero];(repeat (go_big_quiet_step (fail)));exact wpQuiet_nil rfl};{have O2:=nn.ext.obj HO2.out;obtain⟨b0,b1,b2,b3,b4,b5⟩:=κ6 O2;have bf:=fun i=>zA (i:=i) O2;clear O2;go_simp;exact HS1.out nn};{simp only[List.drop_succ_cons,List.drop_zero];(repeat (go_big_quiet_step (fail)));exact wpQuiet_nil rfl};have hs:=nn.ext.obj HB1.out;obtain⟨r0,r1,r2,r3,r4,r5⟩:=κ6 hs;(try simp only[Exit.then]);(repeat (first|go_skip|go_step));refine bodyPost_ret (by simp[results,Tryz.results79,go_sem,r0,r1,r2,r3,r4,r5];try rfl) rfl ?_)
      exact⟨⟨1,h,wd,true,false,0⟩,_,rfl,by rw[HR.out];rfl,hE1.trans' nn.ext⟩
     | false =>
      (obtain⟨W1,hE1,hB1,hO1,hS1⟩:=zP HO2.out HE.out (Nat.le_succ _) (1) (h) (wd) (false) (false) (0);have X1:=η (zJ hO1 HO1.out (by omega));have X3:=η (zJ hO1 HO3.out (by omega));clear hO1;have HS1:=η hS1;clear hS1;have HB1:=η hB1;clear hB1;refine zC 8 W1 (by kernel_rfl) (by kernel_rfl) rfl rfl rfl (by kernel_rfl) ?_;apply Exists.intro;apply Exists.intro;refine⟨fun W hW=>?_,rfl,fun nn=>?_,fun W hW=>?_,fun nn=>?_⟩;{have aZ:=fun n:Grow W=>n.ext.obj (X1.out W hW);obtain⟨a0,a1,a2,a3,a4⟩:=χ5 aZ;clear aZ;have qZ:=fun n:Grow W=>n.ext.obj (X3.out W hW);obtain⟨q0,q1,q2,q3,q4,q5⟩:=χ6 qZ;clear qZ;simp only[List.take_succ_cons,List.take_zero];(repeat (go_big_quiet_step (exact Calls.grow1 (uD x false false false _ _ hon3))));exact wpQuiet_nil rfl};{have O2:=nn.ext.obj HO2.out;obtain⟨b0,b1,b2,b3,b4,b5⟩:=κ6 O2;have bf:=fun i=>zA (i:=i) O2;clear O2;go_simp;exact HS1.out nn};{simp only[List.drop_succ_cons,List.drop_zero];(repeat (go_big_quiet_step (fail)));exact wpQuiet_nil rfl};have hs:=nn.ext.obj HB1.out;obtain⟨r0,r1,r2,r3,r4,r5⟩:=κ6 hs;(try simp only[Exit.then]);(repeat (first|go_skip|go_step));refine bodyPost_ret (by simp[results,Tryz.results79,go_sem,r0,r1,r2,r3,r4,r5];try rfl) rfl ?_)
      exact⟨⟨1,h,wd,false,false,0⟩,on3,rfl,by rw[HR.out];rfl,hE1.trans' nn.ext⟩
   | false =>
    (have o1:=HO1.out;obtain⟨a0,a1,a2,a3,a4⟩:=κ5 o1;clear o1)
    have HOF2:=η HOF.out
    unfold offA at HOF2
    obtain⟨z0,hz0⟩:∃ z,(x.off == 0)=z:=⟨_,rfl⟩
    obtain⟨z1,hz1⟩:∃ z,(x.off == 1)=z:=⟨_,rfl⟩
    obtain⟨z8,hz8⟩:∃ z,(x.off == 8)=z:=⟨_,rfl⟩
    obtain⟨z16,hz16⟩:∃ z,(x.off == 16)=z:=⟨_,rfl⟩
    obtain⟨z32,hz32⟩:∃ z,(x.off == 32)=z:=⟨_,rfl⟩
    obtain⟨k48,hk48⟩:∃ z,(h == 48)=z:=⟨_,rfl⟩
    obtain⟨k144,hk144⟩:∃ z,(h == 144)=z:=⟨_,rfl⟩
    obtain⟨k176,hk176⟩:∃ z,(h == 176)=z:=⟨_,rfl⟩
    rw[hz0,hz1,hz8,hz16,hz32,hk48,hk144,hk176]at HOF2
    go_upto_block 0 with fail
    go_cut [5] (fun v wx=>v=.bool of∧wx=wc)
    case first =>
     (have o1:=HO1.out;have o3:=HO3.out;obtain⟨a0,a1,a2,a3,a4⟩:=κ5 o1;obtain⟨q0,q1,q2,q3,q4,q5⟩:=κ6 o3;clear o1 o3)
     cases k48
     ·cases k144
      ·cases k176
       ·go_wp2_with fail
        go_meet
        exact⟨by rw[← HOF2.out];rfl,rfl⟩
       ·cases z0
        ·cases rg
         ·go_wp2_with fail
          go_meet
          exact⟨by rw[← HOF2.out];rfl,rfl⟩
         ·cases z8
          ·cases z16
           ·cases wd
            all_goals
             go_wp2_with fail
             go_meet
             exact⟨by rw[← HOF2.out];rfl,rfl⟩
           ·go_wp2_with fail
            go_meet
            exact⟨by rw[← HOF2.out];rfl,rfl⟩
          ·go_wp2_with fail
           go_meet
           exact⟨by rw[← HOF2.out];rfl,rfl⟩
        ·go_wp2_with fail
         go_meet
         exact⟨by rw[← HOF2.out];rfl,rfl⟩
      ·cases z0
       all_goals
        go_wp2_with fail
        go_meet
        exact⟨by rw[← HOF2.out];rfl,rfl⟩
     ·cases z0
      all_goals
       go_wp2_with fail
       go_meet
       exact⟨by rw[← HOF2.out];rfl,rfl⟩
    case rest =>
     obtain⟨rfl,rfl⟩:=hcut
     clear hz0 hz1 hz8 hz16 hz32 hk48 hk144 hk176 HOF2
     have hql:=zE HO3.out
     go_wp2_with fail
     refine(r_inL [0,16,32,64,80,160,96,112,192,48,144,176] h wc _ _ _ rfl rfl rfl (by decide) kn HKN.out).mono ?_
     rintro e w5 ⟨rfl,rfl⟩
     clear q1 a0 a1 a2 a3 a4
     have HEE:Hid (Ext wc (wc.alloc (.cells #[.int .u8 0,.int .u8 16,.int .u8 32,.int .u8 64,.int .u8 80,.int .u8 160,.int .u8 96,.int .u8 112,.int .u8 192,.int .u8 48,.int .u8 144,.int .u8 176] 5))):=η (by (repeat (first|exact xE0 _|assumption|refine xE1 ?_ _|refine xE2 ?_|refine xE3 ?_ _|refine xE4 ?_ (by assumption))))
     go_upto_region 14 with fail
     generalize hF:wc.alloc (.cells #[.int .u8 0,.int .u8 16,.int .u8 32,.int .u8 64,.int .u8 80,.int .u8 160,.int .u8 96,.int .u8 112,.int .u8 192,.int .u8 48,.int .u8 144,.int .u8 176] 5)=wd1 at HEE ⊢
     clear hF
     replace HO1:=η (HEE.out.obj HO1.out)
     replace HO2:=η (HEE.out.obj HO2.out)
     replace HO3:=η (HEE.out.obj HO3.out)
     replace HE:=η (HE.out.trans' HEE.out)
     cases kn with
     | false =>
      (obtain⟨W1,hE1,hB1,hO1,hS1⟩:=zP HO2.out HE.out (Nat.le_succ _) (1) (h) (wd) (rg) (false) (0);have X1:=η (zJ hO1 HO1.out (by omega));have X3:=η (zJ hO1 HO3.out (by omega));clear hO1;have HS1:=η hS1;clear hS1;have HB1:=η hB1;clear hB1;refine zC 14 W1 (by kernel_rfl) (by kernel_rfl) rfl rfl rfl (by kernel_rfl) ?_;apply Exists.intro;apply Exists.intro;refine⟨fun W hW=>?_,rfl,fun nn=>?_,fun W hW=>?_,fun nn=>?_⟩;{have aZ:=fun n:Grow W=>n.ext.obj (X1.out W hW);obtain⟨a0,a1,a2,a3,a4⟩:=χ5 aZ;clear aZ;have qZ:=fun n:Grow W=>n.ext.obj (X3.out W hW);obtain⟨q0,q1,q2,q3,q4,q5⟩:=χ6 qZ;clear qZ;simp only[List.take_succ_cons,List.take_zero];(repeat (go_big_quiet_step (fail)));exact wpQuiet_nil rfl};{have O2:=nn.ext.obj HO2.out;obtain⟨b0,b1,b2,b3,b4,b5⟩:=κ6 O2;have bf:=fun i=>zA (i:=i) O2;clear O2;go_simp;exact HS1.out nn};{simp only[List.drop_succ_cons,List.drop_zero];(repeat (go_big_quiet_step (fail)));exact wpQuiet_nil rfl};have hs:=nn.ext.obj HB1.out;obtain⟨r0,r1,r2,r3,r4,r5⟩:=κ6 hs;(try simp only[Exit.then]);(repeat (first|go_skip|go_step));refine bodyPost_ret (by simp[results,Tryz.results79,go_sem,r0,r1,r2,r3,r4,r5];try rfl) rfl ?_)
      exact⟨⟨1,h,wd,rg,false,0⟩,_,rfl,by rw[HR.out];rfl,hE1.trans' nn.ext⟩
     | true =>
      cases of with
      | false =>
       (obtain⟨W1,hE1,hB1,hO1,hS1⟩:=zP HO2.out HE.out (Nat.le_succ _) (1) (h) (wd) (rg) (false) (0);have X1:=η (zJ hO1 HO1.out (by omega));have X3:=η (zJ hO1 HO3.out (by omega));clear hO1;have HS1:=η hS1;clear hS1;have HB1:=η hB1;clear hB1;refine zC 14 W1 (by kernel_rfl) (by kernel_rfl) rfl rfl rfl (by kernel_rfl) ?_;apply Exists.intro;apply Exists.intro;refine⟨fun W hW=>?_,rfl,fun nn=>?_,fun W hW=>?_,fun nn=>?_⟩;{have aZ:=fun n:Grow W=>n.ext.obj (X1.out W hW);obtain⟨a0,a1,a2,a3,a4⟩:=χ5 aZ;clear aZ;have qZ:=fun n:Grow W=>n.ext.obj (X3.out W hW);obtain⟨q0,q1,q2,q3,q4,q5⟩:=χ6 qZ;clear qZ;simp only[List.take_succ_cons,List.take_zero];(repeat (go_big_quiet_step (fail)));exact wpQuiet_nil rfl};{have O2:=nn.ext.obj HO2.out;obtain⟨b0,b1,b2,b3,b4,b5⟩:=κ6 O2;have bf:=fun i=>zA (i:=i) O2;clear O2;go_simp;exact HS1.out nn};{simp only[List.drop_succ_cons,List.drop_zero];(repeat (go_big_quiet_step (fail)));exact wpQuiet_nil rfl};have hs:=nn.ext.obj HB1.out;obtain⟨r0,r1,r2,r3,r4,r5⟩:=κ6 hs;(try simp only[Exit.then]);(repeat (first|go_skip|go_step));refine bodyPost_ret (by simp[results,Tryz.results79,go_sem,r0,r1,r2,r3,r4,r5];try rfl) rfl ?_)
       exact⟨⟨1,h,wd,rg,false,0⟩,_,rfl,by rw[HR.out];rfl,hE1.trans' nn.ext⟩
      | true =>
       (obtain⟨W1,hE1,hB1,hO1,hS1⟩:=zP HO2.out HE.out (Nat.le_succ _) (1) (h) (wd) (rg) (false) (0);have X1:=η (zJ hO1 HO1.out (by omega));have X3:=η (zJ hO1 HO3.out (by omega));clear hO1;have HS1:=η hS1;clear hS1;have HB1:=η hB1;clear hB1;refine zC 14 W1 (by kernel_rfl) (by kernel_rfl) rfl rfl rfl (by kernel_rfl) ?_;apply Exists.intro;apply Exists.intro;refine⟨fun W hW=>?_,rfl,fun nn=>?_,fun W hW=>?_,fun nn=>?_⟩;{have aZ:=fun n:Grow W=>n.ext.obj (X1.out W hW);obtain⟨a0,a1,a2,a3,a4⟩:=χ5 aZ;clear aZ;have qZ:=fun n:Grow W=>n.ext.obj (X3.out W hW);obtain⟨q0,q1,q2,q3,q4,q5⟩:=χ6 qZ;clear qZ;simp only[List.take_succ_cons,List.take_zero];(repeat (go_big_quiet_step (exact Calls.grow1 (uD x rg true (!rg) _ _ hon1))));exact wpQuiet_nil rfl};{have O2:=nn.ext.obj HO2.out;obtain⟨b0,b1,b2,b3,b4,b5⟩:=κ6 O2;have bf:=fun i=>zA (i:=i) O2;clear O2;go_simp;exact HS1.out nn};{simp only[List.drop_succ_cons,List.drop_zero];(repeat (go_big_quiet_step (fail)));exact wpQuiet_nil rfl};have hs:=nn.ext.obj HB1.out;obtain⟨r0,r1,r2,r3,r4,r5⟩:=κ6 hs;(try simp only[Exit.then]);(repeat (first|go_skip|go_step));refine bodyPost_ret (by simp[results,Tryz.results79,go_sem,r0,r1,r2,r3,r4,r5];try rfl) rfl ?_)
       exact⟨⟨1,h,wd,rg,false,0⟩,on1,rfl,by rw[HR.out];rfl,hE1.trans' nn.ext⟩
def jE:List Int→List Int→Int→Int
 | n :: ns,x :: xs,y=>if x=y then n else jE ns xs y
 | _,_,_=>0
theorem rd_is (w:World)(xs:List Int)(b n:Nat)(hb:b=w.heap.size)(hn:n=xs.length)(hl:xs.length≤1000):Rd (w.alloc (.cells (xs.flatMap fun x=>[Value.int .i64 x]).toArray 3)) 1 (fun x=>[Value.int .i64 x]) (.slice (some ⟨b,0,none⟩) n n) xs :=
 (Own.lit (zG .i64) (base:=0) (w:=w) xs hb hn (Nat.zero_le _) (by simp[maxLen];omega)).rd (zG _)
theorem sizesF_step {ns xs:List Int}{y n x:Int}{k:Nat}(hn:ns[k]?=some n)(hx:xs[k]?=some x):jE (ns.drop k) (xs.drop k) y=if x=y then n else jE (ns.drop (k+1)) (xs.drop (k+1)) y:=by
 obtain⟨h1,rfl⟩:=List.getElem?_eq_some_iff.1 hn
 obtain⟨h2,rfl⟩:=List.getElem?_eq_some_iff.1 hx
 rw[List.drop_eq_getElem_cons h1,List.drop_eq_getElem_cons h2,jE]
theorem sizesF_nil (ns:List Int)(y:Int):jE ns [] y=0:=by cases ns<;>rfl
set_option maxHeartbeats 1000000 in
theorem r_sizes (v:Value)(xs:List Int)(y:Int)(w:World)(h:Rd w 1 encU v xs)(hl:xs.length≤4):
  Calls Tryz.prog 120 #[v,.int .u8 y] w fun e w'=>e=.returned (.int .i64 (jE [4,2,1,8] xs y))∧Ext w w':=by
 obtain⟨a,n,c,rfl,hn,hN⟩:=h.val
 have hn4:n≤4:=by rw[hN.out];exact hl
 have HV:=η h
 clear h hl
 go_enter Tryz.func120,Tryz.ntmps120
 go_upto_region 1 with fail
 go_cut [5] (fun v5 wx=>v5=.slice (some ⟨w.heap.size,0,none⟩) 4 4∧Hid (Ext w wx∧Rd wx 1 (fun x=>[Value.int .i64 x]) v5 [4,2,1,8]))
 case first =>
  go_wp2_with fail
  go_meet
  exact⟨rfl,η ⟨by (repeat (first|exact xE0 _|assumption|refine xE1 ?_ _|refine xE2 ?_|refine xE3 ?_ _|refine xE4 ?_ (by assumption))),rd_is w [4,2,1,8] _ _ rfl rfl (by decide)⟩⟩
 case rest =>
  obtain⟨rfl,HR⟩:=hcut
  have HV2:=η (HV.out.ext HR.out.1)
  have HE:=η HR.out.1
  have HM:=η HR.out.2
  obtain⟨am,cm,hvm⟩:∃ am cm,am=some (⟨w.heap.size,0,none⟩:Addr)∧cm=4:=⟨_,_,rfl,rfl⟩
  clear HR
  go_wp2
  go_loop [6] (fun i=>∃ k:Nat,k≤n∧i=.int .i64 k∧Hid (jE [4,2,1,8] xs y=jE ([4,2,1,8].drop k) (xs.drop k) y)) (fun i=>n - (intOf i).toNat)
  case atStart=>exact⟨0,Nat.zero_le _,rfl,η rfl⟩
  case round =>
   obtain⟨k,hk,rfl,HK⟩:=hrel
   by_cases hlt:k < n
   ·obtain⟨x,hx⟩:=zK (xs:=xs) (k:=k) (by have:=hN.out;omega)
    obtain⟨m,hm⟩:=zK (xs:=[(4:Int),2,1,8]) (k:=k) (by simp;omega)
    have ia:=fun W=>HV2.out.run_at (P:=Tryz.prog) el_u8.under el_u8.size .i64 (k:Int) (by omega) (by omega) W
    have ca:=HV2.out.cell hx (j:=0) rfl
    have ib:=fun W=>HM.out.run_at (P:=Tryz.prog) el_int.under el_int.size .i64 (k:Int) (by omega) (by omega) W
    have cb:=HM.out.cell hm (j:=0) rfl
    simp only[Nat.mul_one,Nat.add_zero,Int.toNat_natCast]at ia ca ib cb
    have HST:=η (HK.out.trans (sizesF_step hm hx))
    clear hx hm
    by_cases hy:x=y
    ·have hb:(x == y)=true:=by simpa using hy
     have HR2:Hid (jE [4,2,1,8] xs y=m):=η (by rw[HST.out,if_pos hy])
     clear hy
     go_wp2
     go_returns
     exact⟨by rw[HR2.out];rfl,HE.out⟩
    ·have hb:(x == y)=false:=by simpa using hy
     have HR2:=HST.out
     rw[if_neg hy]at HR2
     have HR3:=η HR2
     clear hy HR2
     go_wp2
     go_round
     case rel=>exact⟨k+1,by omega,by go_num,η HR3.out⟩
     case measure=>simp[intOf];omega
   ·have HR2:Hid (jE [4,2,1,8] xs y=0):=η (by rw[HK.out,List.drop_eq_nil_of_le (show xs.length≤k by have:=hN.out;omega),sizesF_nil])
    go_wp2
    go_returns
    exact⟨by rw[HR2.out];rfl,HE.out⟩
theorem r_sizesL (xs:List Int)(y:Int)(w W:World)(b n:Nat)(hW:W=w.alloc (.cells (xs.flatMap encU).toArray 5))(hb:b=w.heap.size)(hn:n=xs.length)(hl:xs.length≤4)(z:Int)(hz:jE [4,2,1,8] xs y=z):
  Calls Tryz.prog 120 #[.slice (some ⟨b,0,none⟩) n n,.int .u8 y] W fun e w'=>e=.returned (.int .i64 z)∧Ext W w':=by
 subst hW;subst hz
 exact r_sizes _ xs y _ (rd_u8s w xs b n hb hn (by omega)) hl
theorem qK (x:Ins)(s o i z:Bool)(w:World)(hz:xJ x s o i=z):Calls Tryz.prog 80 #[x.agg,.bool s,.bool o,.bool i] w fun e w'=>e=.returned (.bool z)∧Ext w w' :=
 (uD x s o i z w hz).mono fun e w' ⟨he,hw⟩=>⟨he,by subst hw;exact Ext.alloc' (Ext.rfl' _) _⟩
def szL (op:Int):Int:=jE [4,2,1,8] [97,105,113,121] op
def szS (op:Int):Int:=jE [4,2,1,8] [129,137,145] op
def szT (op:Int):Int:=jE [4,2,1,8] [98,106,114,122] op
def szU (op:Int):Int:=jE [4,2,1,8] [99,107,115,123] op
def memR (x:Ins):Option Wh :=
 if 0 < szL x.op+szS x.op then (if ((x.dst != 10) && xJ x true true false)=true then some ⟨5,0,false,false,decide (szS x.op > 0),szL x.op+szS x.op⟩ else none)
 else if 0 < szT x.op then (if xJ x false true true=true then some ⟨6,0,false,false,false,szT x.op⟩ else none)
 else if 0 < szU x.op then (if xJ x true true false=true then some ⟨7,0,false,true,false,szU x.op⟩ else none)
 else if (x.op == 195 || x.op == 219)=true then (if (x.imm == 0 || (x.imm == 64 || (x.imm == 80 || x.imm == 160)))=true then some ⟨8,x.imm%256,false,true,false,if (x.op == 219)=true then 8 else 4⟩ else none)
 else none
theorem sz_bound (op:Int)(h:0≤op∧op≤255):(0≤szL op∧szL op≤8)∧(0≤szS op∧szS op≤8)∧(0≤szT op∧szT op≤8)∧(0≤szU op∧szU op≤8) :=
 xL (fun op=>(0≤szL op∧szL op≤8)∧(0≤szS op∧szS op≤8)∧(0≤szT op∧szT op≤8)∧(0≤szU op∧szU op≤8)) (by decide +kernel) op h
theorem mem_moves (x:Ins)(h:x.Ok)(hc:x.op%8=0∨x.op%8=1∨x.op%8=2∨x.op%8=3):memR x=if x.op%8=0 then none else uM x:=by
 have e0:=xL (fun op=>op%8=0→szL op+szS op=0∧szT op=0∧szU op=0∧(op == 195 || op == 219)=false) (by decide +kernel) x.op h.op
 have e1:=xL (fun op=>op%8=1→((0 < szL op+szS op) ↔ (op / 32 * 32=96∨(op / 32 * 32=128∧kR op < 8)))∧(0 < szL op+szS op→szL op+szS op=kR op)∧decide (szS op > 0)=((op / 32 * 32 == 128) && decide (kR op < 8))∧szT op=0∧szU op=0∧(op == 195 || op == 219)=false) (by decide +kernel) x.op h.op
 have e2:=xL (fun op=>op%8=2→szL op+szS op=0∧((0 < szT op) ↔ op / 32 * 32=96)∧(0 < szT op→szT op=kR op)∧szU op=0∧(op == 195 || op == 219)=false) (by decide +kernel) x.op h.op
 have e3:=xL (fun op=>op%8=3→szL op+szS op=0∧szT op=0∧((0 < szU op) ↔ op / 32 * 32=96)∧(0 < szU op→szU op=kR op)∧((op == 195 || op == 219)=true ↔ (op / 32 * 32=192∧4≤kR op))∧((op == 195 || op == 219)=true→(if (op == 219)=true then (8:Int) else 4)=kR op)) (by decide +kernel) x.op h.op
 unfold memR uM
 rcases hc with hc|hc|hc|hc
 ·obtain⟨a1,a2,a3,a4⟩:=e0 hc
  rw[a1,a2,a3,a4,hc]
  rfl
 ·obtain⟨a1,a2,a3,a4,a5,a6⟩:=e1 hc
  rw[hc,a4,a5,a6]
  simp only[if_true,show ¬ (1:Int)=0 by decide,if_false]
  by_cases hg:0 < szL x.op+szS x.op
  ·rw[if_pos hg,a2 hg,a3]
   have g:=a1.1 hg
   have gs:((x.op / 32 * 32 == 128) && decide (kR x.op < 8))=(x.op / 32 * 32 == 128):=by
    rcases g with g|g
    ·rw[g];rfl
    ·rw[decide_eq_true g.2,Bool.and_true]
   rw[gs]
   have:((x.dst != 10) && xJ x true true false)=true ↔ (x.dst≠10∧x.imm=0∧(x.op / 32 * 32=96∨(x.op / 32 * 32=128∧kR x.op < 8))):=by
    unfold xJ
    simp[g]
   by_cases hq:((x.dst != 10) && xJ x true true false)=true
   ·rw[if_pos hq,if_pos (this.1 hq)]
   ·rw[if_neg hq,if_neg (fun h=>hq (this.2 h))]
  ·rw[if_neg hg,if_neg (by decide),if_neg (by decide),if_neg (by decide),if_neg (fun h=>hg (a1.2 h.2.2))]
 ·obtain⟨a1,a2,a3,a4,a5⟩:=e2 hc
  rw[hc,a1,a4,a5]
  simp only[if_true,show ¬ (2:Int)=0 by decide,show ¬ (2:Int)=1 by decide,show ¬ (0:Int) < 0 by decide,if_false]
  by_cases hg:0 < szT x.op
  ·rw[if_pos hg,a3 hg]
   have g:=a2.1 hg
   unfold xJ
   simp[g]
  ·rw[if_neg hg,if_neg (by decide),if_neg (fun h=>hg (a2.2 h.1))]
 ·obtain⟨a1,a2,a3,a4,a5,a6⟩:=e3 hc
  rw[hc,a1,a2]
  simp only[if_true,show ¬ (3:Int)=0 by decide,show ¬ (3:Int)=1 by decide,show ¬ (3:Int)=2 by decide,show ¬ (0:Int) < 0 by decide,if_false]
  by_cases hg:0 < szU x.op
  ·rw[if_pos hg,a4 hg,if_pos (a3.1 hg)]
   unfold xJ
   simp
  ·rw[if_neg hg,if_neg (fun h=>hg (a3.2 h))]
   by_cases hk:(x.op == 195 || x.op == 219)=true
   ·rw[if_pos hk,a6 hk]
    have g:=a5.1 hk
    simp[g.1,g.2]
   ·rw[if_neg hk,if_neg (fun h=>hk (a5.2 ⟨h.1,h.2.1⟩))]
end Go.Proofs.YtppefchjoodgnaaGreat
