import Derived.Test.YtppefchjoodgnaaGreatPQ15
import Derived.Test.YtppefchjoodgnaaGreatProg
import Derived.Test.YtppefchjoodgnaaGreatPQ01
import Derived.Test.YtppefchjoodgnaaGreatRows
import Derived.Test.YtppefchjoodgnaaGreatPQ02
import Derived.Deep.QuietTactic
import Derived.BigQuiet
import Derived.Deep.RegionHeld3
import Derived.Handy
import Derived.Test.YtppefchjoodgnaaGreatPQ10
set_option linter.unusedSimpArgs false
set_option linter.unusedVariables false
namespace Go.Proofs.YtppefchjoodgnaaGreat
open Go.RowKit
def zL (x:Ins):Wh:=(xH x).getD Wh.zero
def toS (x:Ins)(k:Nat):Option Int:=if (zL x).kind=9∨(zL x).kind=10 then some (k+1+if x.op=6 then x.imm else x.off) else none
def InsOk (L:List Ins):Prop:=∀ x∈L,x.Ok
theorem InsOk.at {L:List Ins}(h:InsOk L){k:Nat}{x:Ins}(hx:L[k]?=some x):x.Ok:=h x (List.mem_of_getElem? hx)
def OptA (o:Option Int)(w:World)(e:Ending)(w':World):Prop:=e=.returned (.tuple #[.int .i64 (o.getD 0),.bool o.isSome])∧Ext w w'
set_option maxHeartbeats 2000000 in
theorem p_to (v:Value)(L:List Ins)(k:Nat)(x:Ins)(w:World)(h:Rd w 5 Ins.enc v L)(hl:L.length≤1000000)(hx:L[k]?=some x)(hok:x.Ok):Calls Tryz.prog 83 #[v,.int .i64 k] w (OptA (toS x k) w):=by
 obtain⟨a,n,c,rfl,hn,hN⟩:=h.val
 have hk:k < n:=by rw[hN.out];exact(List.getElem?_eq_some_iff.1 hx).1
 have hk2:n≤1000000:=by rw[hN.out];exact hl
 have ix:=fun W=>h.run_at (P:=Tryz.prog) el_ins.under el_ins.size .i64 (k:Int) (by omega) (by omega) W
 simp only[Int.toNat_natCast]at ix
 have HD:=η h
 have HX:=η hx
 have HOK:=η hok
 have w0:wrap64 ((k:Int)+1)=k+1:=by unfold wrap64;omega
 have w1:wrap64 ((k:Int)+1+x.off)=k+1+x.off:=by have:=hok.off;unfold wrap64;omega
 have w2:wrap64 ((k:Int)+1+x.imm)=k+1+x.imm:=by have:=hok.imm;unfold wrap64;omega
 unfold toS zL
 obtain⟨y,hy⟩:∃ y,(xH x).getD Wh.zero=y:=⟨_,rfl⟩
 obtain⟨bb,hbb⟩:∃ y,(xH x).isSome=y:=⟨_,rfl⟩
 obtain⟨k9,hk9⟩:∃ z,(y.kind != 9)=z:=⟨_,rfl⟩
 obtain⟨k10,hk10⟩:∃ z,(y.kind != 10)=z:=⟨_,rfl⟩
 obtain⟨k6,hk6⟩:∃ z,(x.op == 6)=z:=⟨_,rfl⟩
 have b1:(y.kind=9)=(k9=false):=by rw[← hk9];simp
 have b2:(y.kind=10)=(k10=false):=by rw[← hk10];simp
 have b3:(x.op=6)=(k6=true):=by rw[← hk6];simp
 simp only[hy,b1,b2,b3]
 obtain⟨R,hR⟩:∃ R:Option Int,R=if k9=false∨k10=false then some (k+1+if k6=true then x.imm else x.off) else none:=⟨_,rfl⟩
 rw[← hR]
 have HR:=η hR
 have w3:wrap64 x.off=x.off:=by have:=hok.off;unfold wrap64;omega
 have w4:wrap64 x.imm=x.imm:=by have:=hok.imm;unfold wrap64;omega
 clear hR
 have HY:=η hy
 have HB:=η hbb
 clear h hx hok hy hbb b1 b2 b3
 obtain⟨c0,c1,c2,c3,c4⟩:=yQ HD.out HX.out
 go_enter Tryz.func83,Tryz.ntmps83
 go_upto_region 1 with fail
 go_cut [6] (fun v6 wx=>∃ q,v6=.pointer (some ⟨q,0,none⟩)∧Hid (Ext w wx∧wx.heap[q]?=some (zF y)∧w.heap.size≤q))
 case first =>
  go_wp2_with fail
  refine(p_What x _ HOK.out).mono ?_
  unfold WhatA
  rw[HY.out,HB.out]
  rintro e w5 ⟨rfl,hE⟩
  have HE5:=η hE
  clear hE
  go_wp2_with fail
  go_meet
  refine⟨_,rfl,η ⟨?_,?_,HE5.out.size⟩⟩
  ·have:=HE5.out
   (repeat (first|exact xE0 _|assumption|refine xE1 ?_ _|refine xE2 ?_|refine xE3 ?_ _|refine xE4 ?_ (by assumption)))
  ·(repeat (first|(refine zD _ _ ?_;simp;done)|refine zB _ ?_))
 case rest =>
  obtain⟨q,rfl,HW⟩:=hcut
  have q0:=cO (i:=0) HW.out.2.1
  simp only[gA,gB,gC]at q0
  clear c0 c1 c2 c3 c4
  obtain⟨c0,c1,c2,c3,c4⟩:=yQ (HD.out.ext HW.out.1) HX.out
  cases k9
  ·cases k6
   all_goals
    go_wp2_with fail
    go_returns
    exact⟨by rw[HR.out];simp,HW.out.1⟩
  ·cases k10
   ·cases k6
    all_goals
     go_wp2_with fail
     go_returns
     exact⟨by rw[HR.out];simp,HW.out.1⟩
   ·go_wp2_with fail
    go_returns
    exact⟨by rw[HR.out];simp,HW.out.1⟩
def yT (L:List Ins)(x:Ins)(k:Nat):Option Int:=match toS x k with|none=>none|some t=>if 0≤t∧t < L.length then some t else none
set_option maxHeartbeats 2000000 in
theorem p_Target (v:Value)(L:List Ins)(k:Nat)(x:Ins)(w:World)(h:Rd w 5 Ins.enc v L)(hl:L.length≤1000000)(hx:L[k]?=some x)(hok:x.Ok):Calls Tryz.prog 58 #[v,.int .i64 k] w (OptA (yT L x k) w):=by
 obtain⟨a,n,c,rfl,hn,hN⟩:=h.val
 have hk:k < n:=by rw[hN.out];exact(List.getElem?_eq_some_iff.1 hx).1
 have hk2:n≤1000000:=by rw[hN.out];exact hl
 have HD:=η h
 have HX:=η hx
 have HOK:=η hok
 have HL:=η hl
 obtain⟨R,hR⟩:∃ R,R=yT L x k:=⟨_,rfl⟩
 rw[← hR]
 unfold yT at hR
 rw[← hN.out]at hR
 have HR:=η hR
 clear h hx hok hl hR
 go_enter Tryz.func58,Tryz.ntmps58
 go_wp2_with fail
 refine(p_to _ L k x _ HD.out HL.out HX.out HOK.out).mono ?_
 unfold OptA
 cases ht:toS x k with
 | none =>
  have HT:=η ht
  clear ht
  rintro e w5 ⟨rfl,hE⟩
  have HE5:=η hE
  clear hE
  simp only[Option.getD_none,Option.isSome_none]
  go_wp2_with fail
  go_returns
  exact⟨by rw[HR.out,HT.out];rfl,HE5.out⟩
 | some t =>
  have HT:=η ht
  clear ht
  rintro e w5 ⟨rfl,hE⟩
  have HE5:=η hE
  clear hE
  simp only[Option.getD_some,Option.isSome_some]
  by_cases h1:0≤t
  ·by_cases h2:t < n
   ·go_wp2_with fail
    go_returns
    exact⟨by rw[HR.out,HT.out];simp[h1,h2],HE5.out⟩
   ·go_wp2_with fail
    go_returns
    have h3:¬ (0≤t∧t < (n:Int)):=by omega
    exact⟨by rw[HR.out,HT.out];simp only[];rw[if_neg h3];rfl,HE5.out⟩
  ·go_wp2_with fail
   go_returns
   have h3:¬ (0≤t∧t < (n:Int)):=by omega
   exact⟨by rw[HR.out,HT.out];simp only[];rw[if_neg h3];rfl,HE5.out⟩
def kU (L:List Ins)(x:Ins)(k:Nat):Bool :=
 (xH x).isSome && (!(x.op == 24) || match L[k+1]? with|none=>false|some y=>y.op == 0 && y.dst == 0 && y.src == 0 && y.off == 0 && ((zL x).kind == 3 || y.imm == 0))
set_option maxHeartbeats 2000000 in
theorem p_whole (v:Value)(L:List Ins)(k:Nat)(x:Ins)(w:World)(h:Rd w 5 Ins.enc v L)(hl:L.length≤1000000)(hx:L[k]?=some x)(hok:x.Ok):Calls Tryz.prog 82 #[v,.int .i64 k] w fun e w'=>e=.returned (.bool (kU L x k))∧Ext w w':=by
 obtain⟨a,n,c,rfl,hn,hN⟩:=h.val
 have hk:k < n:=by rw[hN.out];exact(List.getElem?_eq_some_iff.1 hx).1
 have hk2:n≤1000000:=by rw[hN.out];exact hl
 have ix:=fun W=>h.run_at (P:=Tryz.prog) el_ins.under el_ins.size .i64 (k:Int) (by omega) (by omega) W
 simp only[Int.toNat_natCast]at ix
 have HD:=η h
 have HX:=η hx
 have HOK:=η hok
 have w0:wrap64 ((k:Int)+1)=k+1:=by unfold wrap64;omega
 obtain⟨R,hR⟩:∃ R,R=kU L x k:=⟨_,rfl⟩
 rw[← hR]
 unfold kU zL at hR
 obtain⟨y,hy⟩:∃ y,(xH x).getD Wh.zero=y:=⟨_,rfl⟩
 obtain⟨bb,hbb⟩:∃ y,(xH x).isSome=y:=⟨_,rfl⟩
 obtain⟨k3,hk3⟩:∃ z,(y.kind == 3)=z:=⟨_,rfl⟩
 obtain⟨k24,hk24⟩:∃ z,(x.op == 24)=z:=⟨_,rfl⟩
 rw[hy,hbb,hk3,hk24]at hR
 have HR:=η hR
 have HY:=η hy
 have HB:=η hbb
 have HK:=η hk24
 clear h hx hok hy hbb hR hk24
 obtain⟨c0,c1,c2,c3,c4⟩:=yQ HD.out HX.out
 go_enter Tryz.func82,Tryz.ntmps82
 go_upto_region 1 with fail
 go_cut [5,6] (fun v5 v6 wx=>∃ q,v5=.pointer (some ⟨q,0,none⟩)∧v6=.bool bb∧Hid (Ext w wx∧wx.heap[q]?=some (zF y)∧w.heap.size≤q))
 case first =>
  go_wp2_with fail
  refine(p_What x _ HOK.out).mono ?_
  unfold WhatA
  rw[HY.out,HB.out]
  rintro e w5 ⟨rfl,hE⟩
  have HE5:=η hE
  clear hE
  go_wp2_with fail
  go_meet
  refine⟨_,rfl,rfl,η ⟨?_,?_,HE5.out.size⟩⟩
  ·have:=HE5.out
   (repeat (first|exact xE0 _|assumption|refine xE1 ?_ _|refine xE2 ?_|refine xE3 ?_ _|refine xE4 ?_ (by assumption)))
  ·(repeat (first|(refine zD _ _ ?_;simp;done)|refine zB _ ?_))
 case rest =>
  obtain⟨q,rfl,rfl,HW⟩:=hcut
  clear c0 c1 c2 c3 c4
  obtain⟨c0,c1,c2,c3,c4⟩:=yQ (HD.out.ext HW.out.1) HX.out
  cases bb with
  | false =>
   go_wp2_with fail
   go_returns
   exact⟨by rw[HR.out];rfl,HW.out.1⟩
  | true =>
   go_wp2_with fail
   refine(p_wideI x _).mono ?_
   rw[HK.out]
   rintro e w5 ⟨rfl,rfl⟩
   have HE2:=η (HW.out.1.alloc' (.cells #[.int .u8 x.op,.int .u8 x.dst,.int .u8 x.src,.int .i16 x.off,.int .i32 x.imm] 58))
   cases k24 with
   | false =>
    go_wp2_with fail
    go_returns
    exact⟨by rw[HR.out];rfl,HE2.out⟩
   | true =>
    by_cases hk1:k+1 < n
    ·obtain⟨z,hz⟩:=zK (xs:=L) (k:=k+1) (by rw[← hN.out];exact hk1)
     have iy:=fun W=>HD.out.run_at (P:=Tryz.prog) el_ins.under el_ins.size .i64 ((k:Int)+1) (by omega) (by omega) W
     rw[show ((k:Int)+1).toNat=k+1 by omega]at iy
     clear c0 c1 c2 c3 c4
     obtain⟨d0,d1,d2,d3,d4⟩:=yQ (HD.out.ext HE2.out) hz
     have HZ:=η hz
     clear hz
     go_upto_region 8 with fail
     go_cut [7] (fun v7 wx=>∃ p,v7=.pointer (some ⟨p,0,none⟩)∧Hid (Ext w wx∧wx.heap[p]?=some (zQ z)∧wx.heap[q]?=some (zF y)∧w.heap.size≤p))
     case first =>
      go_wp2_with fail
      go_meet
      refine⟨_,rfl,η ⟨?_,?_,?_,?_⟩⟩
      ·have:=HE2.out
       (repeat (first|exact xE0 _|assumption|refine xE1 ?_ _|refine xE2 ?_|refine xE3 ?_ _|refine xE4 ?_ (by assumption)))
      ·(repeat (first|(refine zD _ _ ?_;simp;done)|refine zB _ ?_))
      ·exact zB _ (zB _ HW.out.2.1)
      ·have:=HE2.out.size
       simp at this ⊢
       omega
     case rest =>
      obtain⟨p,rfl,HP⟩:=hcut
      have q0:=cO (i:=0) HP.out.2.2.1
      have z0:=cO (i:=0) HP.out.2.1
      have z1:=cO (i:=1) HP.out.2.1
      have z2:=cO (i:=2) HP.out.2.1
      have z3:=cO (i:=3) HP.out.2.1
      have z4:=cO (i:=4) HP.out.2.1
      have zf:=fun i=>zA (i:=i) HP.out.2.1
      simp only[gA,gB,gC]at q0 z0 z1 z2 z3 z4
      clear d0 d1 d2 d3 d4
      cases k3
      all_goals
       go_wp2_with fail
      all_goals
       go_returns
       exact⟨by rw[HR.out,HZ.out];simp_all,by first|exact HP.out.1|exact HP.out.1.setCell HP.out.2.2.2 _⟩
    ·go_wp2_with fail
     go_returns
     exact⟨by rw[HR.out,List.getElem?_eq_none (by rw[← hN.out];omega)];rfl,HE2.out⟩
def jN (L:List Ins):Nat→Nat
 | 0=>0
 | k+1=>if (stF false L)[k]?=some true then k else jN L k
def ok1 (L:List Ins)(k:Nat):Bool:=match (stF false L)[k]?,L[k]? with|some true,some x=>kU L x k|_,_=>true
def kK (L:List Ins)(t:Int):Bool:=decide (0≤t) && (decide (t < L.length) && ((stF false L)[t.toNat]? == some true))
def ok2 (L:List Ins)(k:Nat):Bool:=match (stF false L)[k]?,L[k]? with|some true,some x=>(match toS x k with|none=>true|some t=>kK L t)|_,_=>true
def endS (L:List Ins):Bool:=match L[jN L L.length]? with|some x=>(zL x).kind == 12 || (zL x).kind == 9|none=>false
def yX (L:List Ins):Bool:=decide (1≤L.length) && (decide (L.length≤512) && ((List.range L.length).all (ok1 L) && ((List.range L.length).all (ok2 L) && endS L)))
theorem lastS_lt (L:List Ins)(n:Nat)(hn:1≤n):∀ k,k≤n→jN L k < n
 | 0,_=>hn
 | k+1,h=>by
  unfold jN
  split
  ·omega
  ·exact lastS_lt L n hn k (by omega)
def CheckA (L:List Ins)(w:World)(e:Ending)(w':World):Prop:=∃ i er:Int,e=.returned (.tuple #[.int .i64 i,.int .i64 er])∧decide (er=0)=yX L∧Ext w w'
theorem prog_not1 {L:List Ins}{k:Nat}(hk:k < L.length)(h:ok1 L k=false):yX L=false:=by
 have:(List.range L.length).all (ok1 L)=false:=by
  rw[Bool.eq_false_iff]
  intro h1
  rw[List.all_eq_true]at h1
  have:=h1 k (by simpa using hk)
  rw[h]at this;cases this
 simp[yX,this]
theorem qS {L:List Ins}{k:Nat}(hk:k < L.length)(h:ok2 L k=false):yX L=false:=by
 have:(List.range L.length).all (ok2 L)=false:=by
  rw[Bool.eq_false_iff]
  intro h1
  rw[List.all_eq_true]at h1
  have:=h1 k (by simpa using hk)
  rw[h]at this;cases this
 simp[yX,this]
theorem prog_end {L:List Ins}(h0:1≤L.length)(h5:L.length≤512)(h1:∀ j,j < L.length→ok1 L j=true)(h2:∀ j,j < L.length→ok2 L j=true):yX L=endS L:=by
 have a1:(List.range L.length).all (ok1 L)=true:=by rw[List.all_eq_true];intro j hj;exact h1 j (by simpa using hj)
 have a2:(List.range L.length).all (ok2 L)=true:=by rw[List.all_eq_true];intro j hj;exact h2 j (by simpa using hj)
 simp[yX,a1,a2,h0,h5]
theorem vT {L:List Ins}{k:Nat}(h:(stF false L)[k]?=some false):ok1 L k=true∧ok2 L k=true∧jN L (k+1)=jN L k:=by
 simp[ok1,ok2,jN,h]
theorem jP {L:List Ins}{k:Nat}{x:Ins}(h:(stF false L)[k]?=some true)(hx:L[k]?=some x):ok1 L k=kU L x k∧ok2 L k=(match toS x k with|none=>true|some t=>kK L t)∧jN L (k+1)=k:=by
 simp[ok1,ok2,jN,h,hx]
theorem gT {P:Nat→Prop}{k:Nat}(h:∀ j,j < k→P j)(hk:P k):∀ j,j < k+1→P j:=fun j hj=>by
 rcases Nat.lt_succ_iff_lt_or_eq.1 hj with h1|rfl
 ·exact h j h1
 ·exact hk
set_option maxHeartbeats 4000000 in
set_option maxRecDepth 20000 in
theorem p_Check (v:Value)(L:List Ins)(w:World)(h:Rd w 5 Ins.enc v L)(hl:L.length≤1000000)(hok:InsOk L):Calls Tryz.prog 47 #[v] w (CheckA L w):=by
 obtain⟨a,n,c,rfl,hn,hN⟩:=h.val
 have hk2:n≤1000000:=by rw[hN.out];exact hl
 have HD:=η h
 have HOK:=η hok
 have HL:=η hl
 clear h hok hl
 go_enter Tryz.func47,Tryz.ntmps47
 by_cases h1:1≤n
 ·by_cases h5:n≤512
  ·go_wp2_with fail
   refine(p_Starts _ L _ HD.out HL.out).mono ?_
   rintro e w5 ⟨s,rfl,hO,hE⟩
   have hR:=hO.rd xU
   obtain⟨sa,sn,sc,rfl,hsn,hSN⟩:=hR.val
   obtain rfl:sn=n:=by rw[hSN.out,xP,hN.out]
   have HR:=η hR
   have HE5:=η hE
   clear hO hR hE
   go_wp2_with fail
   go_loopw [26,5] (fun i e wr=>∃ k:Nat,k≤sn∧i=.int .i64 k∧e=.int .i64 (jN L k:Nat)∧Hid (Ext w wr∧Ext w5 wr∧∀ j,j < k→ok1 L j=true)) (fun i _ _=>sn - (intOf i).toNat)
   case atStart=>exact⟨0,Nat.zero_le _,rfl,rfl,η ⟨HE5.out,Ext.rfl' _,fun j hj=>absurd hj (Nat.not_lt_zero _)⟩⟩
   case round =>
    obtain⟨k,hk,rfl,rfl,HI⟩:=hrel
    by_cases hlt:(k:Int) < sn
    ·obtain⟨b,hb⟩:=zK (xs:=stF false L) (k:=k) (by have:=hSN.out;omega)
     obtain⟨x,hx⟩:=zK (xs:=L) (k:=k) (by have:=hN.out;omega)
     have ix:=fun W=>(HR.out.ext HI.out.2.1).run_at (P:=Tryz.prog) el_bool.under el_bool.size .i64 (k:Int) (by omega) (by omega) W
     have cb:=(HR.out.ext HI.out.2.1).cell hb (j:=0) rfl
     simp only[Nat.mul_one,Nat.add_zero,Int.toNat_natCast]at ix cb
     have HB:=η hb
     have HX:=η hx
     clear hb hx
     cases b with
     | false =>
      go_wp2_with fail
      go_roundw
      case rel=>exact⟨k+1,by omega,by go_num,by rw[(vT HB.out).2.2],η ⟨HI.out.1,HI.out.2.1,gT HI.out.2.2 (vT HB.out).1⟩⟩
      case measure=>simp[intOf];omega
     | true =>
      go_wp2_with fail
      refine(p_whole _ L k x _ (HD.out.ext HI.out.1) HL.out HX.out (HOK.out.at HX.out)).mono ?_
      cases hw:kU L x k with
      | false =>
       have HW:=η hw
       clear hw
       rintro e w6 ⟨rfl,hE6⟩
       have HE6:=η hE6
       clear hE6
       go_wp2_with fail
       go_returns
       exact⟨_,_,rfl,by rw[prog_not1 (k:=k) (by have:=hN.out;omega) ((jP HB.out HX.out).1.trans HW.out)];rfl,HI.out.1.trans' HE6.out⟩
      | true =>
       have HW:=η hw
       clear hw
       rintro e w6 ⟨rfl,hE6⟩
       have HE6:=η hE6
       clear hE6
       go_wp2_with fail
       go_roundw
       case rel=>exact⟨k+1,by omega,by go_num,by rw[(jP HB.out HX.out).2.2],η ⟨HI.out.1.trans' HE6.out,HI.out.2.1.trans' HE6.out,gT HI.out.2.2 ((jP HB.out HX.out).1.trans HW.out)⟩⟩
       case measure=>simp[intOf];omega
    ·obtain rfl:k=sn:=by omega
     have HK1:=η HI.out.2.2
     have hle:=lastS_lt L k h1 k (Nat.le_refl _)
     have HLE:=η hle
     clear hle
     go_wp2_with fail
     go_loopw [44] (fun i w2=>∃ m:Nat,m≤k∧i=.int .i64 m∧Hid (Ext w w2∧Ext w5 w2∧∀ j,j < m→ok2 L j=true)) (fun i _=>k - (intOf i).toNat)
     case atStart=>exact⟨0,Nat.zero_le _,rfl,η ⟨HI.out.1,HI.out.2.1,fun j hj=>absurd hj (Nat.not_lt_zero _)⟩⟩
     case round =>
      obtain⟨m,hm,rfl,HJ⟩:=hrel
      by_cases hlt2:(m:Int) < k
      ·obtain⟨b,hb⟩:=zK (xs:=stF false L) (k:=m) (by have:=hSN.out;omega)
       obtain⟨x,hx⟩:=zK (xs:=L) (k:=m) (by have:=hN.out;omega)
       have ix:=fun W=>(HR.out.ext HJ.out.2.1).run_at (P:=Tryz.prog) el_bool.under el_bool.size .i64 (m:Int) (by omega) (by omega) W
       have cb:=(HR.out.ext HJ.out.2.1).cell hb (j:=0) rfl
       simp only[Nat.mul_one,Nat.add_zero,Int.toNat_natCast]at ix cb
       have HB:=η hb
       have HX:=η hx
       clear hb hx
       cases b with
       | false =>
        go_wp2_with fail
        go_roundw
        case rel=>exact⟨m+1,by omega,by go_num,η ⟨HJ.out.1,HJ.out.2.1,gT HJ.out.2.2 (vT HB.out).2.1⟩⟩
        case measure=>simp[intOf];omega
       | true =>
        go_wp2_with fail
        refine(p_to _ L m x _ (HD.out.ext HJ.out.1) HL.out HX.out (HOK.out.at HX.out)).mono ?_
        unfold OptA
        cases ht:toS x m with
        | none =>
         have HT:=η ht
         clear ht
         simp only[Option.getD_none,Option.isSome_none]
         rintro e w6 ⟨rfl,hE6⟩
         have HE6:=η hE6
         clear hE6
         go_wp2_with fail
         go_roundw
         case rel=>exact⟨m+1,by omega,by go_num,η ⟨HJ.out.1.trans' HE6.out,HJ.out.2.1.trans' HE6.out,gT HJ.out.2.2 (by rw[(jP HB.out HX.out).2.1,HT.out])⟩⟩
         case measure=>simp[intOf];omega
        | some t =>
         have HT:=η ht
         clear ht
         simp only[Option.getD_some,Option.isSome_some]
         rintro e w6 ⟨rfl,hE6⟩
         have HE6:=η hE6
         clear hE6
         have hj:ok2 L m=kK L t:=by rw[(jP HB.out HX.out).2.1,HT.out]
         have HJO:=η hj
         clear hj
         by_cases t1:0≤t
         ·by_cases t2:t < k
          ·obtain⟨b2,hb2⟩:=zK (xs:=stF false L) (k:=t.toNat) (by have:=hSN.out;omega)
           have iy:=fun W=>(HR.out.ext HJ.out.2.1).run_at (P:=Tryz.prog) el_bool.under el_bool.size .i64 t (by omega) (by omega) W
           have cy:=((HR.out.ext HJ.out.2.1).ext HE6.out).cell hb2 (j:=0) rfl
           simp only[Nat.mul_one,Nat.add_zero]at iy cy
           have hj2:kK L t=b2:=by
            unfold kK
            rw[hb2,decide_eq_true t1,decide_eq_true (by have:=hN.out;omega)]
            cases b2<;>rfl
           have HJ2:=η hj2
           clear hj2 hb2
           cases b2 with
           | true =>
            go_wp2_with fail
            go_roundw
            case rel=>exact⟨m+1,by omega,by go_num,η ⟨HJ.out.1.trans' HE6.out,HJ.out.2.1.trans' HE6.out,gT HJ.out.2.2 (HJO.out.trans HJ2.out)⟩⟩
            case measure=>simp[intOf];omega
           | false =>
            go_wp2_with fail
            go_returns
            exact⟨_,_,rfl,by rw[qS (k:=m) (by have:=hN.out;omega) (HJO.out.trans HJ2.out)];rfl,HJ.out.1.trans' HE6.out⟩
          ·have hj2:kK L t=false:=by
            unfold kK
            rw[decide_eq_false (by have:=hN.out;omega:¬ t < (L.length:Int))]
            simp
           have HJ2:=η hj2
           clear hj2
           go_wp2_with fail
           go_returns
           exact⟨_,_,rfl,by rw[qS (k:=m) (by have:=hN.out;omega) (HJO.out.trans HJ2.out)];rfl,HJ.out.1.trans' HE6.out⟩
         ·have hj2:kK L t=false:=by
           unfold kK
           rw[decide_eq_false t1]
           simp
          have HJ2:=η hj2
          clear hj2
          go_wp2_with fail
          go_returns
          exact⟨_,_,rfl,by rw[qS (k:=m) (by have:=hN.out;omega) (HJO.out.trans HJ2.out)];rfl,HJ.out.1.trans' HE6.out⟩
      ·obtain rfl:m=k:=by omega
       have HP:Hid (yX L=endS L):=η (prog_end (by rw[← hN.out];exact h1) (by rw[← hN.out];exact h5) (by rw[← hN.out];exact HK1.out) (by rw[← hN.out];exact HJ.out.2.2))
       obtain⟨x,hx⟩:=zK (xs:=L) (k:=jN L m) (by have:=hN.out;have:=HLE.out;omega)
       have hes:endS L=((zL x).kind == 12 || (zL x).kind == 9):=by unfold endS;rw[← hN.out,hx]
       have ix:=fun W=>(HD.out.ext HJ.out.1).run_at (P:=Tryz.prog) el_ins.under el_ins.size .i64 (jN L m:Nat) (by omega) (by have:=HLE.out;omega) W
       simp only[Int.toNat_natCast]at ix
       obtain⟨c0,c1,c2,c3,c4⟩:=yQ (HD.out.ext HJ.out.1) hx
       have HX:=η hx
       unfold zL at hes
       obtain⟨y,hy⟩:∃ y,(xH x).getD Wh.zero=y:=⟨_,rfl⟩
       rw[hy]at hes
       have HES:=η hes
       have HY:=η hy
       clear hx hes hy
       go_upto_region 20 with fail
       go_cut [12] (fun v6 wx=>∃ q,v6=.pointer (some ⟨q,0,none⟩)∧Hid (Ext w wx∧wx.heap[q]?=some (zF y)))
       case first =>
        go_wp2_with fail
        refine(p_What x _ (HOK.out.at HX.out)).mono ?_
        unfold WhatA
        rw[HY.out]
        rintro e w7 ⟨rfl,hE7⟩
        have HE7:=η hE7
        clear hE7
        go_wp2_with fail
        go_meet
        refine⟨_,rfl,η ⟨(HJ.out.1.trans' HE7.out).alloc' _,?_⟩⟩
        (repeat (first|(refine zD _ _ ?_;simp;done)|refine zB _ ?_))
       case rest =>
        obtain⟨q,rfl,HW⟩:=hcut
        have q0:=cO (i:=0) HW.out.2
        simp only[gA,gB,gC]at q0
        clear c0 c1 c2 c3 c4
        obtain⟨k12,hk12⟩:∃ z,(y.kind != 12)=z:=⟨_,rfl⟩
        obtain⟨k9,hk9⟩:∃ z,(y.kind != 9)=z:=⟨_,rfl⟩
        have b1:(y.kind == 12)=!k12:=by rw[← hk12];simp[bne]
        have b2:(y.kind == 9)=!k9:=by rw[← hk9];simp[bne]
        have HB1:=η b1
        have HB2:=η b2
        clear b1 b2
        cases k12
        ·go_wp2_with fail
         go_returns
         exact⟨_,_,rfl,by rw[HP.out,HES.out,HB1.out];rfl,HW.out.1⟩
        ·cases k9
         all_goals
          go_wp2_with fail
          go_returns
          exact⟨_,_,rfl,by rw[HP.out,HES.out,HB1.out,HB2.out];rfl,HW.out.1⟩
  ·go_wp2_with fail
   go_returns
   exact⟨_,_,rfl,by rw[yX,decide_eq_false (by rw[← hN.out];omega:¬ L.length≤512)];simp,Ext.rfl' _⟩
 ·go_wp2_with fail
  go_returns
  exact⟨_,_,rfl,by rw[yX,decide_eq_false (by rw[← hN.out];omega:¬ 1≤L.length)];simp,Ext.rfl' _⟩
def zU (id:Int):List Int:=if id=1∨id=3 then [1,2] else if id=2 then [1,2,3,4] else if id=6 then [4,4] else []
def tells (id:Int):Int:=if id=1 then 2 else if id=2∨id=3∨id=5∨id=6∨id=7∨id=8 then 1 else 0
def draws (id:Int):Bool:=id == 5 || id == 7 || id == 8
def most (id:Int):Int:=if id=2∨id=3∨id=5 then 18446744073709551615 else if id=7 then 4294967295 else if id=8 then 63 else 0
def xF (id:Int):Bool:=id == 1 || id == 2 || id == 3 || id == 5 || id == 6 || id == 7 || id == 8
theorem ids (id:Int):id=1∨id=2∨id=3∨id=5∨id=6∨id=7∨id=8∨((id == 1)=false∧(id == 2)=false∧(id == 3)=false∧(id == 5)=false∧(id == 6)=false∧(id == 7)=false∧(id == 8)=false):=by
 simp only[beq_eq_false_iff_ne,ne_eq];omega
def SigAns (id:Int)(w:World)(e:Ending)(w':World):Prop :=
 ∃ v,e=.returned (.tuple #[.agg #[v,.int .u8 (tells id),.bool (draws id),.int .u64 (most id)],.bool (xF id)])∧Sl w' .u8 v (zU id)∧Ext w w'
theorem sl_none (w:World)(k:IntKind):Sl w k (.slice none 0 0) []:=Rd.nil _ _ _
theorem sl_lit {W:World}{k:IntKind}{b o c:Nat}{xs:List Int}(hc:xs.length≤c)(hm:c≤maxLen)(h:∀ i x,xs[i]?=some x→W.cell? ⟨b,o+i,none⟩=some (.int k x)):Sl W k (.slice (some ⟨b,o,none⟩) xs.length c) xs:=by
 refine⟨some ⟨b,o,none⟩,c,rfl,hc,hm,(fun e=>by cases e),?_⟩
 intro i x hx j u hu
 cases j with
 | zero=>simp only[List.getElem?_cons_zero,Option.some.injEq]at hu;subst hu;simpa[elt,Addr.add_lit]using h i x hx
 | succ j=>simp at hu
theorem sl_top {w:World}{k:IntKind}{b:Nat}{t:TypeId}(xs:List Int)(hb:b=w.heap.size)(hm:xs.length≤maxLen:=by decide):
  Sl (w.alloc (.cells (xs.map (Value.int k)).toArray t)) k (.slice (some ⟨b,0,none⟩) xs.length xs.length) xs:=by
 subst hb
 refine sl_lit (Nat.le_refl _) hm fun i x hx=>?_
 rw[World.cell?_alloc_new]
 simp[hx]
set_option maxHeartbeats 1000000 in
theorem rsig (id:Int)(w:World):Calls Tryz.prog 144 #[.int .i64 id] w (SigAns id w):=by
 rcases ids id with h|h|h|h|h|h|h|⟨h1,h2,h3,h5,h6,h7,h8⟩
 all_goals
  try subst h
  go_enter Tryz.func144,Tryz.ntmps144
  go_wp2
  go_returns
 ·exact⟨_,rfl,sl_top [1,2] (by simp),by go_grown⟩
 ·exact⟨_,rfl,sl_top [1,2,3,4] (by simp),by go_grown⟩
 ·exact⟨_,rfl,sl_top [1,2] (by simp),by go_grown⟩
 ·exact⟨_,rfl,sl_none _ _,by go_grown⟩
 ·exact⟨_,rfl,sl_top [4,4] (by simp),by go_grown⟩
 ·exact⟨_,rfl,sl_none _ _,by go_grown⟩
 ·exact⟨_,rfl,sl_none _ _,by go_grown⟩
 ·simp only[beq_eq_false_iff_ne,ne_eq]at h1 h2 h3 h5 h6 h7 h8
  exact⟨.slice none 0 0,by simp[tells,draws,most,xF, *],by simp only[zU];rw[if_neg (by omega),if_neg (by omega),if_neg (by omega)];exact sl_none _ _,by go_grown⟩
theorem World.alloc_top {w:World}(c:Array Value)(t:TypeId)(b:Nat)(hb:b=w.heap.size):(w.alloc (.cells c t)).drew.heap[b]?=some (.cells c t (0,0)):=by
 subst hb;exact heap_alloc_new w _
def SigOwn (id:Int)(w:World)(e:Ending)(w':World):Prop :=
 ∃ v,e=.returned (.tuple #[.agg #[v,.int .u8 (tells id),.bool (draws id),.int .u64 (most id)],.bool (xF id)])∧Own w' w.heap.size 5 1 (fun x=>[Value.int .u8 x]) v (zU id)∧Ext w w'
theorem SigOwn.ans {id:Int}{w w':World}{e:Ending}(h:SigOwn id w e w'):SigAns id w e w':=by
 obtain⟨v,h1,h2,h3⟩:=h
 exact⟨v,h1,h2.rd (zG _),h3⟩
theorem own_top {w:World}{k:IntKind}{base b:Nat}{t:TypeId}(xs:List Int)(hb:b=w.heap.size)(hle:base≤w.heap.size)(hm:xs.length≤maxLen:=by decide):
  Own (w.alloc (.cells (xs.map (Value.int k)).toArray t)) base t 1 (fun x=>[Value.int k x]) (.slice (some ⟨b,0,none⟩) xs.length xs.length) xs:=by
 have h:=Own.lit (zG k) (w:=w) (base:=base) (e:=t) xs hb rfl hle hm
 rwa[qJ]at h
set_option maxHeartbeats 1000000 in
theorem psig_own (id:Int)(w:World):Calls Tryz.prog 113 #[.int .i64 id] w (SigOwn id w):=by
 rcases ids id with h|h|h|h|h|h|h|⟨h1,h2,h3,h5,h6,h7,h8⟩
 all_goals
  try subst h
  go_enter Tryz.func113,Tryz.ntmps113
  go_wp2
  go_returns
 ·exact⟨_,rfl,own_top [1,2] (by simp) (by simp<;>omega),by go_grown⟩
 ·refine⟨_,rfl,?_,by go_grown⟩
  have hge:4≤(Question.appendCap 4 2 5).cut (w.tape w.drawn (Question.appendCap 4 2 5)):=Nat.le_add_right _ _
  have hle:(Question.appendCap 4 2 5).cut (w.tape w.drawn (Question.appendCap 4 2 5))≤maxLen:=cut_le 4 2 _ _ (by decide)
  refine⟨by simp[zU],.inr ⟨_,_,_,rfl,?_,World.alloc_top _ _ _ (by simp),hge,hle,?_,?_⟩⟩
  ·omega
  ·simp[Builtin.zeroCells];omega
  ·simp[zU]
 ·exact⟨_,rfl,own_top [1,2] (by simp) (by simp<;>omega),by go_grown⟩
 ·exact⟨_,rfl,Own.nil _ _ _ _ _,by go_grown⟩
 ·exact⟨_,rfl,own_top [4,4] (by simp) (by simp<;>omega),by go_grown⟩
 ·exact⟨_,rfl,Own.nil _ _ _ _ _,by go_grown⟩
 ·exact⟨_,rfl,Own.nil _ _ _ _ _,by go_grown⟩
 ·simp only[beq_eq_false_iff_ne,ne_eq]at h1 h2 h3 h5 h6 h7 h8
  exact⟨.slice none 0 0,by simp[tells,draws,most,xF, *],by simp only[zU];rw[if_neg (by omega),if_neg (by omega),if_neg (by omega)];exact Own.nil _ _ _ _ _,by go_grown⟩
theorem psig (id:Int)(w:World):Calls Tryz.prog 113 #[.int .i64 id] w (SigAns id w):=(psig_own id w).mono fun _ _ h=>h.ans
theorem el_u64:El Tryz.prog 26 29 1 8 (.int .u64 0):=⟨Tryz.underlying26,by kernel_rfl,rfl,by decide,fun _=>by kernel_rfl⟩
set_option maxHeartbeats 400000 in
theorem clone_u64 (v:Value)(xs:List Int)(w:World)(h:Sl w .u64 v xs)(hb:xs.length * 8≤140737488355328):
  Calls Tryz.prog 51 #[v] w (CloneAns 29 1 (fun x=>[Value.int .u64 x]) xs w):=by
 obtain⟨a,n,c,rfl,hn,hN⟩:=h.val
 have hnil:=fun W=>h.run_nil (P:=Tryz.prog) Tryz.underlying26 W
 have HS:=η h
 cases a with
 | none =>
  obtain⟨rfl,rfl,rfl⟩:=h.of_isNil
  clear h
  go_enter Tryz.func51,Tryz.ntmps51
  go_wp2
  go_ret
  exact⟨_,rfl,Own.nil _ _ _ _ _,Below.refl _ _⟩
 | some a =>
  clear h
  simp only[isNilV]at hnil
  go_enter Tryz.func51,Tryz.ntmps51
  go_wp2_with (at_builtin;refine xM el_u64 (zG .u64) rfl _ _ rfl rfl (Own.made w w.heap.size _ _ _ rfl (Nat.le_refl _)) rfl (ys:=xs) ?q1 ?q2 ?q3 ?q4)
  case q1=>exact HS.out.ext (by go_grown)
  case q2=>exact⟨by simpa using hb,by simp;omega⟩
  case q3=>simp
  intro v' w1 hown hgrow hbel
  go_wp2
  go_ret
  exact⟨v',rfl,hown,hbel _ _ (by go_grown) (Nat.le_refl _)⟩
def U64s (xs:List Int):Prop:=∀ x∈xs,0≤x∧x≤18446744073709551615
def drawn (id:Int)(xs:List Int):Int:=if draws id=true then match xs with|[]=>0|x :: _=>bits .and .u64 x (most id) else 0
def yH (id:Int)(xs:List Int):Int:=if draws id=true then (if xs=[] then 100 else 0) else 1
def yD (id:Int)(xs:List Int):List Int:=if draws id=true then xs.drop 1 else []
def DrawOwn (id:Int)(xs:List Int)(w:World)(e:Ending)(w':World):Prop :=
 ∃ v,e=.returned (.tuple #[.int .u64 (drawn id xs),v,.int .i64 (yH id xs)])∧Own w' w.heap.size 29 1 (fun x=>[Value.int .u64 x]) v (yD id xs)∧Ext w w'
set_option maxHeartbeats 1000000 in
theorem pdraw_own (id:Int)(l:Value)(xs:List Int)(w:World)(h:Sl w .u64 l xs)(hb:xs.length * 8≤140737488355328):
  Calls Tryz.prog 172 #[.int .i64 id,l] w (DrawOwn id xs w):=by
 obtain⟨la,ln,lc,rfl,hln,hN⟩:=h.val
 have HS:=η h
 by_cases hd:draws id=true
 ·cases xs with
  | nil =>
   clear h
   obtain rfl:ln=0:=hN.out
   go_enter Tryz.func172,Tryz.ntmps172
   go_wp2_with (go_at_call 113;refine(psig id _).mono ?_;rintro e w1 ⟨v,rfl,hv,he⟩;obtain⟨sa,sn,sc,rfl,hsn,hSN⟩:=hv.val;have HV:=η hv;clear hv;obtain⟨hc,hf⟩:=bcell he;have hz:=he.size)
   go_returns
   exact⟨.slice none 0 0,by simp[drawn,yH,hd],by simp[yD];exact Own.nil _ _ _ _ _,by go_grown⟩
  | cons x xs =>
   have hl0:(0:Int) < ln:=by have:=hN.out;simp at this;omega
   have hl1:((ln:Int) == 0)=false:=by simp;omega
   have hcut:=fun W=>h.run_cut_l (P:=Tryz.prog) Tryz.underlying26 el_u64.size .i64 1 (by omega) (by omega) W
   have hat:=fun W=>h.run_at (P:=Tryz.prog) Tryz.underlying26 el_u64.size .i64 0 (by omega) (by omega) W
   have hx:=h.cell (i:=0) (x:=x) rfl (j:=0) rfl
   simp only[Nat.zero_mul,Nat.add_zero,Int.toNat_zero,Int.toNat_one]at hx hat hcut
   have hx':=World.block_lt_of_cell? w _ hx
   clear h
   go_enter Tryz.func172,Tryz.ntmps172
   go_wp2_with (go_at_call 113;refine(psig id _).mono ?_;rintro e w1 ⟨v,rfl,hv,he⟩;obtain⟨sa,sn,sc,rfl,hsn,hSN⟩:=hv.val;have HV:=η hv;clear hv;obtain⟨hc,hf⟩:=bcell he;have hz:=he.size)
   have hx1:=he.cellOf hx
   have hx2:=he.cellOf hx
   go_region_held3 (fun w'=>w'.cell? (elt (.slice la ln lc) 0)=some (.int .u64 x)∧w'.cell? ⟨w1.heap.size,3,none⟩=some (.int .u64 (most id)))
    (first|go_keep|(go_split_ands;exact⟨he2.cellOf (by assumption),he2.cellOf (by assumption)⟩))
    (first|(go_at_call 51;refine(clone_u64 _ xs _ ?_ ?_).mono ?_;(have:=(HS.out.cut (l:=1) (m:=ln) (by omega) (Nat.le_of_eq hN.out));simp[hN.out]at this;rw[hN.out];refine Rd.ext this ?_;go_grown);(simp at hb;omega);rintro e w2 ⟨v2,rfl,hv2,he2⟩))
   go_wp2
   go_returns
   exact⟨v2,by simp[drawn,yH,hd],by simp[yD,hd];exact hv2.mono (by simp;omega),(he.trans' (by go_grown)).trans' he2⟩
 ·have hd':draws id=false:=by simpa using hd
  clear h
  go_enter Tryz.func172,Tryz.ntmps172
  go_wp2_with (go_at_call 113;refine(psig id _).mono ?_;rintro e w1 ⟨v,rfl,hv,he⟩;obtain⟨sa,sn,sc,rfl,hsn,hSN⟩:=hv.val;have HV:=η hv;clear hv;obtain⟨hc,hf⟩:=bcell he;have hz:=he.size)
  go_returns
  exact⟨.slice none 0 0,by simp[drawn,yH,hd'],by simp[yD,hd'];exact Own.nil _ _ _ _ _,by go_grown⟩
theorem and_most (id x:Int)(h0:0≤x)(h1:x≤18446744073709551615)(hd:draws id=true):bits .and .u64 x (most id)=x%(most id+1):=by
 obtain⟨n,rfl⟩:=Int.eq_ofNat_of_zero_le h0
 have hn:n < 18446744073709551616:=by omega
 have key:∀ k,k≤64→bits .and .u64 (n:Int) ((2 ^ k - 1:Nat):Int)=(n:Int)%((2 ^ k:Nat):Int):=by
  intro k hk
  have hp:2 ^ k≤18446744073709551616:=by
   calc 2 ^ k≤2 ^ 64:=Nat.pow_le_pow_right (by decide) hk
    _=18446744073709551616:=by decide
  have hpos:0 < 2 ^ k:=Nat.pow_pos (by decide)
  rw[bits_and_u64_nat n (2 ^ k - 1) hn (by omega),Nat.and_two_pow_sub_one_eq_mod]
  rfl
 simp only[draws,Bool.or_eq_true,beq_iff_eq]at hd
 rcases hd with (rfl|rfl)|rfl
 ·exact key 64 (by decide)
 ·exact key 32 (by decide)
 ·exact key 6 (by decide)
theorem ret_drawn {id x n:Int}{xs:List Int}{v:Value}(hd:draws id=true)(hM:bits .and .u64 x (most id)=x%(most id+1))(hn:n=x%(most id+1)):
  Ending.returned (.tuple #[.int .u64 n,v,.int .i64 0])=.returned (.tuple #[.int .u64 (drawn id (x :: xs)),v,.int .i64 (yH id (x :: xs))]):=by
 subst hn
 simp only[drawn,yH,hd,if_true]
 rw[hM]
 simp
theorem most_le (id:Int):0≤most id∧most id≤18446744073709551615:=by
 unfold most;split
 ·omega
 ·split
  ·omega
  ·split<;>omega
set_option maxHeartbeats 1000000 in
theorem rdraw_max (id x:Int)(xs:List Int)(la:Option Addr)(ln lc:Nat)(w:World)(h:Sl w .u64 (.slice la ln lc) (x :: xs))(hb:(xs.length+1) * 8≤140737488355328)
  (hN:Hid (ln=xs.length+1)) (hd:draws id=true) (hx0:0≤x) (HX:Hid (x≤18446744073709551615)) (hmax:(most id != 18446744073709551615)=false) :
  Calls Tryz.prog 148 #[.int .i64 id,.slice la ln lc] w (DrawOwn id (x :: xs) w):=by
 have hh:xF id=true:=by simp[draws,xF]at hd ⊢;omega
 have hl0:(0:Int) < ln:=by have:=hN.out;omega
 have hl1:((ln:Int) == 0)=false:=by simp;omega
 have hcut:=fun W=>h.run_cut_l (P:=Tryz.prog) Tryz.underlying26 el_u64.size .i64 1 (by omega) (by omega) W
 have hat:=fun W=>h.run_at (P:=Tryz.prog) Tryz.underlying26 el_u64.size .i64 0 (by omega) (by omega) W
 have hx:=h.cell (i:=0) (x:=x) rfl (j:=0) rfl
 simp only[Nat.zero_mul,Nat.add_zero,Int.toNat_zero,Int.toNat_one]at hx hat hcut
 have hx':=World.block_lt_of_cell? w _ hx
 have HT:Hid (Sl w .u64 (cutV (.slice la ln lc) 1 ln 1) xs):=by
  have h1:=h.cut (l:=1) (m:=ln) (by omega) (Nat.le_of_eq hN.out)
  simp only[List.drop_succ_cons,List.drop_zero]at h1
  rw[List.take_of_length_le (by have:=hN.out;omega)]at h1
  exact h1
 have HM:=η (and_most id x hx0 HX.out hd)
 have HE:Hid (x=x%(most id+1)):=by
  have h2:=HX.out
  have h3:most id=18446744073709551615:=by simpa using hmax
  show x=_
  rw[h3,Int.emod_eq_of_lt hx0 (by omega)]
 clear h
 go_enter Tryz.func148,Tryz.ntmps148
 go_wp2_with (go_at_call 144;refine(rsig _ _).mono ?_;rintro e w1 ⟨v,rfl,hv,he⟩;obtain⟨sa,sn,sc,rfl,hsn,hSN⟩:=hv.val;have HV:=η hv;clear hv;obtain⟨hc,hf,hz⟩:=he.facts;obtain⟨hx1,hx1'⟩:=he.keep hx)
 refine wp_loop_rounds 1 ?_
 rw[rounds_succ]
 go_wp2_with (at_builtin;refine xM el_u64 (zG .u64) rfl _ _ rfl rfl (Own.made _ w.heap.size _ _ _ ?b0 ?b1) rfl (ys:=xs) ?b2 ?b3 ?b4 ?b5)
 case b0=>simp
 case b1=>simp;omega
 case b2=>exact HT.out.ext (he.trans' (by go_grown))
 case b3=>exact⟨by simp;omega,by simp;omega⟩
 case b4=>simp;omega
 intro v' w2 hown hgrow hbel
 go_wp2
 go_returns
 exact⟨v',ret_drawn hd HM.out HE.out,by simp[yD,hd];exact hown,hbel _ _ (by go_grown) (Nat.le_refl _)⟩
set_option maxHeartbeats 1000000 in
theorem rdraw_small (id x:Int)(xs:List Int)(la:Option Addr)(ln lc:Nat)(w:World)(h:Sl w .u64 (.slice la ln lc) (x :: xs))(hb:(xs.length+1) * 8≤140737488355328)
  (hN:Hid (ln=xs.length+1)) (hd:draws id=true) (hx0:0≤x) (HX:Hid (x≤18446744073709551615)) (hmax:(most id != 18446744073709551615)=true) (hm0:0≤most id) (hle:¬ most id < x) :
  Calls Tryz.prog 148 #[.int .i64 id,.slice la ln lc] w (DrawOwn id (x :: xs) w):=by
 have hh:xF id=true:=by simp[draws,xF]at hd ⊢;omega
 have hl0:(0:Int) < ln:=by have:=hN.out;omega
 have hl1:((ln:Int) == 0)=false:=by simp;omega
 have hcut:=fun W=>h.run_cut_l (P:=Tryz.prog) Tryz.underlying26 el_u64.size .i64 1 (by omega) (by omega) W
 have hat:=fun W=>h.run_at (P:=Tryz.prog) Tryz.underlying26 el_u64.size .i64 0 (by omega) (by omega) W
 have hx:=h.cell (i:=0) (x:=x) rfl (j:=0) rfl
 simp only[Nat.zero_mul,Nat.add_zero,Int.toNat_zero,Int.toNat_one]at hx hat hcut
 have hx':=World.block_lt_of_cell? w _ hx
 have HT:Hid (Sl w .u64 (cutV (.slice la ln lc) 1 ln 1) xs):=by
  have h1:=h.cut (l:=1) (m:=ln) (by omega) (Nat.le_of_eq hN.out)
  simp only[List.drop_succ_cons,List.drop_zero]at h1
  rw[List.take_of_length_le (by have:=hN.out;omega)]at h1
  exact h1
 have HM:=η (and_most id x hx0 HX.out hd)
 have HE:Hid (x=x%(most id+1)):=by
  show x=_
  rw[Int.emod_eq_of_lt hx0 (by omega)]
 clear h
 go_enter Tryz.func148,Tryz.ntmps148
 go_wp2_with (go_at_call 144;refine(rsig _ _).mono ?_;rintro e w1 ⟨v,rfl,hv,he⟩;obtain⟨sa,sn,sc,rfl,hsn,hSN⟩:=hv.val;have HV:=η hv;clear hv;obtain⟨hc,hf,hz⟩:=he.facts;obtain⟨hx1,hx1'⟩:=he.keep hx)
 refine wp_loop_rounds 1 ?_
 rw[rounds_succ]
 go_wp2_with (at_builtin;refine xM el_u64 (zG .u64) rfl _ _ rfl rfl (Own.made _ w.heap.size _ _ _ ?b0 ?b1) rfl (ys:=xs) ?b2 ?b3 ?b4 ?b5)
 case b0=>simp
 case b1=>simp;omega
 case b2=>exact HT.out.ext (he.trans' (by go_grown))
 case b3=>exact⟨by simp;omega,by simp;omega⟩
 case b4=>simp;omega
 intro v' w2 hown hgrow hbel
 go_wp2
 go_returns
 exact⟨v',ret_drawn hd HM.out HE.out,by simp[yD,hd];exact hown,hbel _ _ (by go_grown) (Nat.le_refl _)⟩
set_option maxHeartbeats 1000000 in
theorem rdraw_big (id x:Int)(xs:List Int)(la:Option Addr)(ln lc:Nat)(w:World)(h:Sl w .u64 (.slice la ln lc) (x :: xs))(hb:(xs.length+1) * 8≤140737488355328)
  (hN:Hid (ln=xs.length+1)) (hd:draws id=true) (hx0:0≤x) (HX:Hid (x≤18446744073709551615)) (hmax:(most id != 18446744073709551615)=true) (hm0:0≤most id) (hm1:most id≤4294967295) (hgt:most id < x) (hr:¬ most id < x%(most id+1)) :
  Calls Tryz.prog 148 #[.int .i64 id,.slice la ln lc] w (DrawOwn id (x :: xs) w):=by
 have hh:xF id=true:=by simp[draws,xF]at hd ⊢;omega
 have hl0:(0:Int) < ln:=by have:=hN.out;omega
 have hl1:((ln:Int) == 0)=false:=by simp;omega
 have hcut:=fun W=>h.run_cut_l (P:=Tryz.prog) Tryz.underlying26 el_u64.size .i64 1 (by omega) (by omega) W
 have hat:=fun W=>h.run_at (P:=Tryz.prog) Tryz.underlying26 el_u64.size .i64 0 (by omega) (by omega) W
 have hx:=h.cell (i:=0) (x:=x) rfl (j:=0) rfl
 simp only[Nat.zero_mul,Nat.add_zero,Int.toNat_zero,Int.toNat_one]at hx hat hcut
 have hx':=World.block_lt_of_cell? w _ hx
 have HT:Hid (Sl w .u64 (cutV (.slice la ln lc) 1 ln 1) xs):=by
  have h1:=h.cut (l:=1) (m:=ln) (by omega) (Nat.le_of_eq hN.out)
  simp only[List.drop_succ_cons,List.drop_zero]at h1
  rw[List.take_of_length_le (by have:=hN.out;omega)]at h1
  exact h1
 have HM:=η (and_most id x hx0 HX.out hd)
 clear h
 go_enter Tryz.func148,Tryz.ntmps148
 go_wp2_with (go_at_call 144;refine(rsig _ _).mono ?_;rintro e w1 ⟨v,rfl,hv,he⟩;obtain⟨sa,sn,sc,rfl,hsn,hSN⟩:=hv.val;have HV:=η hv;clear hv;obtain⟨hc,hf,hz⟩:=he.facts;obtain⟨hx1,hx1'⟩:=he.keep hx)
 refine wp_loop_rounds 2 ?_
 rw[rounds_succ]
 go_wp2_with fail
 rw[rounds_succ]
 go_wp2_with (at_builtin;refine xM el_u64 (zG .u64) rfl _ _ rfl rfl (Own.made _ w.heap.size _ _ _ ?b0 ?b1) rfl (ys:=xs) ?b2 ?b3 ?b4 ?b5)
 case b0=>simp
 case b1=>simp;omega
 case b2=>exact HT.out.ext (he.trans' (by go_grown))
 case b3=>exact⟨by simp;omega,by simp;omega⟩
 case b4=>simp;omega
 intro v' w2 hown hgrow hbel
 go_wp2
 go_returns
 exact⟨v',ret_drawn hd HM.out rfl,by simp[yD,hd];exact hown,hbel _ _ (by go_grown) (Nat.le_refl _)⟩
set_option maxHeartbeats 1000000 in
theorem rdraw (id:Int)(l:Value)(xs:List Int)(w:World)(h:Sl w .u64 l xs)(hb:xs.length * 8≤140737488355328)(hu:U64s xs):
  Calls Tryz.prog 148 #[.int .i64 id,l] w (DrawOwn id xs w):=by
 obtain⟨la,ln,lc,rfl,hln,hN⟩:=h.val
 have HU:=η hu
 clear hu
 by_cases hd:draws id=true
 ·have hh:xF id=true:=by simp[draws,xF]at hd ⊢;omega
  cases xs with
  | nil =>
   clear h
   obtain rfl:ln=0:=hN.out
   go_enter Tryz.func148,Tryz.ntmps148
   go_wp2_with (go_at_call 144;refine(rsig id _).mono ?_;rintro e w1 ⟨v,rfl,hv,he⟩;obtain⟨sa,sn,sc,rfl,hsn,hSN⟩:=hv.val;have HV:=η hv;clear hv;obtain⟨hc,hf,hz⟩:=he.facts)
   go_returns
   exact⟨.slice none 0 0,by simp[drawn,yH,hd],by simp[yD];exact Own.nil _ _ _ _ _,by go_grown⟩
  | cons x xs =>
   have h1:=HU.out x List.mem_cons_self
   have hids:id=5∨id=7∨id=8:=by simp[draws]at hd;omega
   have hm:=most_le id
   by_cases hmax:(most id != 18446744073709551615)=true
   ·have hm1:most id≤4294967295:=by rcases hids with rfl|rfl|rfl<;>first|(exact absurd hmax (by decide))|decide
    by_cases hgt:most id < x
    ·exact rdraw_big id x xs la ln lc w h (by simpa using hb) hN hd h1.1 h1.2 hmax hm.1 hm1 hgt (by have:=Int.emod_lt_of_pos x (show 0 < most id+1 by omega);omega)
    ·exact rdraw_small id x xs la ln lc w h (by simpa using hb) hN hd h1.1 h1.2 hmax hm.1 hgt
   ·exact rdraw_max id x xs la ln lc w h (by simpa using hb) hN hd h1.1 h1.2 (by simpa using hmax)
 ·have hd':draws id=false:=by simpa using hd
  clear h
  cases hh:xF id
  all_goals
   go_enter Tryz.func148,Tryz.ntmps148
   go_wp2_with (go_at_call 144;refine(rsig id _).mono ?_;rintro e w1 ⟨v,rfl,hv,he⟩;obtain⟨sa,sn,sc,rfl,hsn,hSN⟩:=hv.val;have HV:=η hv;clear hv;obtain⟨hc,hf,hz⟩:=he.facts)
   go_returns
   exact⟨.slice none 0 0,by simp[drawn,yH,hd'],by simp[yD,hd'];exact Own.nil _ _ _ _ _,by go_grown⟩
def u64R (n:Int):Prop:=0≤n∧n≤18446744073709551615
def RS.Ok (σ:RS):Prop:=∀ d,d≤10→u64R (σ.R d)
def RS.setR (σ:RS)(d:Nat)(n:Int):RS:={σ with R:=updN σ.R d n,S:=updN σ.S d true}
def RS.setM (σ:RS)(M:Areas):RS:={σ with V:=(M,σ.V.2)}
def immN (x:Ins):Int:=yY (x.imm%4294967296) 32
def RS.second (σ:RS)(x:Ins)(k:Wh):Int×Bool:=if k.reg then (σ.R x.src.toNat,σ.S x.src.toNat) else (immN x,true)
def RS.addr (σ:RS)(i:Int)(x:Ins):Int:=IntKind.u64.wrap (σ.R i.toNat+yY (x.off%65536) 16)
theorem imm_rng (x:Ins):u64R (immN x):=jK (a:=x.imm%4294967296) (n:=32) (by simp[wid]) (by omega) (by omega)
theorem qX {σ:RS}(h:σ.Ok)(x:Ins)(k:Wh)(hs:x.src≤10):u64R (σ.second x k).1:=by
 unfold RS.second
 split
 ·exact h _ (by omega)
 ·exact imm_rng x
theorem addr_rng (σ:RS)(i:Int)(x:Ins):u64R (σ.addr i x):=uY _
def negB (op b:Int):Int:=if op=128 then 0 else b
def RS.arith (σ:RS)(x:Ins)(k:Wh):RS×Int :=
 if (σ.second x k).2=false∨(k.op≠176∧σ.S x.dst.toNat=false) then (σ,110)
 else (σ.setR x.dst.toNat (aluN k.op k.wide x.off (σ.R x.dst.toNat) (negB k.op (σ.second x k).1)),0)
def RS.load (σ:RS)(x:Ins)(k:Wh):RS×Int :=
 if σ.S x.src.toNat=false then (σ,110)
 else if (kE σ.V.1 (σ.addr x.src x) k.size).2≠0 then (σ,(kE σ.V.1 (σ.addr x.src x) k.size).2)
 else (σ.setR x.dst.toNat (if k.signed then yY (kE σ.V.1 (σ.addr x.src x) k.size).1 (8 * k.size) else (kE σ.V.1 (σ.addr x.src x) k.size).1),0)
def RS.putM (σ:RS)(at_ size n:Int):RS×Int:=(σ.setM (yP σ.V.1 at_ size n).1,(yP σ.V.1 at_ size n).2)
def RS.store (σ:RS)(x:Ins)(k:Wh):RS×Int :=
 if (σ.second x k).2=false∨σ.S x.dst.toNat=false then (σ,110)
 else if k.kind=8 then
  (if (kE σ.V.1 (σ.addr x.dst x) k.size).2≠0 then (σ,(kE σ.V.1 (σ.addr x.dst x) k.size).2)
   else σ.putM (σ.addr x.dst x) k.size (aluN k.op true 0 (kE σ.V.1 (σ.addr x.dst x) k.size).1 (σ.second x k).1))
 else σ.putM (σ.addr x.dst x) k.size (σ.second x k).1
def tblN (d:Nat)(n:Int):Int:=if 12884901888≤n∧n < 12884901888+d then n - 12884901888 else -1
def Cl.new (id:Int):Cl:=⟨id,0,[],[],[],0⟩
def RS.tell (σ:RS)(c:Cl)(i:Nat)(t:Int):Cl×Int :=
 if σ.S (i+1)=false then (c,110)
 else if t=1 then ({c with map:=tblN σ.D.length (σ.R (i+1))},if tblN σ.D.length (σ.R (i+1)) < 0 then 113 else 0)
 else if t=2 then ({c with key:=(yK σ.V.1 (σ.R (i+1)) ((pick σ.D c.map).map TDef.key |>.getD 0)).1},(yK σ.V.1 (σ.R (i+1)) ((pick σ.D c.map).map TDef.key |>.getD 0)).2)
 else if t=3 then ({c with val:=(yK σ.V.1 (σ.R (i+1)) ((pick σ.D c.map).map TDef.val |>.getD 0)).1},(yK σ.V.1 (σ.R (i+1)) ((pick σ.D c.map).map TDef.val |>.getD 0)).2)
 else ({c with n:=c.n++[σ.R (i+1)]},0)
def RS.tells (σ:RS):Cl→Nat→List Int→Cl×Int
 | c,_,[]=>(c,0)
 | c,i,t :: ts=>if (σ.tell c i t).2≠0 then σ.tell c i t else σ.tells (σ.tell c i t).1 (i+1) ts
def RS.told (σ:RS)(id:Int):Cl×Int:=if (σ.tells (Cl.new id) 0 (zU id)).2≠0 then (Cl.new 0,(σ.tells (Cl.new id) 0 (zU id)).2) else σ.tells (Cl.new id) 0 (zU id)
def RS.acts (σ:RS)(c:Cl):(Areas×List TM)×Int×Int :=
 if c.id=1 then (σ.V,xT σ.V.2 c.map c.key)
 else if c.id=2 then rput σ.V c.map c.key c.val (c.n.headD 0)
 else if c.id=3 then ((σ.V.1,(xR σ.V.2 c.map c.key).1),(xR σ.V.2 c.map c.key).2)
 else (σ.V,0,0)
def RS.done (σ:RS)(c:Cl):RS:=RS.setR {σ with calls:=σ.calls++[c],R:=fun j=>if 1≤j∧j≤5 then 0 else σ.R j,S:=fun j=>if 1≤j∧j≤5 then false else σ.S j} 0 c.ret
def RS.call (σ:RS)(x:Ins):RS×Int :=
 if xF x.imm=false then (σ,112)
 else if (σ.told x.imm).2≠0 then (σ,(σ.told x.imm).2)
 else if draws x.imm=true then
  (if yH x.imm σ.dr≠0 then (σ,yH x.imm σ.dr) else (RS.done {σ with dr:=yD x.imm σ.dr} {(σ.told x.imm).1 with ret:=drawn x.imm σ.dr},0))
 else if (σ.acts (σ.told x.imm).1).2.2≠0 then ({σ with V:=(σ.acts (σ.told x.imm).1).1},(σ.acts (σ.told x.imm).1).2.2)
 else (RS.done {σ with V:=(σ.acts (σ.told x.imm).1).1} {(σ.told x.imm).1 with ret:=(σ.acts (σ.told x.imm).1).2.1},0)
def longN (x y:Ins):Int:=x.imm%4294967296+4294967296 * (y.imm%4294967296)
def RS.does (σ:RS)(x:Ins)(k:Wh):RS×Int×Int :=
 if k.kind=1 then ((σ.arith x k).1,zT x σ.place.toNat,(σ.arith x k).2)
 else if k.kind=2 then (if σ.S x.dst.toNat=false then (σ,0,110) else (σ.setR x.dst.toNat (kM k.wide (8 * k.size) (σ.R x.dst.toNat)),zT x σ.place.toNat,0))
 else if k.kind=3 then (match σ.L[σ.place.toNat+1]? with|some y=>(σ.setR x.dst.toNat (longN x y),zT x σ.place.toNat,0)|none=>(σ,0,0))
 else if k.kind=4 then (if (σ.D.length:Int)≤x.imm then (σ,0,113) else (σ.setR x.dst.toNat (12884901888+x.imm),zT x σ.place.toNat,0))
 else if k.kind=5 then ((σ.load x k).1,zT x σ.place.toNat,(σ.load x k).2)
 else if k.kind=6∨k.kind=7∨k.kind=8 then ((σ.store x k).1,zT x σ.place.toNat,(σ.store x k).2)
 else if k.kind=9 then (σ,(yT σ.L x σ.place.toNat).getD 0,0)
 else if k.kind=10 then
  (if (σ.second x k).2=false∨σ.S x.dst.toNat=false then (σ,0,110)
   else (σ,(if uE k.op k.wide (σ.R x.dst.toNat) (σ.second x k).1=true then (yT σ.L x σ.place.toNat).getD 0 else zT x σ.place.toNat),0))
 else if k.kind=11 then ((σ.call x).1,zT x σ.place.toNat,(σ.call x).2)
 else if k.kind=12 then (if σ.S 0=false then (σ,0,110) else ({σ with over:=true},σ.place,0))
 else (σ,zT x σ.place.toNat,0)
def RS.step (σ:RS):RS×Int :=
 if σ.over then (σ,114)
 else match σ.L[σ.place.toNat]? with
  | none=>(σ,0)
  | some x =>
   if (σ.does x (zL x)).2.2≠0 then ({(σ.does x (zL x)).1 with over:=true,code:=(σ.does x (zL x)).2.2},(σ.does x (zL x)).2.2)
   else ({(σ.does x (zL x)).1 with place:=(σ.does x (zL x)).2.1,steps:=(σ.does x (zL x)).1.steps+1},0)
def RS.iter:Nat→RS→RS
 | 0,σ=>σ
 | n+1,σ=>if σ.over then σ else RS.iter n σ.step.1
def RS.run (σ:RS)(fuel:Int):RS:=RS.iter (fuel - σ.steps).toNat σ
end Go.Proofs.YtppefchjoodgnaaGreat
