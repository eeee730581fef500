import Derived.Test.YtppefchjoodgnaaGreatPQ30
import Derived.Test.YtppefchjoodgnaaGreatPQ16
set_option linter.unusedSimpArgs false
set_option linter.unusedVariables false
namespace Go.Proofs.YtppefchjoodgnaaGreat
open Go.RowKit
set_option maxHeartbeats 1000000 in
theorem r_Next (v:Value)(L:List Ins)(k:Nat)(x:Ins)(w:World)(h:Rd w 5 Ins.enc v L)(hl:L.length≤1000000)(hx:L[k]?=some x):Calls Tryz.prog 44 #[v,.int .i64 k] w fun e w'=>e=.returned (.int .i64 (zT x k))∧Ext w w':=by
 obtain⟨a,n,c,rfl,hn,hN⟩:=h.val
 have hk:k < n:=by rw[hN.out];exact(List.getElem?_eq_some_iff.1 hx).1
 have hk2:n≤1000000:=by rw[hN.out];exact hl
 obtain⟨c0,c1,c2,c3,c4⟩:=yQ h hx
 have ix:=fun W=>h.run_at (P:=Tryz.prog) el_ins.under el_ins.size .i64 (k:Int) (by omega) (by omega) W
 simp only[Int.toNat_natCast]at ix
 obtain⟨z,hz⟩:∃ z,(x.op == 24)=z:=⟨_,rfl⟩
 have hn2:zT x k=if z=true then k+2 else k+1:=by unfold zT;simp[← hz]
 rw[hn2]
 have HZ:=η hz
 clear h hx hn2
 have w1:wrap64 ((k:Int)+1)=k+1:=by unfold wrap64;omega
 have w2:wrap64 ((k:Int)+2)=k+2:=by unfold wrap64;omega
 go_enter Tryz.func44,Tryz.ntmps44
 cases z
 all_goals
  go_wp2_with fail
  all_goals first|(exfalso;omega)|(go_returns;exact⟨by first|rfl|(simp;done)|(simp;rfl),Ext.rfl' _⟩)
set_option maxHeartbeats 1000000 in
theorem r_Starts (v:Value)(L:List Ins)(w:World)(h:Rd w 5 Ins.enc v L)(hl:L.length≤1000000):Calls Tryz.prog 20 #[v] w (StAns L w):=by
 obtain⟨a,n,c,rfl,hn,hN⟩:=h.val
 have hk2:n≤1000000:=by rw[hN.out];exact hl
 have HL:=η hl
 have HD:=η h
 have hmk:=tC n hk2
 clear h
 go_enter Tryz.func20,Tryz.ntmps20
 go_upto_region 1 with fail
 go_cut [3] (fun v3 wx=>Hid (Own wx w.heap.size 4 1 (fun x=>[Value.bool x]) v3 (List.replicate n false))∧Ext w wx)
 case first =>
  go_wp2_with fail
  go_meet
  exact⟨η (tB _ _ hk2 _ (Nat.le_refl _)),by (repeat (first|exact xE0 _|assumption|refine xE1 ?_ _|refine xE2 ?_|refine xE3 ?_ _|refine xE4 ?_ (by assumption)))⟩
 case rest =>
  obtain⟨HO,hE⟩:=hcut
  obtain⟨a3,n3,c3,rfl,hn3,hN3⟩:=(HO.out.rd xU).val
  obtain rfl:n3=n:=by have:=hN3.out;simpa using this
  clear hmk
  go_wp2_with fail
  go_loopw [4] (fun i wr=>∃ k:Nat,i=.int .i64 k∧k≤n3+1∧Ext w wr∧Hid (stD L k)∧Hid (∃ T:List Bool,T.length=n3∧Own wr w.heap.size 4 1 (fun x=>[Value.bool x]) (.slice a3 n3 c3) T∧(∀ i,i < k→T[i]?=(stF false L)[i]?)∧(∀ i,k≤i→i < n3→T[i]?=some false))) (fun i _=>n3+2 - (intOf i).toNat)
  case atStart=>exact⟨0,rfl,by omega,hE,η rfl,η ⟨List.replicate n3 false,by simp,HO.out,fun i hi=>absurd hi (Nat.not_lt_zero _),fun i _ hi=>by simp[hi]⟩⟩
  case round =>
   obtain⟨k,rfl,hk,hwr,HSD,HT⟩:=hrel
   obtain⟨T,hT,hO,hT1,hT2⟩:=HT.out
   have HT1:=η hT1
   have HT2:=η hT2
   have HTL:=η hT
   clear hT hT1 hT2 HT
   by_cases hlt:(k:Int) < n3
   ·obtain⟨x,hx⟩:=zK (xs:=L) (k:=k) (by have:=hN.out;omega)
    obtain⟨y,hy⟩:=zK (xs:=T) (k:=k) (by have:=HTL.out;omega)
    have ix:=fun W=>(hO.rd xU).run_at (P:=Tryz.prog) el_bool.under el_bool.size .i64 (k:Int) (by omega) (by omega) W
    simp only[Nat.mul_one,Int.toNat_natCast]at ix
    obtain⟨e1,e2,e3,e4,e5⟩:=hO.at hy
    have HX:=η hx
    have HO5:=η (e5 true)
    clear hx hy e5 hO e3
    go_wp2_with fail
    have hE2:Ext w _:=HO5.out.2 _ _ hwr (Nat.le_refl _)
    refine(r_Next _ L k x _ (HD.out.ext hE2) HL.out HX.out).mono ?_
    rintro e w5 ⟨rfl,hE5⟩
    have HE5:=η hE5
    clear hE5
    go_wp2_with fail
    go_roundw
    case rel =>
     obtain⟨q1,q2,q3⟩:=uC HSD.out HX.out
     have hkn:k < n3:=by omega
     refine⟨zT x k,rfl,by unfold zT;split<;>omega,hE2.trans' HE5.out,η q2,η ⟨T.set k true,by simpa using HTL.out,HO5.out.1.ext HE5.out,fun i hi=>?_,fun i hi hi2=>?_⟩⟩
     ·by_cases h1:i=k
      ·subst h1
       rw[q1,List.getElem?_set_self (by have:=HTL.out;omega)]
      ·rw[List.getElem?_set_ne (Ne.symm h1)]
       by_cases h2:i < k
       ·exact HT1.out i h2
       ·have h3:x.op=24∧i=k+1:=by
         unfold zT at hi
         split at hi
         ·rename_i hop;exact⟨hop,by omega⟩
         ·omega
        obtain⟨hop,rfl⟩:=h3
        by_cases h4:k+1 < n3
        ·rw[HT2.out _ (by omega) h4,q3 hop (by have:=hN.out;omega)]
        ·rw[List.getElem?_eq_none (by have:=HTL.out;omega),List.getElem?_eq_none (by rw[xP];have:=hN.out;omega)]
     ·have:k < zT x k:=by unfold zT;split<;>omega
      rw[List.getElem?_set_ne (by omega)]
      exact HT2.out i (by omega) hi2
    case measure =>
     have:k < zT x k:=by unfold zT;split<;>omega
     simp[intOf]
     omega
   ·have hT:T=stF false L:=by
     apply List.ext_getElem?
     intro i
     by_cases h1:i < k
     ·exact HT1.out i h1
     ·rw[List.getElem?_eq_none (by have:=HTL.out;omega),List.getElem?_eq_none (by rw[xP];have:=hN.out;omega)]
    subst hT
    have HO:=η hO
    clear hO
    go_wp2_with fail
    go_returns
    exact⟨_,rfl,HO.out,hwr⟩
set_option maxHeartbeats 2000000 in
theorem r_to (v:Value)(L:List Ins)(k:Nat)(x:Ins)(w:World)(h:Rd w 5 Ins.enc v L)(hl:L.length≤1000000)(hx:L[k]?=some x)(hok:x.Ok):Calls Tryz.prog 46 #[v,.int .i64 k] w (OptA (toS x k) w):=by
 obtain⟨a,n,c,rfl,hn,hN⟩:=h.val
 have hk:k < n:=by rw[hN.out];exact(List.getElem?_eq_some_iff.1 hx).1
 have hk2:n≤1000000:=by rw[hN.out];exact hl
 have ix:=fun W=>h.run_at (P:=Tryz.prog) el_ins.under el_ins.size .i64 (k:Int) (by omega) (by omega) W
 simp only[Int.toNat_natCast]at ix
 have HD:=η h
 have HX:=η hx
 have HOK:=η hok
 have w0:wrap64 ((k:Int)+1)=k+1:=by unfold wrap64;omega
 have w1:wrap64 ((k:Int)+1+x.off)=k+1+x.off:=by have:=hok.off;unfold wrap64;omega
 have w2:wrap64 ((k:Int)+1+x.imm)=k+1+x.imm:=by have:=hok.imm;unfold wrap64;omega
 unfold toS zL
 obtain⟨y,hy⟩:∃ y,(xH x).getD Wh.zero=y:=⟨_,rfl⟩
 obtain⟨bb,hbb⟩:∃ y,(xH x).isSome=y:=⟨_,rfl⟩
 obtain⟨k9,hk9⟩:∃ z,(y.kind != 9)=z:=⟨_,rfl⟩
 obtain⟨k10,hk10⟩:∃ z,(y.kind != 10)=z:=⟨_,rfl⟩
 obtain⟨k6,hk6⟩:∃ z,(x.op == 6)=z:=⟨_,rfl⟩
 have b1:(y.kind=9)=(k9=false):=by rw[← hk9];simp
 have b2:(y.kind=10)=(k10=false):=by rw[← hk10];simp
 have b3:(x.op=6)=(k6=true):=by rw[← hk6];simp
 simp only[hy,b1,b2,b3]
 obtain⟨R,hR⟩:∃ R:Option Int,R=if k9=false∨k10=false then some (k+1+if k6=true then x.imm else x.off) else none:=⟨_,rfl⟩
 rw[← hR]
 have HR:=η hR
 have w3:wrap64 x.off=x.off:=by have:=hok.off;unfold wrap64;omega
 have w4:wrap64 x.imm=x.imm:=by have:=hok.imm;unfold wrap64;omega
 clear hR
 have HY:=η hy
 have HB:=η hbb
 clear h hx hok hy hbb b1 b2 b3
 obtain⟨c0,c1,c2,c3,c4⟩:=yQ HD.out HX.out
 go_enter Tryz.func46,Tryz.ntmps46
 go_upto_region 1 with fail
 go_cut [6,7] (fun v6 v7 wx=>∃ q,v6=.pointer (some ⟨q,0,none⟩)∧v7=.bool bb∧Hid (Ext w wx∧wx.heap[q]?=some (zF y)∧w.heap.size≤q))
 case first =>
  go_wp2_with fail
  refine(r_What x _ HOK.out).mono ?_
  unfold WhatA
  rw[HY.out,HB.out]
  rintro e w5 ⟨rfl,hE⟩
  have HE5:=η hE
  clear hE
  go_wp2_with fail
  go_meet
  refine⟨_,rfl,rfl,η ⟨?_,?_,HE5.out.size⟩⟩
  ·have:=HE5.out
   (repeat (first|exact xE0 _|assumption|refine xE1 ?_ _|refine xE2 ?_|refine xE3 ?_ _|refine xE4 ?_ (by assumption)))
  ·(repeat (first|(refine zD _ _ ?_;simp;done)|refine zB _ ?_))
 case rest =>
  obtain⟨q,rfl,rfl,HW⟩:=hcut
  have q0:=cO (i:=0) HW.out.2.1
  simp only[gA,gB,gC]at q0
  clear c0 c1 c2 c3 c4
  obtain⟨c0,c1,c2,c3,c4⟩:=yQ (HD.out.ext HW.out.1) HX.out
  cases bb with
  | false =>
   have HRS:Hid (R=none):=η (by
    have h1:=HY.out
    have h2:=HB.out
    cases hw:xH x with
    | some z=>rw[hw]at h2;cases h2
    | none =>
     rw[hw]at h1
     have:y.kind=0:=by rw[← h1];rfl
     have a1:k9=true:=by rw[← hk9,this];rfl
     have a2:k10=true:=by rw[← hk10,this];rfl
     rw[HR.out,a1,a2];rfl)
   go_wp2_with fail
   go_returns
   exact⟨by rw[HRS.out];rfl,HW.out.1⟩
  | true =>
   cases k9
   ·cases k6
    all_goals
     go_wp2_with fail
     go_returns
     exact⟨by rw[HR.out];simp,HW.out.1⟩
   ·cases k10
    ·cases k6
     all_goals
      go_wp2_with fail
      go_returns
      exact⟨by rw[HR.out];simp,HW.out.1⟩
    ·go_wp2_with fail
     go_returns
     exact⟨by rw[HR.out];simp,HW.out.1⟩
set_option maxHeartbeats 2000000 in
theorem r_Target (v:Value)(L:List Ins)(k:Nat)(x:Ins)(w:World)(h:Rd w 5 Ins.enc v L)(hl:L.length≤1000000)(hx:L[k]?=some x)(hok:x.Ok):Calls Tryz.prog 105 #[v,.int .i64 k] w (OptA (yT L x k) w):=by
 obtain⟨a,n,c,rfl,hn,hN⟩:=h.val
 have hk:k < n:=by rw[hN.out];exact(List.getElem?_eq_some_iff.1 hx).1
 have hk2:n≤1000000:=by rw[hN.out];exact hl
 have HD:=η h
 have HX:=η hx
 have HOK:=η hok
 have HL:=η hl
 obtain⟨R,hR⟩:∃ R,R=yT L x k:=⟨_,rfl⟩
 rw[← hR]
 unfold yT at hR
 rw[← hN.out]at hR
 have HR:=η hR
 clear h hx hok hl hR
 go_enter Tryz.func105,Tryz.ntmps105
 go_wp2_with fail
 refine(r_to _ L k x _ HD.out HL.out HX.out HOK.out).mono ?_
 unfold OptA
 cases ht:toS x k with
 | none =>
  have HT:=η ht
  clear ht
  rintro e w5 ⟨rfl,hE⟩
  have HE5:=η hE
  clear hE
  simp only[Option.getD_none,Option.isSome_none]
  go_wp2_with fail
  go_returns
  exact⟨by rw[HR.out,HT.out];rfl,HE5.out⟩
 | some t =>
  have HT:=η ht
  clear ht
  rintro e w5 ⟨rfl,hE⟩
  have HE5:=η hE
  clear hE
  simp only[Option.getD_some,Option.isSome_some]
  by_cases h1:0≤t
  ·by_cases h2:t < n
   ·go_wp2_with fail
    go_returns
    exact⟨by rw[HR.out,HT.out];simp[h1,h2],HE5.out⟩
   ·go_wp2_with fail
    go_returns
    have h3:¬ (0≤t∧t < (n:Int)):=by omega
    exact⟨by rw[HR.out,HT.out];simp only[];rw[if_neg h3];rfl,HE5.out⟩
  ·go_wp2_with fail
   go_returns
   have h3:¬ (0≤t∧t < (n:Int)):=by omega
   exact⟨by rw[HR.out,HT.out];simp only[];rw[if_neg h3];rfl,HE5.out⟩
def halfS (L:List Ins)(k:Nat)(y:Wh):Bool:=((y.kind != 3) && (y.kind != 4)) || match L[k+1]? with|none=>false|some z=>z.op == 0 && z.dst == 0 && z.src == 0 && z.off == 0 && (y.kind == 3 || z.imm == 0)
set_option maxHeartbeats 2000000 in
theorem r_half (v:Value)(L:List Ins)(k:Nat)(y:Wh)(w:World)(h:Rd w 5 Ins.enc v L)(hl:L.length≤1000000)(hk:k < L.length):Calls Tryz.prog 45 #[v,.int .i64 k,y.agg] w fun e w'=>e=.returned (.bool (halfS L k y))∧Ext w w':=by
 obtain⟨a,n,c,rfl,hn,hN⟩:=h.val
 have hk':k < n:=by rw[hN.out];exact hk
 have hk2:n≤1000000:=by rw[hN.out];exact hl
 have HD:=η h
 have w0:wrap64 ((k:Int)+1)=k+1:=by unfold wrap64;omega
 obtain⟨R,hR⟩:∃ R,R=halfS L k y:=⟨_,rfl⟩
 rw[← hR]
 unfold halfS at hR
 obtain⟨k3,hk3⟩:∃ z,(y.kind == 3)=z:=⟨_,rfl⟩
 obtain⟨n4,hn4⟩:∃ z,(y.kind != 4)=z:=⟨_,rfl⟩
 have hn3:(y.kind != 3)=!k3:=by rw[← hk3];rfl
 rw[hk3,hn3,hn4]at hR
 have HR:=η hR
 have HE:=η (Ext.alloc' (Ext.rfl' w) (zF y))
 have HQ:Hid ((w.alloc (zF y)).heap[w.heap.size]?=some (zF y)):=η (by (repeat (first|(refine zD _ _ ?_;simp;done)|refine zB _ ?_)))
 clear h hk hl hR
 go_enter Tryz.func45,Tryz.ntmps45
 go_upto_region 1 with fail
 generalize hF:w.alloc (zF y)=wa at HE HQ ⊢
 clear hF
 generalize w.heap.size=q at HQ ⊢
 have q0:=cO (i:=0) HQ.out
 simp only[gA,gB,gC]at q0
 by_cases hkk:k3=false∧n4=true
 ·obtain⟨rfl,rfl⟩:=hkk
  have hn3':(y.kind != 3)=true:=hn3
  go_wp2_with fail
  go_returns
  exact⟨by rw[HR.out];rfl,HE.out⟩
 ·have HR2:Hid (R=match L[k+1]? with|none=>false|some z=>z.op == 0 && z.dst == 0 && z.src == 0 && z.off == 0 && (k3 || z.imm == 0)):=η (by
   rw[HR.out]
   cases k3<;>cases n4<;>simp_all)
  go_upto_region 1 with fail
  go_cut [15] (fun v wx=>v=.bool false∧wx=wa)
  case first =>
   cases k3
   ·obtain rfl:n4=false:=by cases n4<;>simp_all
    have hn3':(y.kind != 3)=true:=hn3
    go_wp2_with fail
    go_meet
    exact⟨rfl,rfl⟩
   ·have hn3':(y.kind != 3)=false:=hn3
    go_wp2_with fail
    go_meet
    exact⟨rfl,rfl⟩
  case rest =>
   obtain⟨rfl,hwc⟩:=hcut
   obtain rfl:=hwc.symm
   clear hkk hn3 hn4
   by_cases hk1:(k:Int)+1 < n
   ·obtain⟨z,hz⟩:=zK (xs:=L) (k:=k+1) (by have:=hN.out;omega)
    have iy:=fun W=>HD.out.run_at (P:=Tryz.prog) el_ins.under el_ins.size .i64 ((k:Int)+1) (by omega) (by omega) W
    rw[show ((k:Int)+1).toNat=k+1 by omega]at iy
    obtain⟨d0,d1,d2,d3,d4⟩:=yQ (HD.out.ext HE.out) hz
    have HZ:=η hz
    clear hz
    go_upto_region 5 with fail
    go_cut [7] (fun v7 wx=>∃ p,v7=.pointer (some ⟨p,0,none⟩)∧Hid (Ext w wx∧wx.heap[p]?=some (zQ z)∧wx.heap[q]?=some (zF y)∧w.heap.size≤p))
    case first =>
     go_wp2_with fail
     go_meet
     refine⟨_,rfl,η ⟨?_,?_,?_,?_⟩⟩
     ·have:=HE.out
      (repeat (first|exact xE0 _|assumption|refine xE1 ?_ _|refine xE2 ?_|refine xE3 ?_ _|refine xE4 ?_ (by assumption)))
     ·(repeat (first|(refine zD _ _ ?_;simp;done)|refine zB _ ?_))
     ·exact zB _ HQ.out
     ·have:=HE.out.size
      simp at this ⊢
      omega
    case rest =>
     obtain⟨p,rfl,HP⟩:=hcut
     have q0:=cO (i:=0) HP.out.2.2.1
     have z0:=cO (i:=0) HP.out.2.1
     have z1:=cO (i:=1) HP.out.2.1
     have z2:=cO (i:=2) HP.out.2.1
     have z3:=cO (i:=3) HP.out.2.1
     have z4:=cO (i:=4) HP.out.2.1
     have zf:=fun i=>zA (i:=i) HP.out.2.1
     simp only[gA,gB,gC]at q0 z0 z1 z2 z3 z4
     clear d0 d1 d2 d3 d4
     cases k3
     all_goals
      go_wp2_with fail
     all_goals
      go_returns
      exact⟨by rw[HR2.out,HZ.out];simp_all,by first|exact HP.out.1|exact HP.out.1.setCell HP.out.2.2.2 _⟩
   ·have hnone:L[k+1]?=none:=List.getElem?_eq_none (by have:=hN.out;omega)
    have HNN:=η hnone
    clear hnone
    go_wp2_with fail
    go_returns
    exact⟨by rw[HR2.out,HNN.out];rfl,HE.out⟩
theorem kind_arith {x:Ins}{h:Int}{wd rg:Bool}{y:Wh}(e:xD x h wd rg=some y):y.kind=1:=by
 unfold xD at e
 repeat' split at e
 all_goals first|(cases e;done)|(injection e with e;subst e;rfl)
theorem kind_swaps {x:Ins}{y:Wh}(e:vL x=some y):y.kind=2:=by
 unfold vL at e
 repeat' split at e
 all_goals first|(cases e;done)|(injection e with e;subst e;rfl)
theorem kind_wide {x:Ins}{y:Wh}(e:gV x=some y):y.kind=3∨y.kind=4:=by
 unfold gV at e
 repeat' split at e
 all_goals first|(cases e;done)|(injection e with e;subst e;first|exact .inl rfl|exact .inr rfl)
theorem kind_moves {x:Ins}{y:Wh}(e:uM x=some y):y.kind=5∨y.kind=6∨y.kind=7∨y.kind=8:=by
 unfold uM at e
 repeat' split at e
 all_goals first|(cases e;done)|(injection e with e;subst e;first|exact .inl rfl|exact .inr (.inl rfl)|exact .inr (.inr (.inl rfl))|exact .inr (.inr (.inr rfl)))
theorem kind_jumps {x:Ins}{y:Wh}(e:kJ x=some y):y.kind=9∨y.kind=10∨y.kind=11∨y.kind=12:=by
 unfold kJ at e
 repeat' split at e
 all_goals first|(cases e;done)|(injection e with e;subst e;first|exact .inl rfl|exact .inr (.inl rfl)|exact .inr (.inr (.inl rfl))|exact .inr (.inr (.inr rfl)))
theorem kind_op {x:Ins}{y:Wh}(e:xH x=some y):(y.kind=3∨y.kind=4) ↔ x.op=24:=by
 unfold xH at e
 split at e
 ·cases e
 ·split at e
  ·rename_i h
   exact⟨fun _=>h,fun _=>kind_wide e⟩
  ·rename_i h
   refine⟨fun hk=>absurd hk ?_,fun h'=>absurd h' h⟩
   repeat' split at e
   all_goals first|(cases e;done)|(have:=kind_swaps e;omega)|(have:=kind_arith e;omega)|(have:=kind_jumps e;omega)|(have:=kind_moves e;omega)
theorem whole_half {L:List Ins}{x:Ins}{y:Wh}{k:Nat}(e:xH x=some y):kU L x k=halfS L k y:=by
 have hk:=kind_op e
 have hz:zL x=y:=by unfold zL;rw[e];rfl
 unfold kU halfS
 rw[e,hz]
 simp only[Option.isSome_some,Bool.true_and]
 by_cases h:x.op=24
 ·have:=hk.2 h
  have e1:(y.kind != 3 && y.kind != 4)=false:=by
   rcases this with h|h<;>simp[h]
  have e2:(x.op == 24)=true:=by simpa using h
  rw[e1,e2]
  rfl
 ·have h3:y.kind≠3∧y.kind≠4:=by
   constructor
   ·intro h';exact h (hk.1 (.inl h'))
   ·intro h';exact h (hk.1 (.inr h'))
  have e1:(y.kind != 3 && y.kind != 4)=true:=by simp[h3.1,h3.2]
  have e2:(x.op == 24)=false:=by simpa using h
  rw[e1,e2]
  rfl
theorem last_next {L:List Ins}{x:Ins}{k:Nat}(hD:stD L k)(hx:L[k]?=some x)(hn:zT x k≤L.length):jN L (zT x k)=k:=by
 obtain⟨h1,h2,h3⟩:=uC hD hx
 have h4:=(jP h1 hx).2.2
 unfold zT at hn ⊢
 split
 ·rename_i h
  rw[if_pos h]at hn
  rw[show k+2=(k+1)+1 by omega,(vT (h3 h (by omega))).2.2,h4]
 ·exact h4
theorem all_next {L:List Ins}{x:Ins}{k:Nat}{P:Nat→Prop}(hD:stD L k)(hx:L[k]?=some x)(hn:zT x k≤L.length)(h:∀ j,j < k→P j)(hk:P k)(hs:∀ j,(stF false L)[j]?=some false→P j):∀ j,j < zT x k→P j:=by
 obtain⟨h1,h2,h3⟩:=uC hD hx
 intro j hj
 by_cases hjk:j < k
 ·exact h j hjk
 ·by_cases e:j=k
  ·subst e;exact hk
  ·unfold zT at hj hn
   split at hj
   ·rename_i ho
    rw[if_pos ho]at hn
    obtain rfl:j=k+1:=by omega
    exact hs _ (h3 ho (by omega))
   ·omega
theorem whole_next {L:List Ins}{x:Ins}{k:Nat}(hk:k < L.length)(h:kU L x k=true):zT x k≤L.length:=by
 unfold zT
 split
 ·rename_i ho
  unfold kU at h
  have e2:(x.op == 24)=true:=by simpa using ho
  rw[e2]at h
  cases hy:L[k+1]? with
  | none=>rw[hy]at h;simp at h
  | some y=>have:=(List.getElem?_eq_some_iff.1 hy).1;omega
 ·omega
set_option maxHeartbeats 4000000 in
set_option maxRecDepth 20000 in
theorem r_Check (v:Value)(L:List Ins)(w:World)(h:Rd w 5 Ins.enc v L)(hl:L.length≤1000000)(hok:InsOk L):Calls Tryz.prog 19 #[v] w (CheckA L w):=by
 obtain⟨a,n,c,rfl,hn,hN⟩:=h.val
 have hk2:n≤1000000:=by rw[hN.out];exact hl
 have HD:=η h
 have HOK:=η hok
 have HL:=η hl
 clear h hok hl
 go_enter Tryz.func19,Tryz.ntmps19
 by_cases h1:1≤n
 ·by_cases h5:n≤512
  ·go_upto_region 1 with fail
   go_cut [21] (fun v wx=>v=.bool false∧wx=w)
   case first =>
    go_wp2_with fail
    all_goals first|(exfalso;omega)|(go_meet;exact⟨by first|rfl|(simp;omega),rfl⟩)
   case rest =>
    obtain⟨rfl,hwc⟩:=hcut
    obtain rfl:=hwc.symm
    go_wp2_with fail
    go_loopw [4,5] (fun l i wr=>∃ k:Nat,k≤n∧i=.int .i64 k∧l=.int .i64 (jN L k:Nat)∧Hid (Ext w wr∧stD L k∧∀ j,j < k→ok1 L j=true)) (fun _ i _=>n - (intOf i).toNat)
    case atStart=>exact⟨0,Nat.zero_le _,rfl,rfl,η ⟨Ext.rfl' _,rfl,fun j hj=>absurd hj (Nat.not_lt_zero _)⟩⟩
    case round =>
     obtain⟨k,hk,rfl,rfl,HI⟩:=hrel
     by_cases hlt:(k:Int) < n
     ·obtain⟨x,hx⟩:=zK (xs:=L) (k:=k) (by have:=hN.out;omega)
      have ix:=fun W=>HD.out.run_at (P:=Tryz.prog) el_ins.under el_ins.size .i64 (k:Int) (by omega) (by omega) W
      simp only[Int.toNat_natCast]at ix
      obtain⟨c0,c1,c2,c3,c4⟩:=yQ (HD.out.ext HI.out.1) hx
      have HX:=η hx
      clear hx
      obtain⟨y,hy⟩:∃ y,(xH x).getD Wh.zero=y:=⟨_,rfl⟩
      obtain⟨bb,hbb⟩:∃ y,(xH x).isSome=y:=⟨_,rfl⟩
      have HY:=η hy
      have HB:=η hbb
      clear hy hbb
      go_upto_region 7 with fail
      go_cut [6,7] (fun v6 v7 wx=>∃ q,v6=.pointer (some ⟨q,0,none⟩)∧v7=.bool bb∧Hid (Ext wr wx∧wx.heap[q]?=some (zF y)))
      case first =>
       go_wp2_with fail
       refine(r_What x _ (HOK.out.at HX.out)).mono ?_
       unfold WhatA
       rw[HY.out,HB.out]
       rintro e w7 ⟨rfl,hE7⟩
       have HE7:=η hE7
       clear hE7
       go_wp2_with fail
       go_meet
       refine⟨_,rfl,rfl,η ⟨HE7.out.alloc' _,?_⟩⟩
       (repeat (first|(refine zD _ _ ?_;simp;done)|refine zB _ ?_))
      case rest =>
       obtain⟨q,rfl,rfl,HW⟩:=hcut
       clear c0 c1 c2 c3 c4
       obtain⟨q0,q1,q2,q3,q4,q5⟩:=κ6 HW.out.2
       have HXW:Hid (Ext w wc):=η (HI.out.1.trans' HW.out.1)
       have HST:=η (uC HI.out.2.1 HX.out)
       cases bb with
       | false =>
        have hw0:ok1 L k=false:=by
         rw[(jP HST.out.1 HX.out).1]
         unfold kU
         rw[HB.out]
         rfl
        have HW0:=η hw0
        clear hw0
        go_wp2_with fail
        go_returns
        exact⟨_,_,rfl,by rw[prog_not1 (k:=k) (by have:=hN.out;omega) HW0.out];rfl,HXW.out⟩
       | true =>
        have hsome:xH x=some y:=by
         have h1:=HB.out
         have h2:=HY.out
         cases hw:xH x with
         | none=>rw[hw]at h1;cases h1
         | some z=>rw[hw]at h2;rw[← h2];rfl
        have HWH:Hid (ok1 L k=halfS L k y):=η (by rw[(jP HST.out.1 HX.out).1];exact whole_half hsome)
        have HWS:Hid (kU L x k=halfS L k y):=η (whole_half hsome)
        clear hsome
        go_wp2_with fail
        refine(r_half _ L k y _ (HD.out.ext HXW.out) HL.out (by have:=hN.out;omega)).mono ?_
        cases hw:halfS L k y with
        | false =>
         have HWF:=η hw
         clear hw
         rintro e w8 ⟨rfl,hE8⟩
         have HE8:=η hE8
         clear hE8
         go_wp2_with fail
         go_returns
         exact⟨_,_,rfl,by rw[prog_not1 (k:=k) (by have:=hN.out;omega) (HWH.out.trans HWF.out)];rfl,HXW.out.trans' HE8.out⟩
        | true =>
         have HWT:=η hw
         have hnx:zT x k≤n:=by rw[hN.out];exact whole_next (by have:=hN.out;omega) (HWS.out.trans hw)
         have hkx:k < zT x k:=by unfold zT;split<;>omega
         clear hw
         rintro e w8 ⟨rfl,hE8⟩
         have HE8:=η hE8
         clear hE8 q0 q1 q2 q3 q4 q5
         go_wp2_with fail
         refine(r_Next _ L k x _ (HD.out.ext (HXW.out.trans' HE8.out)) HL.out HX.out).mono ?_
         rintro e w9 ⟨rfl,hE9⟩
         have HE9:Hid (Ext w w9):=η (Ext.trans' (HXW.out.trans' HE8.out) hE9)
         clear hE9
         go_wp2_with fail
         go_roundw
         case rel=>exact⟨zT x k,hnx,rfl,by rw[last_next HI.out.2.1 HX.out (by rw[← hN.out];exact hnx)],η ⟨HE9.out,HST.out.2.1,all_next HI.out.2.1 HX.out (by rw[← hN.out];exact hnx) HI.out.2.2 (HWH.out.trans HWT.out) (fun j hj=>(vT hj).1)⟩⟩
         case measure=>simp[intOf];omega
     ·obtain rfl:k=n:=by omega
      have HK1:=η HI.out.2.2
      have hle:=lastS_lt L k h1 k (Nat.le_refl _)
      have HLE:=η hle
      clear hle
      go_wp2_with fail
      refine(r_Starts _ L _ (HD.out.ext HI.out.1) HL.out).mono ?_
      rintro e w5 ⟨s,rfl,hO,hE⟩
      have hR:=hO.rd xU
      obtain⟨sa,sn,sc,rfl,hsn,hSN⟩:=hR.val
      obtain rfl:sn=k:=by rw[hSN.out,xP,hN.out]
      have HR:=η hR
      have HE5:Hid (Ext w w5):=η (HI.out.1.trans' hE)
      clear hO hR hE
      go_wp2_with fail
      go_loopw [9] (fun i w2=>∃ m:Nat,m≤sn∧i=.int .i64 m∧Hid (Ext w w2∧Ext w5 w2∧stD L m∧∀ j,j < m→ok2 L j=true)) (fun i _=>sn - (intOf i).toNat)
      case atStart=>exact⟨0,Nat.zero_le _,rfl,η ⟨HE5.out,Ext.rfl' _,rfl,fun j hj=>absurd hj (Nat.not_lt_zero _)⟩⟩
      case round =>
       obtain⟨m,hm,rfl,HJ⟩:=hrel
       by_cases hlt2:(m:Int) < sn
       ·obtain⟨x,hx⟩:=zK (xs:=L) (k:=m) (by have:=hN.out;omega)
        have HST:=η (uC HJ.out.2.2.1 hx)
        have hwm:kU L x m=true:=by
         have h1:=HK1.out m (by omega)
         rwa[(jP HST.out.1 hx).1]at h1
        have hnx:zT x m≤sn:=by rw[hN.out];exact whole_next (by have:=hN.out;omega) hwm
        have hkx:m < zT x m:=by unfold zT;split<;>omega
        have HX:=η hx
        clear hx hwm
        go_wp2_with fail
        refine(r_to _ L m x _ (HD.out.ext HJ.out.1) HL.out HX.out (HOK.out.at HX.out)).mono ?_
        unfold OptA
        cases ht:toS x m with
        | none =>
         have HT:=η ht
         clear ht
         simp only[Option.getD_none,Option.isSome_none]
         rintro e w6 ⟨rfl,hE6⟩
         have HE6:=η hE6
         clear hE6
         go_wp2_with fail
         refine(r_Next _ L m x _ (HD.out.ext (HJ.out.1.trans' HE6.out)) HL.out HX.out).mono ?_
         rintro e w7 ⟨rfl,hE7⟩
         have HE7:=η (HE6.out.trans' hE7)
         clear hE7
         go_wp2_with fail
         go_roundw
         case rel=>exact⟨zT x m,hnx,rfl,η ⟨HJ.out.1.trans' HE7.out,HJ.out.2.1.trans' HE7.out,HST.out.2.1,all_next HJ.out.2.2.1 HX.out (by rw[← hN.out];exact hnx) HJ.out.2.2.2 (by rw[(jP HST.out.1 HX.out).2.1,HT.out]) (fun j hj=>(vT hj).2.1)⟩⟩
         case measure=>simp[intOf];omega
        | some t =>
         have HT:=η ht
         clear ht
         simp only[Option.getD_some,Option.isSome_some]
         rintro e w6 ⟨rfl,hE6⟩
         have HE6:=η hE6
         clear hE6
         have hj:ok2 L m=kK L t:=by rw[(jP HST.out.1 HX.out).2.1,HT.out]
         have HJO:=η hj
         clear hj
         by_cases t1:0≤t
         ·by_cases t2:t < sn
          ·obtain⟨b2,hb2⟩:=zK (xs:=stF false L) (k:=t.toNat) (by have:=hSN.out;omega)
           have iy:=fun W=>(HR.out.ext HJ.out.2.1).run_at (P:=Tryz.prog) el_bool.under el_bool.size .i64 t (by omega) (by omega) W
           have cy:=((HR.out.ext HJ.out.2.1).ext HE6.out).cell hb2 (j:=0) rfl
           simp only[Nat.mul_one,Nat.add_zero]at iy cy
           have hj2:kK L t=b2:=by
            unfold kK
            rw[hb2,decide_eq_true t1,decide_eq_true (by have:=hN.out;omega)]
            cases b2<;>rfl
           have HJ2:=η hj2
           clear hj2 hb2
           cases b2 with
           | true =>
            go_wp2_with fail
            refine(r_Next _ L m x _ (HD.out.ext (HJ.out.1.trans' HE6.out)) HL.out HX.out).mono ?_
            rintro e w7 ⟨rfl,hE7⟩
            have HE7:=η (HE6.out.trans' hE7)
            clear hE7
            go_wp2_with fail
            go_roundw
            case rel=>exact⟨zT x m,hnx,rfl,η ⟨HJ.out.1.trans' HE7.out,HJ.out.2.1.trans' HE7.out,HST.out.2.1,all_next HJ.out.2.2.1 HX.out (by rw[← hN.out];exact hnx) HJ.out.2.2.2 (HJO.out.trans HJ2.out) (fun j hj=>(vT hj).2.1)⟩⟩
            case measure=>simp[intOf];omega
           | false =>
            go_wp2_with fail
            go_returns
            exact⟨_,_,rfl,by rw[qS (k:=m) (by have:=hN.out;omega) (HJO.out.trans HJ2.out)];rfl,HJ.out.1.trans' HE6.out⟩
          ·have hj2:kK L t=false:=by
            unfold kK
            rw[decide_eq_false (by have:=hN.out;omega:¬ t < (L.length:Int))]
            simp
           have HJ2:=η hj2
           clear hj2
           go_wp2_with fail
           go_returns
           exact⟨_,_,rfl,by rw[qS (k:=m) (by have:=hN.out;omega) (HJO.out.trans HJ2.out)];rfl,HJ.out.1.trans' HE6.out⟩
         ·have hj2:kK L t=false:=by
           unfold kK
           rw[decide_eq_false t1]
           simp
          have HJ2:=η hj2
          clear hj2
          go_wp2_with fail
          go_returns
          exact⟨_,_,rfl,by rw[qS (k:=m) (by have:=hN.out;omega) (HJO.out.trans HJ2.out)];rfl,HJ.out.1.trans' HE6.out⟩
       ·obtain rfl:m=sn:=by omega
        have HP:Hid (yX L=endS L):=η (prog_end (by rw[← hN.out];exact h1) (by rw[← hN.out];exact h5) (by rw[← hN.out];exact HK1.out) (by rw[← hN.out];exact HJ.out.2.2.2))
        obtain⟨x,hx⟩:=zK (xs:=L) (k:=jN L m) (by have:=hN.out;have:=HLE.out;omega)
        have hes:endS L=((zL x).kind == 12 || (zL x).kind == 9):=by unfold endS;rw[← hN.out,hx]
        have ix:=fun W=>(HD.out.ext HJ.out.1).run_at (P:=Tryz.prog) el_ins.under el_ins.size .i64 (jN L m:Nat) (by omega) (by have:=HLE.out;omega) W
        simp only[Int.toNat_natCast]at ix
        obtain⟨c0,c1,c2,c3,c4⟩:=yQ (HD.out.ext HJ.out.1) hx
        have HX:=η hx
        unfold zL at hes
        obtain⟨y,hy⟩:∃ y,(xH x).getD Wh.zero=y:=⟨_,rfl⟩
        rw[hy]at hes
        have HES:=η hes
        have HY:=η hy
        clear hx hes hy
        go_upto_region 18 with fail
        go_cut [12] (fun v6 wx=>∃ q,v6=.pointer (some ⟨q,0,none⟩)∧Hid (Ext w wx∧wx.heap[q]?=some (zF y)))
        case first =>
         go_wp2_with fail
         refine(r_What x _ (HOK.out.at HX.out)).mono ?_
         unfold WhatA
         rw[HY.out]
         rintro e w7 ⟨rfl,hE7⟩
         have HE7:=η hE7
         clear hE7
         go_wp2_with fail
         go_meet
         refine⟨_,rfl,η ⟨(HJ.out.1.trans' HE7.out).alloc' _,?_⟩⟩
         (repeat (first|(refine zD _ _ ?_;simp;done)|refine zB _ ?_))
        case rest =>
         obtain⟨q,rfl,HW⟩:=hcut
         have q0:=cO (i:=0) HW.out.2
         simp only[gA,gB,gC]at q0
         clear c0 c1 c2 c3 c4
         obtain⟨k12,hk12⟩:∃ z,(y.kind != 12)=z:=⟨_,rfl⟩
         obtain⟨k9,hk9⟩:∃ z,(y.kind != 9)=z:=⟨_,rfl⟩
         have b1:(y.kind == 12)=!k12:=by rw[← hk12];simp[bne]
         have b2:(y.kind == 9)=!k9:=by rw[← hk9];simp[bne]
         have HB1:=η b1
         have HB2:=η b2
         clear b1 b2
         cases k12
         ·go_wp2_with fail
          go_returns
          exact⟨_,_,rfl,by rw[HP.out,HES.out,HB1.out];rfl,HW.out.1⟩
         ·cases k9
          all_goals
           go_wp2_with fail
           go_returns
           exact⟨_,_,rfl,by rw[HP.out,HES.out,HB1.out,HB2.out];rfl,HW.out.1⟩
  ·go_wp2_with fail
   all_goals
    go_returns
    exact⟨_,_,rfl,by rw[yX,decide_eq_false (by rw[← hN.out];omega:¬ L.length≤512)];simp,Ext.rfl' _⟩
 ·go_wp2_with fail
  all_goals
   go_returns
   exact⟨_,_,rfl,by rw[yX,decide_eq_false (by rw[← hN.out];omega:¬ 1≤L.length)];simp,Ext.rfl' _⟩
end Go.Proofs.YtppefchjoodgnaaGreat
