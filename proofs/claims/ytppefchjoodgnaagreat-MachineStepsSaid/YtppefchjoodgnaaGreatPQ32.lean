import Derived.Test.YtppefchjoodgnaaGreatPQ25
import Derived.Test.YtppefchjoodgnaaGreatPQ31
import Derived.Test.YtppefchjoodgnaaGreatPQ13
import Derived.Shelf.Sort.Plain
import Derived.Shelf.Slices.In.SortNone
import Derived.Shelf.Slices.CompactI
import Derived.Test.YtppefchjoodgnaaGreatProg
import Derived.Test.YtppefchjoodgnaaGreatPQ16
import Derived.Lib.OwnBridge
import Derived.Sort.OwnSorted
set_option linter.unusedSimpArgs false
set_option linter.unusedVariables false
namespace Go.Proofs.YtppefchjoodgnaaGreat
open Go.RowKit
structure RS.Good (σ:RS):Prop where
 ok:σ.Ok
 slots:SlotsOk σ.V
 dr:U64s σ.dr
 drl:σ.dr.length≤1000000
 calls:σ.calls.length≤1000000
 len:σ.L.length≤512
 steps:0≤σ.steps∧σ.steps≤1000000
 ins:InsOk σ.L
def DoesA (F0 Z0:List Nat)(wf:World)(base mb:Nat)(r:RS×Int×Int)(e:Ending)(w':World):Prop:=e=.returned (.tuple #[.int .i64 r.2.1,.int .i64 r.2.2])∧MRel F0 Z0 wf base w' mb r.1
section
variable {F0 Z0:List Nat} {wf w w':World} {base mb:Nat} {σ:RS} {l:RLay}
theorem MRel.over (h:MRel F0 Z0 wf base w mb σ)(b:Bool):MRel F0 Z0 wf base (w.setCell ⟨mb,28,none⟩ (.bool b)) mb {σ with over:=b}:=h.cell1 28 _ (fun l=>rfl)
set_option maxRecDepth 20000 in
set_option maxHeartbeats 8000000 in
theorem m_does (x:Ins)(k:Wh)(p:Nat)(y:Option Ins)(h:MRel F0 Z0 wf base w mb σ)(hg:σ.Good)(hx:x.Ok)(hk:KindOk x k)(hp:σ.place=p)(hL:σ.L[p]?=some x)(hy:k.kind=3→∃ y,σ.L[p+1]?=some y):
  Calls Tryz.prog 60 #[.pointer (some ⟨mb,0,none⟩),x.agg,k.agg] w (DoesA F0 Z0 wf base mb (σ.does x k)):=by
 obtain⟨op,dst,src,off,imm⟩:=x
 obtain⟨kind,kop,wide,reg,sg,size⟩:=k
 have hdst:0≤dst:=hx.dst.1
 obtain⟨t,rfl⟩:∃ d:Nat,dst=d:=⟨dst.toNat,by omega⟩
 have htt:t≤10:=by have:=hk.dst;simp at this;omega
 have hsrc:0≤src:=hx.src.1
 obtain⟨s,rfl⟩:∃ d:Nat,src=d:=⟨src.toNat,by omega⟩
 have HX:=η hx
 have HK:=η hk
 have HM:=η h
 have HG:=η hg
 have HLX:=η hL
 have HY:=η hy
 have hk12:kind=1∨kind=2∨kind=3∨kind=4∨kind=5∨kind=6∨kind=7∨kind=8∨kind=9∨kind=10∨kind=11∨kind=12:=by have:=hk.rng;simp only at this;omega
 have hpt:σ.place.toNat=p:=by omega
 obtain⟨res,hres⟩:∃ r,RS.does σ ⟨op,t,s,off,imm⟩ ⟨kind,kop,wide,reg,sg,size⟩=r:=⟨_,rfl⟩
 rw[hres]
 have HRES:=η hres
 have HPT:=η hpt
 have HP:=η hp
 have hlt:=h.lt
 have hd1:(t:Int)≤10:=by omega
 have hd2:0≤(t:Int):=by omega
 have hd3:(t:Int) < 11:=by omega
 have HPL:Hid (p < σ.L.length):=η (List.getElem?_eq_some_iff.1 hL).1
 clear hx hk hres hpt h hg hL hy
 obtain⟨h0,hl,l,g1,g2,g3⟩:=HM.out
 obtain⟨la,ln,lc,hlv,hln,hLN⟩:=g1.code.val
 have hcd:=g1.code
 have hc0:=g1.cell 0 rfl
 have hc27:=g1.cell 27 rfl
 rw[hlv]at hcd hc0
 rw[hp]at hc27
 have HCD:=η hcd
 have HC0:=η hc0
 have HC27:=η hc27
 have HAT:=η g1
 have HLEN:Hid (σ.L.length≤1000000):=η (Nat.le_trans HG.out.len (by decide))
 clear h0 hl g1 g2 g3 hlv hcd hp
 go_enter Tryz.func60,Tryz.ntmps60
 go_upto_region 1 with fail
 go_cut [8] from 15 to 24 (fun v wx=>v=.int .i64 ((zT ⟨op,t,s,off,imm⟩ p:Nat):Int)∧Hid (Ext w wx∧wx.heap[w.heap.size]?=some (zQ ⟨op,t,s,off,imm⟩)∧wx.heap[w.heap.size+1]?=some (zF ⟨kind,kop,wide,reg,sg,size⟩)))
 case first =>
  have hE2:Ext w ((w.alloc (zQ ⟨op,t,s,off,imm⟩)).alloc (zF ⟨kind,kop,wide,reg,sg,size⟩)):=by (repeat (first|exact xE0 _|assumption|refine xE1 ?_ _|refine xE2 ?_|refine xE3 ?_ _|refine xE4 ?_ (by assumption)))
  have z0:=Grow.cell (hE2.cellOf hc0)
  have z1:=Grow.cell (hE2.cellOf hc27)
  have HO1:Hid (((w.alloc (zQ ⟨op,t,s,off,imm⟩)).alloc (zF ⟨kind,kop,wide,reg,sg,size⟩)).heap[w.heap.size]?=some (zQ ⟨op,t,s,off,imm⟩)):=η (zB _ (zD w _ rfl))
  have HO3:Hid (((w.alloc (zQ ⟨op,t,s,off,imm⟩)).alloc (zF ⟨kind,kop,wide,reg,sg,size⟩)).heap[w.heap.size+1]?=some (zF ⟨kind,kop,wide,reg,sg,size⟩)):=η (zD _ _ (by simp))
  have HE2:=η hE2
  clear hc0 hc27 hE2
  (refine yE (by kernel_rfl) (by kernel_rfl) ?_;(repeat (go_big_quiet_step ((go_at_call 44;exact Calls.grow (r_Next _ σ.L p _ _ (HCD.out.ext (HE2.out.trans' (Grow.ext _))) HLEN.out HLX.out)))));refine wpQuiet_nil ?_;rintro wz ⟨nz,hz⟩;have hwq:=nz.ext;rw[← hz]at hwq;clear hz)
  go_wp2_with fail
  go_meet
  exact⟨rfl,η ⟨HE2.out.trans' hwq,hwq.obj HO1.out,hwq.obj HO3.out⟩⟩
 case rest =>
  obtain⟨rfl,HC⟩:=hcut
  obtain⟨hE1,b0,b1⟩:=HC.out
  have HE1:=η hE1
  have HO1:=η b0
  have HO3:=η b1
  have HM1:=η (HM.out.go hE1)
  have HAT1:=η (HAT.out.ext hE1)
  have hc0':=hE1.cellOf hc0
  have hc27':=hE1.cellOf hc27
  have c1:wc.cell? ⟨mb,1+t,none⟩=some (.int .u64 (σ.R t)):=HAT1.out.cell _ (qM σ l htt)
  have c2:wc.cell? ⟨mb,12+t,none⟩=some (.bool (σ.S t)):=HAT1.out.cell _ (jT σ l htt)
  clear hE1 b0 b1 HC HM hc0 hc27
  obtain⟨N,hN⟩:∃ N,zT ⟨op,t,s,off,imm⟩ p=N:=⟨_,rfl⟩
  have HN:=η hN
  rw[hN]
  clear hN
  rcases hk12 with rfl|rfl|rfl|rfl|rfl|rfl|rfl|rfl|rfl|rfl|rfl|rfl
  ·obtain rfl:res=((σ.arith ⟨op,t,s,off,imm⟩ ⟨1,kop,wide,reg,sg,size⟩).1,(N:Int),(σ.arith ⟨op,t,s,off,imm⟩ ⟨1,kop,wide,reg,sg,size⟩).2):=by rw[← HRES.out];simp only[RS.does,HPT.out,HN.out];simp
   (have o1:=HO1.out;have o3:=HO3.out;obtain⟨a0,a1,a2,a3,a4⟩:=κ5 o1;obtain⟨q0,q1,q2,q3,q4,q5⟩:=κ6 o3;clear o1 o3)
   go_wp2_with fail
   refine(m_arith ⟨op,t,s,off,imm⟩ ⟨1,kop,wide,reg,sg,size⟩ HM1.out HG.out.ok HX.out HK.out rfl).mono ?_
   rintro e w3 ⟨rfl,hM⟩
   go_wp2_with fail
   go_returns
   exact⟨rfl,hM⟩
  ·have HSZ:=η (HK.out.k2 rfl)
   have HRt:=η (HG.out.ok t htt)
   have hw8:wrap64 (8 * size)=8 * size:=by have:=HSZ.out;unfold wrap64;rcases this with e|e|e<;>(simp only at e;subst e;decide)
   have HSW:=η (fun W=>(r_swap wide (8 * size) (σ.R t) W (by have:=HSZ.out;simp only at this;omega) HRt.out.1 HRt.out.2).mono (R':=fun e w'=>e=.returned (.tuple #[.int .u64 (kM wide (8 * size) (σ.R t)),.int .i64 0])∧Ext W w') (fun e w' h=>⟨h.1,by rw[h.2];exact Ext.rfl' _⟩))
   cases hs:σ.S t
   all_goals
    rw[hs]at c2
    have HS:=η hs
    clear hs
    (have o1:=HO1.out;have o3:=HO3.out;obtain⟨a0,a1,a2,a3,a4⟩:=κ5 o1;obtain⟨q0,q1,q2,q3,q4,q5⟩:=κ6 o3;clear o1 o3)
    go_wp2_with fail
    go_quiet (fail)
    go_wp2_with fail
   ·go_returns
    obtain rfl:res=(σ,0,110):=by rw[← HRES.out];simp only[RS.does,HPT.out,HN.out,Int.toNat_natCast];simp[HS.out]
    exact⟨rfl,HM1.out.go (by (repeat (first|exact xE0 _|assumption|refine xE1 ?_ _|refine xE2 ?_|refine xE3 ?_ _|refine xE4 ?_ (by assumption))))⟩
   ·obtain rfl:res=(σ.setR t (kM wide (8 * size) (σ.R t)),(N:Int),0):=by rw[← HRES.out];simp only[RS.does,HPT.out,HN.out,Int.toNat_natCast];simp[HS.out]
    go_upto_region 8 with fail
    have a1g:=Grow.cell (W:=_) (show (World.drewN wc nq).cell? _=_ from a1)
    have q2g:=Grow.cell (W:=_) (show (World.drewN wc nq).cell? _=_ from q2)
    have q5g:=Grow.cell (W:=_) (show (World.drewN wc nq).cell? _=_ from q5)
    have c1g:=Grow.cell (W:=_) (show (World.drewN wc nq).cell? _=_ from c1)
    clear hc0' hc27' c1 c2 a0 a1 a2 a3 a4 q0 q1 q2 q3 q4 q5
    (refine yE (by kernel_rfl) (by kernel_rfl) ?_;(repeat (go_big_quiet_step ((go_at_call 100;exact Calls.grow (HSW.out _)))));refine wpQuiet_nil ?_;rintro wz ⟨nz,hz⟩;have hwq:=nz.ext;rw[← hz]at hwq;clear hz)
    have y1:=a1g ⟨wz,hwq⟩
    clear a1g q2g q5g c1g
    go_wp2_with fail
    refine(tA (HM1.out.go (by (repeat (first|exact xE0 _|assumption|refine xE1 ?_ _|refine xE2 ?_|refine xE3 ?_ _|refine xE4 ?_ (by assumption))))) t htt _).mono ?_
    rintro e w3 ⟨rfl,hM⟩
    go_wp2_with fail
    go_returns
    exact⟨rfl,hM⟩
  ·obtain⟨yy,hyy⟩:=HY.out rfl
   have HYY:=η hyy
   have HYO:=η (HG.out.ins.at hyy)
   obtain rfl:res=(σ.setR t (longN ⟨op,t,s,off,imm⟩ yy),(N:Int),0):=by rw[← HRES.out];simp only[RS.does,HPT.out,HN.out,Int.toNat_natCast];simp[hyy]
   have hcd1:=HCD.out.ext HE1.out
   obtain⟨e0,e1,e2,e3,e4⟩:=yQ hcd1 hyy
   have hpl2:p+1 < ln:=by rw[hLN.out];exact(List.getElem?_eq_some_iff.1 hyy).1
   have hln2:ln≤1000000:=by rw[hLN.out];exact HLEN.out
   have ix:=fun W=>hcd1.run_at (P:=Tryz.prog) el_ins.under el_ins.size .i64 ((p:Int)+1) (by omega) (by omega) W
   simp only[show ((p:Int)+1).toNat=p+1 by omega]at ix
   have hw1:wrap64 ((p:Int)+1)=((p+1:Nat):Int):=by unfold wrap64;omega
   have HLG:=η (fun W=>r_Long ⟨op,t,s,off,imm⟩ yy W HX.out HYO.out)
   clear hcd1 hyy
   (have o1:=HO1.out;have o3:=HO3.out;obtain⟨a0,a1,a2,a3,a4⟩:=κ5 o1;obtain⟨q0,q1,q2,q3,q4,q5⟩:=κ6 o3;clear o1 o3)
   go_upto_region 11 with fail
   have z0:=Grow.cell hc0'
   have z1:=Grow.cell hc27'
   have f0:=Grow.cell e0
   have f1:=Grow.cell e1
   have f2:=Grow.cell e2
   have f3:=Grow.cell e3
   have f4:=Grow.cell e4
   (have a0g:=Grow.cell a0;have a1g:=Grow.cell a1;have a2g:=Grow.cell a2;have a3g:=Grow.cell a3;have a4g:=Grow.cell a4;have q0g:=Grow.cell q0;have q1g:=Grow.cell q1;have q2g:=Grow.cell q2;have q3g:=Grow.cell q3;have q4g:=Grow.cell q4;have q5g:=Grow.cell q5;clear a0 a1 a2 a3 a4 q0 q1 q2 q3 q4 q5)
   clear hc0' hc27' c1 c2 e0 e1 e2 e3 e4
   (refine zR 17 (by kernel_rfl) (by kernel_rfl) ?_;simp only[List.take_succ_cons,List.take_zero];(repeat (go_big_quiet_step ((go_at_call 101;exact Calls.grow (HLG.out _)))));refine wpQuiet_nil ?_;rintro wz ⟨nz,hz⟩;have hwq:=nz.ext;rw[← hz]at hwq;simp only[List.drop_succ_cons,List.drop_zero];clear hz)
   go_wp2_with fail
   refine(tA (HM1.out.go hwq) t htt _).mono ?_
   rintro e w3 ⟨rfl,hM⟩
   go_wp2_with fail
   go_returns
   exact⟨rfl,hM⟩
  ·obtain⟨da,dn,dc,hdv,hdn,hDN⟩:=HAT1.out.defs.val
   have hc25:=HAT1.out.cell 25 rfl
   rw[hdv]at hc25
   have HI:=η (HK.out.k4 rfl)
   have hi0:0≤imm:=HI.out
   have hxi:=HX.out.imm
   simp only at hxi
   have hwi:wrap64 imm=imm:=by unfold wrap64;omega
   have hxi2:imm≤2147483647:=hxi.2
   clear hdv hxi
   have HWD:=η (fun W=>(m_Word imm.toNat W (by omega)).mono (R':=fun e w'=>e=.returned (.int .u64 (12884901888+imm))∧Ext W w') (fun e w' h=>⟨by rw[h.1,Int.toNat_of_nonneg hi0],by rw[h.2];exact Ext.rfl' _⟩))
   rw[Int.toNat_of_nonneg hi0]at HWD
   by_cases hge:(dn:Int)≤imm
   all_goals
    (have o1:=HO1.out;have o3:=HO3.out;obtain⟨a0,a1,a2,a3,a4⟩:=κ5 o1;obtain⟨q0,q1,q2,q3,q4,q5⟩:=κ6 o3;clear o1 o3)
    go_wp2_with fail
    go_quiet (fail)
    go_wp2_with fail
   ·go_returns
    obtain rfl:res=(σ,0,113):=by rw[← HRES.out];simp only[RS.does,HPT.out,HN.out,Int.toNat_natCast];simp;have:=hDN.out;omega
    exact⟨rfl,HM1.out.go (by (repeat (first|exact xE0 _|assumption|refine xE1 ?_ _|refine xE2 ?_|refine xE3 ?_ _|refine xE4 ?_ (by assumption))))⟩
   ·obtain rfl:res=(σ.setR t (12884901888+imm),(N:Int),0):=by rw[← HRES.out];simp only[RS.does,HPT.out,HN.out,Int.toNat_natCast];have:=hDN.out;simp;omega
    go_upto_region 15 with fail
    have a1g:=Grow.cell (W:=_) (show (World.drewN wc nq).cell? _=_ from a1)
    have a4g:=Grow.cell (W:=_) (show (World.drewN wc nq).cell? _=_ from a4)
    clear hc0' hc27' hc25 c1 c2 a0 a1 a2 a3 a4 q0 q1 q2 q3 q4 q5
    (refine zR 8 (by kernel_rfl) (by kernel_rfl) ?_;simp only[List.take_succ_cons,List.take_zero];(repeat (go_big_quiet_step ((go_at_call 102;exact Calls.grow (HWD.out _)))));refine wpQuiet_nil ?_;rintro wz ⟨nz,hz⟩;have hwq:=nz.ext;rw[← hz]at hwq;simp only[List.drop_succ_cons,List.drop_zero];clear hz)
    go_wp2_with fail
    refine(tA (HM1.out.go (by (repeat (first|exact xE0 _|assumption|refine xE1 ?_ _|refine xE2 ?_|refine xE3 ?_ _|refine xE4 ?_ (by assumption))))) t htt _).mono ?_
    rintro e w3 ⟨rfl,hM⟩
    go_wp2_with fail
    go_returns
    exact⟨rfl,hM⟩
  ·obtain rfl:res=((σ.load ⟨op,t,s,off,imm⟩ ⟨5,kop,wide,reg,sg,size⟩).1,(N:Int),(σ.load ⟨op,t,s,off,imm⟩ ⟨5,kop,wide,reg,sg,size⟩).2):=by rw[← HRES.out];simp only[RS.does,HPT.out,HN.out];simp
   (have o1:=HO1.out;have o3:=HO3.out;obtain⟨a0,a1,a2,a3,a4⟩:=κ5 o1;obtain⟨q0,q1,q2,q3,q4,q5⟩:=κ6 o3;clear o1 o3)
   go_wp2_with fail
   refine(m_load ⟨op,t,s,off,imm⟩ ⟨5,kop,wide,reg,sg,size⟩ HM1.out HX.out HK.out rfl).mono ?_
   rintro e w3 ⟨rfl,hM⟩
   go_wp2_with fail
   go_returns
   exact⟨rfl,hM⟩
  ·obtain rfl:res=((σ.store ⟨op,t,s,off,imm⟩ ⟨6,kop,wide,reg,sg,size⟩).1,(N:Int),(σ.store ⟨op,t,s,off,imm⟩ ⟨6,kop,wide,reg,sg,size⟩).2):=by rw[← HRES.out];simp only[RS.does,HPT.out,HN.out];simp
   (have o1:=HO1.out;have o3:=HO3.out;obtain⟨a0,a1,a2,a3,a4⟩:=κ5 o1;obtain⟨q0,q1,q2,q3,q4,q5⟩:=κ6 o3;clear o1 o3)
   go_wp2_with fail
   refine(m_store ⟨op,t,s,off,imm⟩ ⟨6,kop,wide,reg,sg,size⟩ HM1.out HG.out.ok HX.out HK.out (.inl rfl)).mono ?_
   rintro e w3 ⟨rfl,hM⟩
   go_wp2_with fail
   go_returns
   exact⟨rfl,hM⟩
  ·obtain rfl:res=((σ.store ⟨op,t,s,off,imm⟩ ⟨7,kop,wide,reg,sg,size⟩).1,(N:Int),(σ.store ⟨op,t,s,off,imm⟩ ⟨7,kop,wide,reg,sg,size⟩).2):=by rw[← HRES.out];simp only[RS.does,HPT.out,HN.out];simp
   (have o1:=HO1.out;have o3:=HO3.out;obtain⟨a0,a1,a2,a3,a4⟩:=κ5 o1;obtain⟨q0,q1,q2,q3,q4,q5⟩:=κ6 o3;clear o1 o3)
   go_wp2_with fail
   refine(m_store ⟨op,t,s,off,imm⟩ ⟨7,kop,wide,reg,sg,size⟩ HM1.out HG.out.ok HX.out HK.out (.inr (.inl rfl))).mono ?_
   rintro e w3 ⟨rfl,hM⟩
   go_wp2_with fail
   go_returns
   exact⟨rfl,hM⟩
  ·obtain rfl:res=((σ.store ⟨op,t,s,off,imm⟩ ⟨8,kop,wide,reg,sg,size⟩).1,(N:Int),(σ.store ⟨op,t,s,off,imm⟩ ⟨8,kop,wide,reg,sg,size⟩).2):=by rw[← HRES.out];simp only[RS.does,HPT.out,HN.out];simp
   (have o1:=HO1.out;have o3:=HO3.out;obtain⟨a0,a1,a2,a3,a4⟩:=κ5 o1;obtain⟨q0,q1,q2,q3,q4,q5⟩:=κ6 o3;clear o1 o3)
   go_wp2_with fail
   refine(m_store ⟨op,t,s,off,imm⟩ ⟨8,kop,wide,reg,sg,size⟩ HM1.out HG.out.ok HX.out HK.out (.inr (.inr rfl))).mono ?_
   rintro e w3 ⟨rfl,hM⟩
   go_wp2_with fail
   go_returns
   exact⟨rfl,hM⟩
  ·obtain rfl:res=(σ,(yT σ.L ⟨op,t,s,off,imm⟩ p).getD 0,0):=by rw[← HRES.out];simp only[RS.does,HPT.out,HN.out];simp
   (have o1:=HO1.out;have o3:=HO3.out;obtain⟨a0,a1,a2,a3,a4⟩:=κ5 o1;obtain⟨q0,q1,q2,q3,q4,q5⟩:=κ6 o3;clear o1 o3)
   go_upto_region 23 with fail
   have z0:=Grow.cell hc0'
   have z1:=Grow.cell hc27'
   clear hc0' hc27' c1 c2 a0 a1 a2 a3 a4 q0 q1 q2 q3 q4 q5
   (refine yE (by kernel_rfl) (by kernel_rfl) ?_;(repeat (go_big_quiet_step ((go_at_call 105;exact Calls.grow (r_Target _ σ.L p _ _ (HCD.out.ext (HE1.out.trans' (Grow.ext _))) HLEN.out HLX.out HX.out)))));refine wpQuiet_nil ?_;rintro wz ⟨nz,hz⟩;have hwq:=nz.ext;rw[← hz]at hwq;clear hz)
   go_wp2_with fail
   go_returns
   exact⟨rfl,HM1.out.go hwq⟩
  ·have HCO:=η (HK.out.k10 rfl)
   have HRt:=η (HG.out.ok t htt)
   have HB:=η (qX HG.out.ok ⟨op,t,s,off,imm⟩ ⟨10,kop,wide,reg,sg,size⟩ HK.out.src)
   have HSEC:=η (fun W (he:Ext wc W)=>m_second ⟨op,t,s,off,imm⟩ ⟨10,kop,wide,reg,sg,size⟩ (HM1.out.go he) HX.out HK.out.src)
   obtain⟨b,ok,hb⟩:∃ b ok,σ.second ⟨op,t,s,off,imm⟩ ⟨10,kop,wide,reg,sg,size⟩=(b,ok):=⟨_,_,rfl⟩
   rw[hb]at HSEC HB
   have HR:Hid (res=if ok=false∨σ.S t=false then (σ,0,110) else (σ,(if uE kop wide (σ.R t) b=true then (yT σ.L ⟨op,t,s,off,imm⟩ p).getD 0 else (N:Int)),0)):=η (by rw[← HRES.out];simp only[RS.does,HPT.out,HN.out,Int.toNat_natCast,hb];simp)
   have HIS:=η (fun W=>r_is kop wide (σ.R t) b W HCO.out HRt.out.1 HRt.out.2 HB.out.1 HB.out.2)
   have HTG:=η (fun W (he:Ext w W)=>r_Target _ σ.L p _ W (HCD.out.ext he) HLEN.out HLX.out HX.out)
   clear hb HRES
   (have o1:=HO1.out;have o3:=HO3.out;obtain⟨a0,a1,a2,a3,a4⟩:=κ5 o1;obtain⟨q0,q1,q2,q3,q4,q5⟩:=κ6 o3;clear o1 o3)
   go_wp2_with fail
   refine(HSEC.out _ (Ext.rfl' _)).mono ?_
   rintro e w2 ⟨rfl,hE2⟩
   have HE2:=η hE2
   have k0:=hE2.cellOf hc0'
   have k27:=hE2.cellOf hc27'
   have d1:=hE2.cellOf c1
   have d2:=hE2.cellOf c2
   have HO1':=η (hE2.obj HO1.out)
   have HO3':=η (hE2.obj HO3.out)
   have hz2:=hE2.size
   clear hE2 hc0' hc27' c1 c2 a0 a1 a2 a3 a4 q0 q1 q2 q3 q4 q5 HO1 HO3
   have HO1:=HO1'
   have HO3:=HO3'
   clear HO1' HO3'
   (have o1:=HO1.out;have o3:=HO3.out;obtain⟨a0,a1,a2,a3,a4⟩:=κ5 o1;obtain⟨q0,q1,q2,q3,q4,q5⟩:=κ6 o3;clear o1 o3)
   cases hok:ok<;>cases hs:σ.S t
   all_goals
    rw[hok,hs]at HR
    rw[hs]at d2
    first
    | (have hr:=HR.out
       simp only[true_or,or_true,if_true]at hr
       subst hr
       go_wp2_with fail
       go_quiet (fail)
       go_wp2_with fail
       go_returns
       exact⟨rfl,HM1.out.go (HE2.out.trans' (by (repeat (first|exact xE0 _|assumption|refine xE1 ?_ _|refine xE2 ?_|refine xE3 ?_ _|refine xE4 ?_ (by assumption)))))⟩)
    | skip
   have hr:=HR.out
   simp only[Bool.true_eq_false,or_self,if_false]at hr
   have HR2:=η hr
   clear hr HR
   go_upto_region 26 with fail
   go_cut [155] from 144 to 156 (fun v wx=>v=.bool false∧∃ n,wx=w2.drewN n)
   case first =>
    go_quiet (fail)
    go_wp2_with fail
    go_meet
    exact⟨rfl,_,rfl⟩
   case rest =>
    obtain⟨rfl,nq,rfl⟩:=hcut
    go_upto_region 28 with fail
    go_cut [13] from 156 to 172 (fun v wx=>v=.bool (uE kop wide (σ.R t) b)∧Hid (Ext w2 wx))
    case first =>
     have x1:=Grow.cell (W:=w2.drewN nq) (show (w2.drewN nq).cell? _=_ from a1)
     have x2:=Grow.cell (W:=w2.drewN nq) (show (w2.drewN nq).cell? _=_ from q1)
     have x3:=Grow.cell (W:=w2.drewN nq) (show (w2.drewN nq).cell? _=_ from q2)
     have x4:=Grow.cell (W:=w2.drewN nq) (show (w2.drewN nq).cell? _=_ from d1)
     clear a0 a1 a2 a3 a4 q0 q1 q2 q3 q4 q5 d1 d2 k0 k27
     (refine yE (by kernel_rfl) (by kernel_rfl) ?_;(repeat (go_big_quiet_step ((go_at_call 107;exact Calls.grow (HIS.out _)))));refine wpQuiet_nil ?_;rintro wz ⟨nz,hz⟩;have hwq:=nz.ext;rw[← hz]at hwq;clear hz)
     go_wp2_with fail
     go_meet
     exact⟨rfl,η (((Ext.rfl' _).drewN' _).trans' hwq)⟩
    case rest =>
     obtain⟨rfl,HE3⟩:=hcut
     have j0:=HE3.out.cellOf k0
     have j27:=HE3.out.cellOf k27
     clear a0 a1 a2 a3 a4 q0 q1 q2 q3 q4 q5 d1 d2 k0 k27
     cases hc:uE kop wide (σ.R t) b
     ·have hr:=HR2.out
      simp only[hc,Bool.false_eq_true,if_false]at hr
      subst hr
      go_wp2_with fail
      go_returns
      exact⟨rfl,HM1.out.go (HE2.out.trans' HE3.out)⟩
     ·have hr:=HR2.out
      simp only[hc,if_true]at hr
      subst hr
      go_upto_region 30 with fail
      have z0:=Grow.cell j0
      have z1:=Grow.cell j27
      clear j0 j27
      (refine yE (by kernel_rfl) (by kernel_rfl) ?_;(repeat (go_big_quiet_step ((go_at_call 105;exact Calls.grow (HTG.out _ (HE1.out.trans' (HE2.out.trans' (HE3.out.trans' (Grow.ext _)))))))));refine wpQuiet_nil ?_;rintro wz ⟨nz,hz⟩;have hwq:=nz.ext;rw[← hz]at hwq;clear hz)
      go_wp2_with fail
      go_returns
      exact⟨rfl,HM1.out.go (HE2.out.trans' (HE3.out.trans' hwq))⟩
  ·obtain rfl:res=((σ.call ⟨op,t,s,off,imm⟩).1,(N:Int),(σ.call ⟨op,t,s,off,imm⟩).2):=by rw[← HRES.out];simp only[RS.does,HPT.out,HN.out];simp
   (have o1:=HO1.out;have o3:=HO3.out;obtain⟨a0,a1,a2,a3,a4⟩:=κ5 o1;obtain⟨q0,q1,q2,q3,q4,q5⟩:=κ6 o3;clear o1 o3)
   go_wp2_with fail
   refine(m_call ⟨op,t,s,off,imm⟩ HM1.out HG.out.ok HG.out.slots HG.out.dr HG.out.drl HG.out.calls HX.out).mono ?_
   rintro e w3 ⟨rfl,hM⟩
   go_wp2_with fail
   go_returns
   exact⟨rfl,hM⟩
  ·have hc12:wc.cell? ⟨mb,12,none⟩=some (.bool (σ.S 0)):=HAT1.out.cell 12 rfl
   have hc28:=HAT1.out.cell 28 rfl
   have hmf:=fun i=>zA (i:=i) HAT1.out.head
   cases hs:σ.S 0
   all_goals
    rw[hs]at hc12
    have HS:=η hs
    clear hs
    (have o1:=HO1.out;have o3:=HO3.out;obtain⟨a0,a1,a2,a3,a4⟩:=κ5 o1;obtain⟨q0,q1,q2,q3,q4,q5⟩:=κ6 o3;clear o1 o3)
    go_wp2_with fail
    go_returns
   ·obtain rfl:res=(σ,0,110):=by rw[← HRES.out];simp only[RS.does,HPT.out,HN.out,Int.toNat_natCast];simp[HS.out]
    exact⟨rfl,HM1.out⟩
   ·obtain rfl:res=({σ with over:=true},(p:Int),0):=by rw[← HRES.out];simp only[RS.does,HP.out];simp[HS.out]
    exact⟨rfl,HM1.out.over true⟩
end
section
variable {F0 Z0:List Nat} {wf w w':World} {base mb:Nat} {σ:RS} {l:RLay}
theorem jR {c:Prop}[Decidable c]{a b:RS×Int×Int}{n:Int}(ha:a.1.steps=n)(hb:b.1.steps=n):(if c then a else b).1.steps=n:=by split<;>assumption
theorem jS {c:Prop}[Decidable c]{a b:RS×Int}{n:Int}(ha:a.1.steps=n)(hb:b.1.steps=n):(if c then a else b).1.steps=n:=by split<;>assumption
theorem kB (x:Ins)(k:Wh):(σ.does x k).1.steps=σ.steps:=by
 unfold RS.does
 refine jR (jS rfl rfl) (jR (jR rfl rfl) (jR ?_ (jR (jR rfl rfl) (jR (jS rfl (jS rfl rfl)) (jR (jS rfl (jS (jS rfl rfl) rfl)) (jR rfl (jR (jR rfl rfl) (jR (jS rfl (jS rfl (jS (jS rfl rfl) (jS rfl rfl)))) (jR (jR rfl rfl) rfl)))))))))
 cases σ.L[σ.place.toNat+1]?<;>rfl
structure RS.On (σ:RS)(p:Nat)(x:Ins):Prop where
 place:σ.place=p
 code:σ.L[p]?=some x
 ok:x.Ok
 kind:KindOk x (zL x)
 long:(zL x).kind=3→∃ y,σ.L[p+1]?=some y
set_option maxRecDepth 20000 in
set_option maxHeartbeats 4000000 in
theorem m_Step (h:MRel F0 Z0 wf base w mb σ)(hg:σ.Good)(ho:σ.over=false→∃ p x,σ.On p x):
  Calls Tryz.prog 30 #[.pointer (some ⟨mb,0,none⟩)] w (MAns F0 Z0 wf base mb σ.step.1 (.int .i64 σ.step.2)):=by
 have HM:=η h
 have HG:=η hg
 have hlt:=h.lt
 obtain⟨res,hres⟩:∃ r,RS.step σ=r:=⟨_,rfl⟩
 rw[hres]
 have HRES:=η hres
 clear hres hg
 obtain⟨h0,hl,l,g1,g2,g3⟩:=h
 have HAT:=η g1
 have hc28:=g1.cell 28 rfl
 clear h0 hl g2 g3
 cases hov:σ.over
 case true =>
  rw[hov]at hc28
  have HOV:=η hov
  clear g1 hov ho
  go_enter Tryz.func30,Tryz.ntmps30
  go_wp2_with fail
  go_returns
  obtain rfl:res=(σ,114):=by rw[← HRES.out,RS.step,if_pos HOV.out]
  exact⟨rfl,HM.out⟩
 case false =>
  rw[hov]at hc28
  obtain⟨p,x,hon⟩:=ho hov
  have HOV:=η hov
  have HON:=η hon
  obtain⟨la,ln,lc,hlv,hln,hLN⟩:=g1.code.val
  have hcd:=g1.code
  have hc0:=g1.cell 0 rfl
  have hc27:=g1.cell 27 rfl
  rw[hlv]at hcd hc0
  rw[hon.place]at hc27
  have hpl:p < ln:=by rw[hLN.out];exact(List.getElem?_eq_some_iff.1 hon.code).1
  have hl5:ln≤512:=by rw[hLN.out];exact HG.out.len
  have ix:=fun W=>hcd.run_at (P:=Tryz.prog) el_ins.under el_ins.size .i64 (p:Int) (by omega) (by omega) W
  simp only[Int.toNat_natCast]at ix
  have hpt:σ.place.toNat=p:=by have:=hon.place;omega
  have HR:Hid (res=if (σ.does x (zL x)).2.2≠0 then ({(σ.does x (zL x)).1 with over:=true,code:=(σ.does x (zL x)).2.2},(σ.does x (zL x)).2.2) else ({(σ.does x (zL x)).1 with place:=(σ.does x (zL x)).2.1,steps:=(σ.does x (zL x)).1.steps+1},0)):=η (by
   rw[← HRES.out,RS.step,if_neg (by rw[hov];decide),hpt,hon.code])
  have HST:=η (kB (σ:=σ) x (zL x))
  obtain⟨σ1,nx,er,hd⟩:∃ a b c,σ.does x (zL x)=(a,b,c):=⟨_,_,_,rfl⟩
  have HDO:=η (fun W (he:Ext w W)=>m_does x (zL x) p none (HM.out.go he) HG.out HON.out.ok HON.out.kind HON.out.place HON.out.code HON.out.long)
  rw[hd]at HR HST HDO
  have HWH:=η (fun W=>r_What x W HON.out.ok)
  have HSS:Hid (∀ w',Ext w w'→w'.cell? ⟨mb,0,none⟩=some (.slice la ln lc)∧w'.cell? ⟨mb,27,none⟩=some (.int .i64 (p:Int))∧w'.cell? (elt (.slice la ln lc) (p * 5))=some (.int .u8 x.op)∧w'.cell? ⟨(elt (.slice la ln lc) (p * 5)).block,(elt (.slice la ln lc) (p * 5)).off+1,none⟩=some (.int .u8 x.dst)∧w'.cell? ⟨(elt (.slice la ln lc) (p * 5)).block,(elt (.slice la ln lc) (p * 5)).off+2,none⟩=some (.int .u8 x.src)∧w'.cell? ⟨(elt (.slice la ln lc) (p * 5)).block,(elt (.slice la ln lc) (p * 5)).off+3,none⟩=some (.int .i16 x.off)∧w'.cell? ⟨(elt (.slice la ln lc) (p * 5)).block,(elt (.slice la ln lc) (p * 5)).off+4,none⟩=some (.int .i32 x.imm)):=η (fun w' he=>by
   obtain⟨e0,e1,e2,e3,e4⟩:=yQ (hcd.ext he) hon.code
   exact⟨he.cellOf hc0,he.cellOf hc27,e0,e1,e2,e3,e4⟩)
  clear g1 hov ho hon hlv hcd hpt hd hc0 hc27
  go_enter Tryz.func30,Tryz.ntmps30
  go_upto_region 3 with fail
  go_cut [3] from 12 to 22 (fun v wx=>∃ q,v=.pointer (some ⟨q,0,none⟩)∧Hid (w.heap.size≤q∧Ext w wx∧wx.heap[q]?=some (zQ x)))
  case first =>
   obtain⟨i0,i1,i2,i3,i4,i5,i6⟩:=HSS.out w (Ext.rfl' _)
   go_region_held3 (fun w'=>w'.cell? ⟨mb,0,none⟩=some (.slice la ln lc)∧w'.cell? ⟨mb,27,none⟩=some (.int .i64 (p:Int))∧w'.cell? (elt (.slice la ln lc) (p * 5))=some (.int .u8 x.op)∧w'.cell? ⟨(elt (.slice la ln lc) (p * 5)).block,(elt (.slice la ln lc) (p * 5)).off+1,none⟩=some (.int .u8 x.dst)∧w'.cell? ⟨(elt (.slice la ln lc) (p * 5)).block,(elt (.slice la ln lc) (p * 5)).off+2,none⟩=some (.int .u8 x.src)∧w'.cell? ⟨(elt (.slice la ln lc) (p * 5)).block,(elt (.slice la ln lc) (p * 5)).off+3,none⟩=some (.int .i16 x.off)∧w'.cell? ⟨(elt (.slice la ln lc) (p * 5)).block,(elt (.slice la ln lc) (p * 5)).off+4,none⟩=some (.int .i32 x.imm))
    ((refine HSS.out _ ?_;(repeat (first|exact xE0 _|assumption|refine xE1 ?_ _|refine xE2 ?_|refine xE3 ?_ _|refine Below.setCell ?_ (by first|(simp;done)|(simp;omega)|omega) _|refine Ext.trans' ?_ (by assumption)))))
    (fail)
   all_goals
    go_wp2_with fail
    go_meet
    exact⟨_,rfl,η ⟨Nat.le_refl _,by (repeat (first|exact xE0 _|assumption|refine xE1 ?_ _|refine xE2 ?_|refine xE3 ?_ _|refine Below.setCell ?_ (by first|(simp;done)|(simp;omega)|omega) _|refine Ext.trans' ?_ (by assumption))),zD _ _ rfl⟩⟩
  case rest =>
   obtain⟨q,rfl,HC⟩:=hcut
   obtain⟨hq,hE1,hb⟩:=HC.out
   have HE1:=η hE1
   have HO1:=η hb
   clear hE1 hb HC
   (have o1:=HO1.out;obtain⟨a0,a1,a2,a3,a4⟩:=κ5 o1;clear o1)
   go_upto_region 4 with fail
   go_cut [4] from 22 to 27 (fun v wx=>∃ r,v=.pointer (some ⟨r,0,none⟩)∧Hid (Ext w wx∧wx.heap[q]?=some (zQ x)∧wx.heap[r]?=some (zF (zL x))))
   case first =>
    go_wp2_with fail
    refine(HWH.out _).mono ?_
    rintro e w2 ⟨rfl,hE2⟩
    have HE2:=η hE2
    clear hE2
    go_wp2_with fail
    go_meet
    exact⟨_,rfl,η ⟨HE1.out.trans' (HE2.out.trans' ((Ext.rfl' _).alloc' _)),zB _ (HE2.out.obj HO1.out),zD _ _ rfl⟩⟩
   case rest =>
    obtain⟨r,rfl,HC⟩:=hcut
    obtain⟨hE2,hb,hb2⟩:=HC.out
    have HE2:=η hE2
    have HO1':=η hb
    have HO3:=η hb2
    clear hE2 hb hb2 HC a0 a1 a2 a3 a4 HO1
    have HO1:=HO1'
    clear HO1'
    (have o1:=HO1.out;have o3:=HO3.out;obtain⟨a0,a1,a2,a3,a4⟩:=κ5 o1;obtain⟨q0,q1,q2,q3,q4,q5⟩:=κ6 o3;clear o1 o3)
    go_wp2_with fail
    refine(HDO.out _ HE2.out).mono ?_
    rintro e w3 ⟨rfl,hM3⟩
    have HM3:=η hM3
    obtain⟨h0,hl,l3,g1,g2,g3⟩:=hM3
    have d27:=g1.cell 27 rfl
    have d28:=g1.cell 28 rfl
    have d29:=g1.cell 29 rfl
    have d30:=g1.cell 30 rfl
    have df:=fun i=>zA (i:=i) g1.head
    have hst:σ1.steps=σ.steps:=HST.out
    simp only at d27 d28 d29 d30
    rw[hst]at d30
    have hs0:=HG.out.steps
    have hw1:wrap64 (σ.steps+1)=σ.steps+1:=by unfold wrap64;omega
    clear h0 hl g1 g2 g3 hst a0 a1 a2 a3 a4 q0 q1 q2 q3 q4 q5
    by_cases her:(er != 0)=true
    ·obtain rfl:res=({σ1 with over:=true,code:=er},er):=by rw[HR.out];exact if_pos (by simpa using her)
     go_wp2_with fail
     go_returns
     exact⟨rfl,(HM3.out.cell1 28 (.bool true) (σ':={σ1 with over:=true}) (fun l=>rfl)).cell1 29 (.int .i64 er) (fun l=>rfl)⟩
    ·obtain rfl:er=0:=by simpa using her
     obtain rfl:res=({σ1 with place:=nx,steps:=σ.steps+1},0):=by rw[HR.out];rw[if_neg (by simp)];rw[show σ1.steps=σ.steps from HST.out]
     go_wp2_with fail
     go_returns
     exact⟨rfl,(HM3.out.cell1 27 (.int .i64 nx) (σ':={σ1 with place:=nx}) (fun l=>rfl)).cell1 30 (.int .i64 (σ.steps+1)) (fun l=>rfl)⟩
end
end Go.Proofs.YtppefchjoodgnaaGreat
namespace Go.Proofs
open Go.Shelf
end Go.Proofs
namespace Go.Proofs.YtppefchjoodgnaaGreat
open Go.RowKit
section
open Go.Sort
end
def rawA (L:List Ins)(x:Ins)(k:Nat):List Int:=(if (zL x).kind≠12∧(zL x).kind≠9 then [((zT x k:Nat):Int)] else [])++(yT L x k).toList
def tM (L:List Ins)(x:Ins)(k:Nat):List Int:=Lib.compact ((rawA L x k).mergeSort fun x y=>decide (x≤y))
theorem target_lt {L:List Ins}{x:Ins}{m:Nat}{t:Int}(ht:yT L x m=some t):0≤t∧t < L.length:=by
 unfold yT at ht
 cases h1:toS x m with
 | none=>rw[h1]at ht;cases ht
 | some u =>
  rw[h1]at ht
  simp only[]at ht
  split at ht
  ·injection ht with ht;omega
  ·cases ht
theorem compact1 (a:Int):Lib.compact [a]=[a]:=by
 simp[Lib.compact,Lib.compactUpTo,Lib.keeps,List.range_succ]
theorem compact2 (a b:Int):Lib.compact [a,b]=if a=b then [a] else [a,b]:=by
 by_cases h:a=b
 ·subst h
  simp[Lib.compact,Lib.compactUpTo,Lib.keeps,List.range_succ]
 ·have h':¬ b=a:=fun e=>h e.symm
  simp[Lib.compact,Lib.compactUpTo,Lib.keeps,List.range_succ,h,h']
theorem sort2 (a b:Int):([a,b].mergeSort fun x y=>decide (x≤y))=if a≤b then [a,b] else [b,a]:=by
 by_cases h:a≤b
 ·have:([a,b].mergeSort fun x y=>decide (x≤y))=[a,b]:=List.mergeSort_of_pairwise (by simp[h])
  rw[this,if_pos h]
 ·rw[if_neg h]
  have hp:([a,b].mergeSort fun x y=>decide (x≤y)).Perm [a,b]:=List.mergeSort_perm _ _
  have h2:([a,b].mergeSort fun x y=>decide (x≤y)).Pairwise (fun x y=>decide (x≤y)=true):=List.pairwise_mergeSort (by simp;omega) (by simp;omega) _
  generalize ([a,b].mergeSort fun x y=>decide (x≤y))=l at hp h2
  have hl:=hp.length_eq
  match l,hl with
  | [c,d],_ =>
   have hc:c∈[a,b]:=hp.subset (by simp)
   have hd:d∈[a,b]:=hp.subset (by simp)
   have ha:a∈[c,d]:=hp.symm.subset (by simp)
   have hb:b∈[c,d]:=hp.symm.subset (by simp)
   simp at hc hd ha hb h2
   have h3:c=b∧d=a:=by omega
   rw[h3.1,h3.2]
def two (o:Bool)(a:Int):Option Int→List Int
 | none=>if o then [a] else []
 | some b=>if o then (if a < b then [a,b] else if b < a then [b,a] else [a]) else [b]
theorem compact_sort (o:Bool)(a:Int)(p:Option Int):Lib.compact (((if o then [a] else [])++p.toList).mergeSort fun x y=>decide (x≤y))=two o a p:=by
 cases o<;>cases p
 ·simpa[two]using (show Lib.compact ([]:List Int)=[] from by simp[Lib.compact,Lib.compactUpTo])
 ·simpa[two]using compact1 _
 ·simpa[two]using compact1 _
 ·rename_i b
  simp only[if_true,Option.toList_some,List.cons_append,List.nil_append,two]
  rw[sort2]
  by_cases h1:a < b
  ·rw[if_pos (by omega),if_pos h1,compact2,if_neg (by omega)]
  ·by_cases h2:b < a
   ·rw[if_neg (by omega),if_neg h1,if_pos h2,compact2,if_neg (by omega)]
   ·rw[if_pos (by omega),if_neg h1,if_neg h2,compact2,if_pos (by omega)]
def goesOn (x:Ins):Bool:=(zL x).kind != 12 && (zL x).kind != 9
theorem ahead_two (L:List Ins)(x:Ins)(k:Nat):tM L x k=two (goesOn x) (zT x k:Nat) (yT L x k):=by
 rw[← compact_sort,tM,rawA,goesOn]
 congr 2
 by_cases h1:(zL x).kind=12<;>by_cases h2:(zL x).kind=9<;>simp[h1,h2]
theorem mem_two {o:Bool}{a t:Int}{p:Option Int}:t∈two o a p ↔ (o=true∧t=a)∨p=some t:=by
 cases o<;>cases p
 ·simp[two]
 ·rename_i b;simp[two,eq_comm]
 ·simp[two]
 ·rename_i b
  simp only[two,if_true,true_and,Option.some.injEq]
  by_cases h1:a < b
  ·rw[if_pos h1];simp[eq_comm]
  ·rw[if_neg h1]
   by_cases h2:b < a
   ·rw[if_pos h2];simp[eq_comm,or_comm]
   ·rw[if_neg h2]
    have:a=b:=by omega
    subst this
    simp[eq_comm]
theorem mem_ahead {L:List Ins}{x:Ins}{k:Nat}{t:Int}:t∈tM L x k ↔ (goesOn x=true∧t=(zT x k:Nat))∨yT L x k=some t:=by
 rw[ahead_two,mem_two]
theorem st_at:∀ (b:Bool) (L:List Ins) (k:Nat),(stF b L)[k]?=some true→(stF b L).drop k=stF false (L.drop k)
 | b,[],k,h=>by cases b<;>simp[stF]at h
 | true,x :: xs,0,h=>by simp[stF]at h
 | true,x :: xs,k+1,h=>by
  simp only[stF,List.getElem?_cons_succ]at h
  simpa[stF]using st_at false xs k h
 | false,x :: xs,0,h=>rfl
 | false,x :: xs,k+1,h=>by
  simp only[stF,List.getElem?_cons_succ]at h
  simpa[stF]using st_at _ xs k h
theorem st_head {L:List Ins}{k:Nat}(h:stD L k)(hk:k < L.length):(stF false L)[k]?=some true:=by
 obtain⟨y,hy⟩:=zK hk
 exact(uC h hy).1
theorem nextI_le (x:Ins)(k:Nat):k+1≤zT x k∧zT x k≤k+2:=by unfold zT;split<;>omega
structure ProgF (L:List Ins):Prop where
 len:1≤L.length∧L.length≤512
 o1:∀ j,j < L.length→ok1 L j=true
 o2:∀ j,j < L.length→ok2 L j=true
 last:endS L=true
theorem ProgF.of {L:List Ins}(h:yX L=true):ProgF L:=by
 unfold yX at h
 simp only[Bool.and_eq_true,decide_eq_true_eq,List.all_eq_true,List.mem_range]at h
 exact⟨⟨h.1,h.2.1⟩,h.2.2.1,h.2.2.2.1,h.2.2.2.2⟩
theorem lastS_eq {L:List Ins}{k:Nat}(hk:(stF false L)[k]?=some true):∀ m,k < m→(∀ j,k < j→j < m→(stF false L)[j]?≠some true)→jN L m=k
 | 0,h,_=>absurd h (Nat.not_lt_zero _)
 | m+1,h,hn=>by
  unfold jN
  by_cases he:k=m
  ·subst he;rw[if_pos hk]
  ·rw[if_neg (hn m (by omega) (by omega))]
   exact lastS_eq hk m (by omega) (fun j h1 h2=>hn j h1 (by omega))
theorem ahead_start {L:List Ins}(hp:ProgF L){k:Nat}{x:Ins}(hk:(stF false L)[k]?=some true)(hx:L[k]?=some x){t:Int}(ht:t∈tM L x k):
  0≤t∧t < L.length∧(stF false L)[t.toNat]?=some true:=by
 have hkl:k < L.length:=(List.getElem?_eq_some_iff.1 hx).1
 rcases mem_ahead.1 ht with ⟨hg,rfl⟩|ht
 ·obtain⟨h1,h2,h3⟩:=uC (st_at false L k hk) hx
  have hn:=nextI_le x k
  have hlt:zT x k < L.length:=by
   rcases Nat.lt_or_ge (zT x k) L.length with h|h
   ·exact h
   ·exfalso
    have hl:jN L L.length=k:=lastS_eq hk _ hkl (fun j hj1 hj2 hj3=>by
     have:x.op=24:=by
      by_cases e:x.op=24
      ·exact e
      ·unfold zT at h;rw[if_neg e]at h;omega
     unfold zT at h
     rw[if_pos this]at h
     obtain rfl:j=k+1:=by omega
     rw[h3 this hj2]at hj3
     cases hj3)
    have he:=hp.last
    unfold endS at he
    rw[hl,hx]at he
    unfold goesOn at hg
    simp only[Bool.or_eq_true,beq_iff_eq,Bool.and_eq_true,bne_iff_ne,ne_eq]at he hg
    rcases he with he|he
    ·exact hg.1 he
    ·exact hg.2 he
  exact⟨by omega,by omega,by rw[Int.toNat_natCast];exact st_head h2 hlt⟩
 ·obtain⟨h0,h1⟩:=target_lt ht
  refine⟨h0,h1,?_⟩
  have h2:=hp.o2 k hkl
  rw[(jP hk hx).2.1]at h2
  unfold yT at ht
  cases hto:toS x k with
  | none=>rw[hto]at ht;cases ht
  | some u =>
   rw[hto]at ht h2
   simp only[]at ht h2
   split at ht
   ·injection ht with ht
    subst ht
    unfold kK at h2
    simp only[Bool.and_eq_true,beq_iff_eq]at h2
    exact h2.2.2
   ·cases ht
end Go.Proofs.YtppefchjoodgnaaGreat
