import Derived.Test.YtppefchjoodgnaaGreatPQ21
set_option linter.unusedSimpArgs false
set_option linter.unusedVariables false
namespace Go.Proofs.YtppefchjoodgnaaGreat
open Go.RowKit
section
variable {F0 Z0:List Nat} {wf w w':World} {base mb:Nat} {σ:RS}
theorem PRel.over (h:PRel F0 Z0 wf base w mb σ)(b:Bool):PRel F0 Z0 wf base (w.setCell ⟨mb,28,none⟩ (.bool b)) mb {σ with over:=b}:=h.cell1 28 _ (fun l=>rfl)
set_option maxHeartbeats 2000000 in
theorem p_does5 (x:Ins)(k:Wh)(h:PRel F0 Z0 wf base w mb σ)(hx:x.Ok)(hk:KindOk x k)(h1:k.kind=5):
  Calls Tryz.prog 57 #[.pointer (some ⟨mb,0,none⟩),x.agg,k.agg] w (PAns2 F0 Z0 wf base mb ((σ.load x k).1,false,(σ.load x k).2)):=by
 have HL:=η (fun W (he:Ext w W)=>p_load x k (h.go he) hx hk h1)
 obtain⟨res,hres⟩:∃ r,RS.load σ x k=r:=⟨_,rfl⟩
 rw[hres]at HL ⊢
 obtain⟨op,dst,src,off,imm⟩:=x
 obtain⟨kind,kop,wide,reg,sg,size⟩:=k
 simp only at h1
 subst h1
 clear hres h hx hk
 go_enter Tryz.func57,Tryz.ntmps57
 go_wp2_with fail
 refine(HL.out _ (by (repeat (first|exact xE0 _|assumption|refine xE1 ?_ _|refine xE2 ?_|refine xE3 ?_ _|refine xE4 ?_ (by assumption))))).mono ?_
 rintro e w1 ⟨rfl,hM⟩
 have HM:=η hM
 clear hM
 go_wp2_with fail
 go_returns
 exact⟨rfl,HM.out⟩
theorem p_does9 (x:Ins)(k:Wh)(h:PRel F0 Z0 wf base w mb σ)(h1:k.kind=9):
  Calls Tryz.prog 57 #[.pointer (some ⟨mb,0,none⟩),x.agg,k.agg] w (PAns2 F0 Z0 wf base mb (σ,true,0)):=by
 have HM:=η h
 obtain⟨kind,kop,wide,reg,sg,size⟩:=k
 simp only at h1
 subst h1
 clear h
 go_enter Tryz.func57,Tryz.ntmps57
 go_wp2_with fail
 go_returns
 exact⟨rfl,HM.out.go (by (repeat (first|exact xE0 _|assumption|refine xE1 ?_ _|refine xE2 ?_|refine xE3 ?_ _|refine xE4 ?_ (by assumption))))⟩
theorem p_does12 (x:Ins)(k:Wh)(h:PRel F0 Z0 wf base w mb σ)(h1:k.kind=12):
  Calls Tryz.prog 57 #[.pointer (some ⟨mb,0,none⟩),x.agg,k.agg] w (PAns2 F0 Z0 wf base mb (if σ.S 0=false then (σ,false,110) else ({σ with over:=true},false,0))):=by
 have HM:=η h
 obtain⟨kind,kop,wide,reg,sg,size⟩:=k
 simp only at h1
 subst h1
 obtain⟨h0,hl,l,g1,g2,g3⟩:=h
 have c2:=g1.cell 2 rfl
 have c28:=g1.cell 28 rfl
 have mf:=fun i=>zA (i:=i) g1.head
 have hlt:=zE g1.head
 clear h0 hl g1 g2 g3
 cases hs:σ.S 0 with
 | false =>
  rw[hs]at c2
  simp only[if_true]
  go_enter Tryz.func57,Tryz.ntmps57
  go_wp2_with fail
  go_returns
  exact⟨rfl,HM.out.go (by (repeat (first|exact xE0 _|assumption|refine xE1 ?_ _|refine xE2 ?_|refine xE3 ?_ _|refine xE4 ?_ (by assumption))))⟩
 | true =>
  rw[hs]at c2
  simp only[Bool.true_eq_false,if_false]
  have HO:=η (fun W (he:Ext w W)=>(HM.out.go he).over true)
  go_enter Tryz.func57,Tryz.ntmps57
  go_wp2_with fail
  go_returns
  refine⟨rfl,?_⟩
  first
  | exact(HM.out.over true).go (by (repeat (first|exact xE0 _|assumption|refine xE1 ?_ _|refine xE2 ?_|refine xE3 ?_ _|refine xE4 ?_ (by assumption))))
  | exact(HO.out _ (by (repeat (first|exact xE0 _|assumption|refine xE1 ?_ _|refine xE2 ?_|refine xE3 ?_ _|refine xE4 ?_ (by assumption))))).go (by (repeat (first|exact xE0 _|assumption|refine xE1 ?_ _|refine xE2 ?_|refine xE3 ?_ _|refine xE4 ?_ (by assumption))))
set_option maxHeartbeats 2000000 in
theorem p_doesP (x:Ins)(k:Wh)(h:PRel F0 Z0 wf base w mb σ)(ho:σ.Ok)(hx:x.Ok)(hk:KindOk x k)(h1:k.kind=1∨k.kind=2∨k.kind=10∨k.kind=6∨k.kind=7∨k.kind=8):
  Calls Tryz.prog 57 #[.pointer (some ⟨mb,0,none⟩),x.agg,k.agg] w (PAns2 F0 Z0 wf base mb (σ.plain x k)):=by
 have HL:=η (fun W (he:Ext w W)=>p_plain x k (h.go he) ho hx hk h1)
 obtain⟨res,hres⟩:∃ r,RS.plain σ x k=r:=⟨_,rfl⟩
 rw[hres]at HL ⊢
 obtain⟨op,dst,src,off,imm⟩:=x
 obtain⟨kind,kop,wide,reg,sg,size⟩:=k
 simp only at h1
 have b1:(kind == 3)=false:=by rcases h1 with h|h|h|h|h|h<;>subst h<;>rfl
 have b2:(kind == 4)=false:=by rcases h1 with h|h|h|h|h|h<;>subst h<;>rfl
 have b3:(kind == 5)=false:=by rcases h1 with h|h|h|h|h|h<;>subst h<;>rfl
 have b4:(kind == 9)=false:=by rcases h1 with h|h|h|h|h|h<;>subst h<;>rfl
 have b5:(kind == 11)=false:=by rcases h1 with h|h|h|h|h|h<;>subst h<;>rfl
 have b6:(kind == 12)=false:=by rcases h1 with h|h|h|h|h|h<;>subst h<;>rfl
 clear hres h hx hk h1 ho
 go_enter Tryz.func57,Tryz.ntmps57
 go_wp2_with fail
 refine(HL.out _ (by (repeat (first|exact xE0 _|assumption|refine xE1 ?_ _|refine xE2 ?_|refine xE3 ?_ _|refine xE4 ?_ (by assumption))))).mono ?_
 rintro e w1 ⟨rfl,hM⟩
 have HM:=η hM
 clear hM
 go_wp2_with fail
 go_returns
 exact⟨rfl,HM.out⟩
end
section
variable {F0 Z0:List Nat} {wf w w':World} {base mb:Nat} {σ:RS}
set_option maxHeartbeats 4000000 in
theorem p_does4 (x:Ins)(k:Wh)(h:PRel F0 Z0 wf base w mb σ)(hx:x.Ok)(hk:KindOk x k)(h1:k.kind=4):
  Calls Tryz.prog 57 #[.pointer (some ⟨mb,0,none⟩),x.agg,k.agg] w (PAns2 F0 Z0 wf base mb (if (σ.D.length:Int)≤x.imm then (σ,false,113) else (σ.setR x.dst.toNat (12884901888+x.imm),false,0))):=by
 have hdst:0≤x.dst:=hx.dst.1
 obtain⟨d,hd⟩:∃ d:Nat,x.dst=d:=⟨x.dst.toNat,by omega⟩
 have hdd:d≤10:=by have:=hk.dst;omega
 rw[show x.dst.toNat=d by omega]
 have HBC:=η (fun n W (he:PRel F0 Z0 wf base W mb σ)=>qW x n he d hd hdd)
 have hi0:0≤x.imm:=hk.k4 h1
 have hi1:x.imm≤2147483647:=hx.imm.2
 have hwi:wrap64 x.imm=x.imm:=by unfold wrap64;omega
 have HM:=η h
 obtain⟨h0,hl,l,g1,g2,g3⟩:=h
 obtain⟨da,dn,dc,hdv,hdn,hDN⟩:=g1.defs.val
 have hc25:=g1.cell 25 rfl
 rw[hdv]at hc25
 have hlt:=zE g1.head
 obtain hD:dn=σ.D.length:=hDN.out
 rw[← hD]
 clear h0 hl g1 g2 g3 hdv hDN hD hk hx
 have HWD:=η (fun W=>(tT 3 x.imm W).mono (R':=fun e w'=>e=.returned (.int .u64 (12884901888+x.imm))∧Ext W w') (fun e w' h=>⟨by rw[h.1,mat];congr 2;omega,by rw[h.2];exact Ext.rfl' _⟩))
 obtain⟨op,dst,src,off,imm⟩:=x
 obtain⟨kind,kop,wide,reg,sg,size⟩:=k
 simp only at h1 hd hi0 hi1 hwi
 subst h1
 subst hd
 by_cases hge:(dn:Int)≤imm
 all_goals
  simp only[hge,if_true,if_false]
  go_enter Tryz.func57,Tryz.ntmps57
  go_upto_region 5 with fail
  have HX:=η (zB (zF ⟨4,kop,wide,reg,sg,size⟩) (zD w (zQ ⟨op,d,src,off,imm⟩) rfl))
  have HE1:Hid (Ext w ((w.alloc (zQ ⟨op,d,src,off,imm⟩)).alloc (zF ⟨4,kop,wide,reg,sg,size⟩))):=η (by (repeat (first|exact xE0 _|assumption|refine xE1 ?_ _|refine xE2 ?_|refine xE3 ?_ _|refine xE4 ?_ (by assumption))))
  simp only[zQ,zF]at HX HE1
  generalize hF:(w.alloc (.cells #[.int .u8 op,.int .u8 d,.int .u8 src,.int .i16 off,.int .i32 imm] 58)).alloc (.cells #[.int .u8 4,.int .u8 kop,.bool wide,.bool reg,.bool sg,.int .i64 size] 60)=wa at HX HE1 ⊢
  clear hF
  obtain⟨x0,x1,x2,x3,x4⟩:=κ5 HX.out
  generalize w.heap.size=q at HX x0 x1 x2 x3 x4 ⊢
  have HM1:=η (HM.out.go HE1.out)
  have hc25':=HE1.out.cellOf hc25
  clear hc25
  go_cut [38] from 30 to 39 (fun v wx=>v=.bool (decide ((dn:Int)≤imm))∧Hid (Ext wa wx))
  case first =>
   go_quiet (fail)
   go_wp2_with fail
   go_meet
   exact⟨by simp[hge],η (by (repeat (first|exact xE0 _|assumption|refine xE1 ?_ _|refine xE2 ?_|refine xE3 ?_ _|refine xE4 ?_ (by assumption))))⟩
  case rest =>
   obtain⟨rfl,HE2⟩:=hcut
   have HM2:=η (HM1.out.go HE2.out)
   first
   | (have hge2:imm < (dn:Int):=by omega
      simp only[hge,decide_false]
      go_upto_region 7 with fail
      have z4:=Grow.cell (HE2.out.cellOf x4)
      have z0:=Grow.cell (HE2.out.cellOf x0)
      have z1:=Grow.cell (HE2.out.cellOf x1)
      have z2:=Grow.cell (HE2.out.cellOf x2)
      have z3:=Grow.cell (HE2.out.cellOf x3)
      clear x0 x1 x2 x3 x4 hc25'
      (refine zR 6 (by kernel_rfl) (by kernel_rfl) ?_;simp only[List.take_succ_cons,List.take_zero];(repeat (go_big_quiet_step ((go_at_call 29;exact Calls.grow (HWD.out _)))));refine wpQuiet_nil ?_;rintro wz ⟨nz,hz⟩;have hwq:=nz.ext;rw[← hz]at hwq;simp only[List.drop_succ_cons,List.drop_zero];clear hz)
      go_wp2_with fail
      refine(HBC.out _ _ (HM2.out.go hwq)).mono ?_
      rintro e w3 ⟨rfl,hM⟩
      have HM3:=η hM
      clear hM
      go_wp2_with fail
      go_returns
      exact⟨rfl,HM3.out⟩)
   | (simp only[hge,decide_true]
      go_wp2_with fail
      go_returns
      exact⟨rfl,HM2.out⟩)
set_option maxHeartbeats 4000000 in
theorem p_does3 (x y:Ins)(k:Wh)(p:Nat)(h:PRel F0 Z0 wf base w mb σ)(hx:x.Ok)(hk:KindOk x k)(h1:k.kind=3)(hp:σ.place=p)(hl512:σ.L.length≤512)(hyy:σ.L[p+1]?=some y)(hy:y.Ok):
  Calls Tryz.prog 57 #[.pointer (some ⟨mb,0,none⟩),x.agg,k.agg] w (PAns2 F0 Z0 wf base mb (σ.setR x.dst.toNat (longN x y),false,0)):=by
 have hdst:0≤x.dst:=hx.dst.1
 obtain⟨d,hd⟩:∃ d:Nat,x.dst=d:=⟨x.dst.toNat,by omega⟩
 have hdd:d≤10:=by have:=hk.dst;omega
 rw[show x.dst.toNat=d by omega]
 have HBC:=η (fun n W (he:PRel F0 Z0 wf base W mb σ)=>qW x n he d hd hdd)
 have HLG:=η (fun W=>p_Long x y W hx hy)
 obtain⟨n,hn⟩:∃ n,longN x y=n:=⟨_,rfl⟩
 rw[hn]at HLG ⊢
 have HM:=η h
 obtain⟨h0,hl,l,g1,g2,g3⟩:=h
 obtain⟨la,ln,lc,hlv,hln,hLN⟩:=g1.code.val
 have hcd:=g1.code
 have hc0:=g1.cell 0 rfl
 have hc27:=g1.cell 27 rfl
 rw[hlv]at hcd hc0
 rw[hp]at hc27
 have hlt:=zE g1.head
 have HCD:=η hcd
 have hpl2:p+1 < ln:=by rw[hLN.out];exact(List.getElem?_eq_some_iff.1 hyy).1
 have hln2:ln≤512:=by rw[hLN.out];exact hl512
 have HYY:=η hyy
 clear h0 hl g1 g2 g3 hlv hcd hLN hk hx hyy hy hn hl512
 obtain⟨op,dst,src,off,imm⟩:=x
 obtain⟨kind,kop,wide,reg,sg,size⟩:=k
 simp only at h1 hd
 subst h1
 subst hd
 go_enter Tryz.func57,Tryz.ntmps57
 go_upto_region 3 with fail
 have HX:=η (zB (zF ⟨3,kop,wide,reg,sg,size⟩) (zD w (zQ ⟨op,d,src,off,imm⟩) rfl))
 have HE1:Hid (Ext w ((w.alloc (zQ ⟨op,d,src,off,imm⟩)).alloc (zF ⟨3,kop,wide,reg,sg,size⟩))):=η (by (repeat (first|exact xE0 _|assumption|refine xE1 ?_ _|refine xE2 ?_|refine xE3 ?_ _|refine xE4 ?_ (by assumption))))
 simp only[zQ,zF]at HX HE1
 generalize hF:(w.alloc (.cells #[.int .u8 op,.int .u8 d,.int .u8 src,.int .i16 off,.int .i32 imm] 58)).alloc (.cells #[.int .u8 3,.int .u8 kop,.bool wide,.bool reg,.bool sg,.int .i64 size] 60)=wa at HX HE1 ⊢
 clear hF
 obtain⟨x0,x1,x2,x3,x4⟩:=κ5 HX.out
 generalize w.heap.size=q at HX x0 x1 x2 x3 x4 ⊢
 have hcd1:=HCD.out.ext HE1.out
 obtain⟨e0,e1,e2,e3,e4⟩:=yQ hcd1 HYY.out
 have ix:=fun W=>hcd1.run_at (P:=Tryz.prog) el_ins.under el_ins.size .i64 ((p:Int)+1) (by omega) (by omega) W
 simp only[show ((p:Int)+1).toNat=p+1 by omega]at ix
 have hw1:wrap64 ((p:Int)+1)=((p+1:Nat):Int):=by unfold wrap64;omega
 have HM1:=η (HM.out.go HE1.out)
 have hc0':=HE1.out.cellOf hc0
 have hc27':=HE1.out.cellOf hc27
 clear hcd1 hc0 hc27
 have z0:=Grow.cell hc0'
 have z1:=Grow.cell hc27'
 have f0:=Grow.cell e0
 have f1:=Grow.cell e1
 have f2:=Grow.cell e2
 have f3:=Grow.cell e3
 have f4:=Grow.cell e4
 have y0:=Grow.cell x0
 have y1:=Grow.cell x1
 have y2:=Grow.cell x2
 have y3:=Grow.cell x3
 have y4:=Grow.cell x4
 clear hc0' hc27' e0 e1 e2 e3 e4 x0 x1 x2 x3 x4
 (refine zR 15 (by kernel_rfl) (by kernel_rfl) ?_;simp only[List.take_succ_cons,List.take_zero];(repeat (go_big_quiet_step ((go_at_call 94;exact Calls.grow (HLG.out _)))));refine wpQuiet_nil ?_;rintro wz ⟨nz,hz⟩;have hwq:=nz.ext;rw[← hz]at hwq;simp only[List.drop_succ_cons,List.drop_zero];clear hz)
 go_wp2_with fail
 refine(HBC.out _ _ (HM1.out.go hwq)).mono ?_
 rintro e w3 ⟨rfl,hM⟩
 have HM3:=η hM
 clear hM
 go_wp2_with fail
 go_returns
 exact⟨rfl,HM3.out⟩
end
theorem plain_1 (σ:RS)(x:Ins)(k:Wh)(h:k.kind=1):σ.plain x k=((σ.arith x k).1,false,(σ.arith x k).2):=by
 unfold RS.plain RS.arith gN
 rw[h]
 by_cases h2:k.op=176
 ·cases hs:(σ.second x k).2<;>cases hd:σ.S x.dst.toNat<;>simp[h2]
 ·cases hs:(σ.second x k).2<;>cases hd:σ.S x.dst.toNat<;>simp[h2]
theorem plain_2 (σ:RS)(x:Ins)(k:Wh)(h:k.kind=2)(hr:k.reg=false):σ.plain x k=if σ.S x.dst.toNat=false then (σ,false,110) else (σ.setR x.dst.toNat (kM k.wide (8 * k.size) (σ.R x.dst.toNat)),false,0):=by
 unfold RS.plain gN
 rw[h,show (σ.second x k).2=true by simp[RS.second,hr]]
 cases hd:σ.S x.dst.toNat<;>simp
theorem plain_10 (σ:RS)(x:Ins)(k:Wh)(h:k.kind=10):σ.plain x k=if (σ.second x k).2=false∨σ.S x.dst.toNat=false then (σ,false,110) else (σ,uE k.op k.wide (σ.R x.dst.toNat) (σ.second x k).1,0):=by
 unfold RS.plain gN
 rw[h]
 cases hs:(σ.second x k).2<;>cases hd:σ.S x.dst.toNat<;>simp
theorem plain_st (σ:RS)(x:Ins)(k:Wh)(h:k.kind=6∨k.kind=7∨k.kind=8):σ.plain x k=((σ.store x k).1,false,(σ.store x k).2):=by
 rw[store_putS]
 unfold RS.plain gN
 have n1:k.kind≠1:=by omega
 have n2:k.kind≠2:=by omega
 have n3:k.kind≠10:=by omega
 cases hs:(σ.second x k).2<;>cases hd:σ.S x.dst.toNat<;>simp[n1,n2,n3]
theorem does_plain (σ:RS)(x:Ins)(k:Wh)(h:k.kind=1∨k.kind=2∨k.kind=10∨k.kind=6∨k.kind=7∨k.kind=8)(hr:k.kind=2→k.reg=false):
  (σ.plain x k).1=(σ.does x k).1∧(σ.plain x k).2.2=(σ.does x k).2.2 ∧
  ((σ.does x k).2.2=0→(σ.does x k).2.1=if (σ.plain x k).2.1=true then (yT σ.L x σ.place.toNat).getD 0 else zT x σ.place.toNat):=by
 rcases h with h|h|h|h
 ·rw[plain_1 σ x k h];simp[RS.does,h]
 ·rw[plain_2 σ x k h (hr h)];simp only[RS.does,h];cases hd:σ.S x.dst.toNat<;>simp
 ·rw[plain_10 σ x k h];simp only[RS.does,h]
  cases hs:(σ.second x k).2<;>cases hd:σ.S x.dst.toNat<;>simp
 ·rw[plain_st σ x k h]
  rcases h with h|h|h<;>simp[RS.does,h]
def NextOk (σ:RS)(x:Ins)(k:Wh)(hops:Bool):Prop:=(σ.does x k).2.2=0→(σ.does x k).2.1=if k.kind=12 then σ.place else if hops=true then (yT σ.L x σ.place.toNat).getD 0 else zT x σ.place.toNat
section
variable {F0 Z0:List Nat} {wf w w':World} {base mb:Nat} {σ:RS}
theorem p_doesN (x:Ins)(k:Wh)(p:Nat)(h:PRel F0 Z0 wf base w mb σ)(ho:σ.Ok)(hio:InsOk σ.L)(hl:σ.L.length≤512)(hx:x.Ok)(hk:KindOk x k)(hp:σ.place=p)(hy:k.kind=3→∃ y,σ.L[p+1]?=some y)(hr:k.kind=2→k.reg=false)(h11:k.kind≠11):
  ∃ hops,NextOk σ x k hops∧Calls Tryz.prog 57 #[.pointer (some ⟨mb,0,none⟩),x.agg,k.agg] w (PAns2 F0 Z0 wf base mb ((σ.does x k).1,hops,(σ.does x k).2.2)):=by
 have hpt:σ.place.toNat=p:=by omega
 have hall:(k.kind=1∨k.kind=2∨k.kind=10∨k.kind=6∨k.kind=7∨k.kind=8)∨k.kind=3∨k.kind=4∨k.kind=5∨k.kind=9∨k.kind=12:=by have:=hk.rng;omega
 rcases hall with h1|h1|h1|h1|h1|h1
 ·obtain⟨e1,e2,e3⟩:=does_plain σ x k h1 hr
  refine⟨(σ.plain x k).2.1,fun he=>?_,?_⟩
  ·rw[if_neg (by omega)];exact e3 he
  ·have:=p_doesP x k h ho hx hk h1
   rw[← e1,← e2]
   exact this
 ·obtain⟨y,hyy⟩:=hy h1
  have e:σ.does x k=(σ.setR x.dst.toNat (longN x y),((zT x σ.place.toNat:Nat):Int),0):=by
   simp only[RS.does,h1,hpt,hyy];simp
  refine⟨false,fun he=>?_,?_⟩
  ·rw[e,if_neg (by omega)];rfl
  ·rw[e]
   exact p_does3 x y k p h hx hk h1 hp hl hyy (hio.at hyy)
 ·have e:σ.does x k=if (σ.D.length:Int)≤x.imm then (σ,0,113) else (σ.setR x.dst.toNat (12884901888+x.imm),((zT x σ.place.toNat:Nat):Int),0):=by
   simp only[RS.does,h1];simp
  have:=p_does4 x k h hx hk h1
  by_cases hge:(σ.D.length:Int)≤x.imm
  ·rw[if_pos hge]at e this
   refine⟨false,fun he=>?_,?_⟩
   ·rw[e]at he;simp at he
   ·rw[e];exact this
  ·rw[if_neg hge]at e this
   refine⟨false,fun he=>?_,?_⟩
   ·rw[e,if_neg (by omega)];rfl
   ·rw[e];exact this
 ·have e:σ.does x k=((σ.load x k).1,((zT x σ.place.toNat:Nat):Int),(σ.load x k).2):=by simp only[RS.does,h1];simp
  refine⟨false,fun he=>?_,?_⟩
  ·rw[e,if_neg (by omega)];rfl
  ·rw[e];exact p_does5 x k h hx hk h1
 ·have e:σ.does x k=(σ,(yT σ.L x σ.place.toNat).getD 0,0):=by simp only[RS.does,h1];simp
  refine⟨true,fun he=>?_,?_⟩
  ·rw[e,if_neg (by omega)];rfl
  ·rw[e];exact p_does9 x k h h1
 ·have e:σ.does x k=if σ.S 0=false then (σ,0,110) else ({σ with over:=true},σ.place,0):=by simp only[RS.does,h1];simp
  have:=p_does12 x k h h1
  cases hs:σ.S 0
  ·rw[hs]at e this
   simp only[if_true]at e this
   refine⟨false,fun he=>?_,?_⟩
   ·rw[e]at he;simp at he
   ·rw[e];exact this
  ·rw[hs]at e this
   simp only[Bool.true_eq_false,if_false]at e this
   refine⟨false,fun he=>?_,?_⟩
   ·rw[e,if_pos h1]
   ·rw[e];exact this
end
end Go.Proofs.YtppefchjoodgnaaGreat
