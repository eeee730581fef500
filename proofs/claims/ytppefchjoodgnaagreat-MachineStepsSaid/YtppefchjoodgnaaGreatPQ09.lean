import Derived.Test.YtppefchjoodgnaaGreatPQ08
import Derived.Test.YtppefchjoodgnaaGreatPQ07
import Derived.Test.YtppefchjoodgnaaGreatPQ01
import Derived.Test.YtppefchjoodgnaaGreatProg
import Derived.Deep.RegionLaw
import Derived.Deep.CutBlock
import Derived.Deep.DeepCutAuto
set_option linter.unusedSimpArgs false
set_option linter.unusedVariables false
namespace Go.Proofs.YtppefchjoodgnaaGreat
open Go.RowKit
def neK (s:ByteArray)(p:ByteArray×Nat):Bool:=!(p.1 == s)
def xR (T:List TM)(i:Int)(ks:List Int):List TM×Int×Int :=
 match xE T i ks.length with
 | none=>(T,0,1)
 | some t=>if t.hash=false then (T,18446744073709551594,0) else
  if (t.slots.filter (neK (strOfNums ks))).length=t.slots.length then (T,18446744073709551614,0) else (T.set i.toNat {t with slots:=t.slots.filter (neK (strOfNums ks))},0,0)
def RDropT (base tb:Nat)(S:RTabs)(i:Int)(ks:List Int)(w:World)(e:Ending)(w':World):Prop :=
 e=.returned (.tuple #[.int .u64 (xR (yC S).2 i ks).2.1,.int .i64 (xR (yC S).2 i ks).2.2])∧Keep (zH tb S) w w'∧∃ S',RTabAt w' base tb S'∧yC S'=((yC S).1,(xR (yC S).2 i ks).1)∧(∀ j∈zH tb S',j∈zH tb S∨w.heap.size≤j)∧S'.rb=S.rb
theorem tW {base tb:Nat}{S:RTabs}{i:Int}{ks:List Int}{a b:Int}{w w':World}(h:RTabAt w base tb S)(he:Ext w w')(e:xR (yC S).2 i ks=((yC S).2,a,b)):RDropT base tb S i ks w (.returned (.tuple #[.int .u64 a,.int .i64 b])) w' :=
 ⟨by rw[e],Keep.of_ext he,S,h.ext he,by rw[e],fun j hj=>.inl hj,rfl⟩
theorem filter_take (s:ByteArray){L:List (ByteArray×Nat)}{q:Nat}{p:ByteArray×Nat}(h:L[q]?=some p):(L.take (q+1)).filter (neK s)=(L.take q).filter (neK s)++if neK s p=true then [p] else []:=by
 rw[List.take_add_one,h,List.filter_append]
 congr 1
 simp only[Option.toList_some,List.filter_cons,List.filter_nil]
set_option maxRecDepth 20000 in
set_option maxHeartbeats 8000000 in
theorem rtab_drop (base tb:Nat)(S:RTabs)(i:Int)(kv:Value)(ks:List Int)(w:World)(h:RTabAt w base tb S)(hbase:base≤w.heap.size)(HLB:Hid (∀ x∈S.R,x.T.slots.length≤1000))(hk:Sl w .u8 kv ks):
  Calls Tryz.prog 147 #[.pointer (some ⟨tb,0,none⟩),.int .i64 i,kv] w (RDropT base tb S i ks w):=by
 have HT:=η h
 obtain⟨ka,kn,kc,rfl,hkn,hKN⟩:=hk.val
 have HK:=η hk
 clear h hk
 rcases qQ (S.R.map (·.T)) i ks.length with h0|⟨j,t,rfl,hp,hkk⟩
 ·have H0:=η h0
  clear h0
  go_enter Tryz.func147,Tryz.ntmps147
  go_wp2_with fail
  refine(uP base tb S i _ ks w HT.out HK.out).mono ?_
  rintro e w1 ⟨rfl,rfl⟩
  rw[H0.out]
  go_wp2_with fail
  go_returns
  exact tW HT.out (Ext.rfl' _) (by simp only[xR,yC,H0.out])
 ·obtain⟨x,hx,hxt,hxm⟩:=rpick S j t hp
  have hf:xE (S.R.map (·.T)) j ks.length=some x.T:=by rw[hxt];exact pW hp hkk
  clear hp hkk hxt
  have hj8:j < S.R.length:=(List.getElem?_eq_some_iff.1 hx).1
  have HMD:=η (HT.out.made x hxm)
  have HX:=η hf
  have HXI:=η hx
  have HM:=η hxm
  have hl1000:=HLB.out x hxm
  have hb1:=cO (i:=1) HT.out.head
  simp only[gA,gB,gC]at hb1
  have RMM:=η (HT.out.maps.rd vB)
  obtain⟨ma,mn,mc,hmv,hmn,hMN⟩:=RMM.out.val
  have HMV:=η hmv
  rw[hmv]at hb1 RMM
  have hi1:((j:Nat):Int) < (mn:Int):=by have:=hMN.out;omega
  have RK:=η ((HT.out.keys x hxm).rd xQ)
  obtain⟨la,ln,lc,hlv,hln,hLN⟩:=RK.out.val
  have HLV:=η hlv
  rw[hlv]at RK
  have ix:=fun W=>RMM.out.run_at (P:=Tryz.prog) el_rm.under el_rm.size .i64 (j:Int) (by omega) (by omega) W
  obtain⟨c0,c1,c2,c3,c4,c5⟩:=rm_cells RMM.out hx
  simp only[Int.toNat_natCast]at ix
  rw[hlv]at c4
  have HSL:Hid ((ln:Int)=(x.T.slots.length:Int)):=η (by have:=hLN.out;omega)
  clear hf hx hxm hmv hlv c1 c2 c3 c5
  go_enter Tryz.func147,Tryz.ntmps147
  go_wp2_with fail
  refine(uP base tb S j _ ks w HT.out HK.out).mono ?_
  rintro e w1 ⟨rfl,rfl⟩
  rw[HX.out]
  cases hh:x.T.hash with
  | false =>
   have HH:=η hh
   rw[hh]at c0
   clear hh
   go_wp2_with fail
   refine(kA 22 _ (by decide) (by decide)).mono ?_
   rintro e w3 ⟨rfl,rfl⟩
   go_wp2_with fail
   go_returns
   exact tW HT.out (Ext.rfl' _) (by simp only[xR,yC,HX.out,HH.out,if_true])
  | true =>
   have HH:=η hh
   rw[hh]at c0
   clear hh
   have HSB:Hid (∀ u,Ext w1 u→u.cell? ⟨tb,1,none⟩=some (.slice ma mn mc)∧u.cell? ⟨(elt (.slice ma mn mc) (j * 6)).block,(elt (.slice ma mn mc) (j * 6)).off+4,none⟩=some (.slice la ln lc)):=η fun u k=>⟨k.cellOf hb1,k.cellOf c4⟩
   go_wp2_with fail
   go_loopw [9,8] (fun q v wr=>∃ (k:Nat),k≤ln∧q=.int .i64 k∧(∃ a n c,v=.slice a n c)∧Ext w1 wr∧Hid (Own wr w1.heap.size 129 2 qH v ((x.T.slots.take k).filter (neK (strOfNums ks))))) (fun q _ _=>ln - (intOf q).toNat)
   case atStart=>exact⟨0,Nat.zero_le _,rfl,⟨_,_,_,rfl⟩,Ext.rfl' _,η (Own.nil _ _ _ _ _)⟩
   case round =>
    obtain⟨k,hk,rfl,⟨ra,rn,rc,rfl⟩,hwr,HO⟩:=hrel
    obtain⟨d1,d4⟩:=HSB.out _ hwr
    by_cases hlt:(k:Int) < ln
    ·obtain⟨p,hp⟩:=zK (xs:=x.T.slots) (k:=k) (by have:=HSL.out;omega)
     have iy:=fun W=>RK.out.run_at (P:=Tryz.prog) el_rk.under el_rk.size .i64 (k:Int) (by omega) (by omega) W
     simp only[Int.toNat_natCast]at iy
     obtain⟨z0,z1⟩:=ks_cells (RK.out.ext hwr) hp
     have st:=fun n=>((HK.out.ext hwr).ext ((Ext.rfl' _).drewN' n)).run_str (P:=Tryz.prog) Tryz.underlying23 Tryz.underlying5 Tryz.underlying9
     have HFT:=η (filter_take (strOfNums ks) hp)
     have hfl:((x.T.slots.take k).filter (neK (strOfNums ks))).length≤1000:=Nat.le_trans (List.length_filter_le _ _) (by simp;omega)
     clear hp
     by_cases he:p.1=strOfNums ks
     ·have hn:neK (strOfNums ks) p=false:=by simp[neK,he]
      have HO2:=η (show (x.T.slots.take (k+1)).filter (neK (strOfNums ks))=(x.T.slots.take k).filter (neK (strOfNums ks)) by rw[HFT.out,hn];simp)
      rw[he]at z0
      clear he hn
      have HKS2:=HO2
      go_wp2_with fail
      generalize hsk:strOfNums ks=sk at st z0
      clear hsk
      go_quiet (fail)
      go_wp2_with fail
      go_roundw
      case rel=>exact⟨k+1,by omega,by go_num,⟨_,_,_,rfl⟩,hwr.drewN' _,η (by rw[HO2.out];exact HO.out.ext ((Ext.rfl' _).drewN' _))⟩
      case measure=>simp[intOf];omega
     ·have hn:neK (strOfNums ks) p=true:=by simp[neK,he]
      have HO2:=η (show (x.T.slots.take (k+1)).filter (neK (strOfNums ks))=(x.T.slots.take k).filter (neK (strOfNums ks))++[p] by rw[HFT.out,hn];simp)
      have hb:(p.1.toList == (strOfNums ks).toList)=false:=by rw[← beq_toListBytes];exact qF he
      clear he hn
      go_wp2_with fail
      generalize hsk:strOfNums ks=sk at st hb
      clear hsk
      go_quiet (fail)
      have z0':=((Ext.rfl' wr).drewN' nq).cellOf z0
      have z1':=((Ext.rfl' wr).drewN' nq).cellOf z1
      go_wp2_with (at_builtin;refine xM el_rk xQ rfl _ _ rfl rfl ((HO.out.ext ((Ext.rfl' _).drewN' nq)).alloc _) rfl (ys:=[p]) ?r2 ?r3 ?r4 ?r5)
      case r2=>exact key_lit (wr.drewN nq) p.1 p.2 _ rfl
      case r3=>first|omega|(simp;omega)
      case r4=>have:=hwr.size;first|exact this|(simp;omega)
      intro v7 w7 hown7 hg7 hb7
      have hE7:Ext w1 w7:=hb7 _ _ ((hwr.drewN' _).alloc' _) (Nat.le_refl _)
      obtain⟨qa,qn,qc,rfl,hqn,-⟩:=(hown7.rd xQ).val
      have HO7:=η hown7
      clear hown7 hg7 hb7
      go_wp2_with fail
      go_roundw
      case rel=>exact⟨k+1,by omega,by go_num,⟨_,_,_,rfl⟩,hE7,η (by rw[HO2.out];exact HO7.out)⟩
      case measure=>simp[intOf];omega
    ·have hall:x.T.slots.take k=x.T.slots:=List.take_of_length_le (by have:=HSL.out;omega)
     rw[hall]at HO
     obtain⟨ra',rn',rc',hrv,hrn,HRN⟩:=(HO.out.rd xQ).val
     injection hrv with e1 e2 e3
     subst e1 e2 e3
     have HE:=η hwr
     have HTw:=η (HT.out.ext hwr)
     by_cases hlen:rn=ln
     ·have HLEN:Hid ((x.T.slots.filter (neK (strOfNums ks))).length=x.T.slots.length):=η (by have:=HRN.out;have:=HSL.out;omega)
      have d0:((rn:Int) == (ln:Int))=true:=beq_iff_eq.2 (by omega)
      clear hlen hall hk
      go_wp2_with fail
      refine(kA 2 _ (by decide) (by decide)).mono ?_
      rintro e w3 ⟨rfl,rfl⟩
      go_wp2_with fail
      go_returns
      exact tW HT.out HE.out (by simp only[xR,yC,HX.out,HH.out,Bool.true_eq_false,if_false];rw[if_pos HLEN.out])
     ·have HLEN:Hid (¬ (x.T.slots.filter (neK (strOfNums ks))).length=x.T.slots.length):=η (by have:=HRN.out;have:=HSL.out;omega)
      have d0:((rn:Int) == (ln:Int))=false:=by simp;omega
      obtain⟨p1,p2,p3,p4,p5⟩:=rm_field HTw.out.maps HXI.out 4 (by decide) (by decide)
      rw[HMV.out]at p1 p2
      rw[show (RM.enc x)[4]?=some x.lv from rfl,HLV.out]at p1
      have HP5:=η p5
      have P3:=η p3
      have P4:=η p4
      clear hlen hall hk p3 p4 p5
      go_wp2_with fail
      go_returns
      have hE:elt S.mv (j * 6)=elt (.slice ma mn mc) (j * 6):=by rw[HMV.out]
      have hlv2:RM.lv ⟨ra,rc,{x.T with slots:=x.T.slots.filter (neK (strOfNums ks))}⟩=.slice ra rn rc:=by simp only[RM.lv];rw[HRN.out]
      have p5:=HP5.out ⟨ra,rc,{x.T with slots:=x.T.slots.filter (neK (strOfNums ks))}⟩ (.slice ra rn rc) (by simp only[RM.enc];rw[hlv2];rfl)
      have hk2:Keep S.mv.ownBlock.toList w1 (wr.setCell ⟨(elt S.mv (j * 6)).block,(elt S.mv (j * 6)).off+4,none⟩ (.slice ra rn rc)):=(Keep.of_ext HE.out).setCell (by rw[P3.out];simp) _
      have hlow:(elt S.mv (j * 6)).block < w1.heap.size:=(HT.out.maps.lt P3.out).2
      have hkeys2:=HO.out.other (a:=⟨(elt S.mv (j * 6)).block,(elt S.mv (j * 6)).off+4,none⟩) hlow (.slice ra rn rc)
      have h2:=HT.out.set (y:=⟨ra,rc,{x.T with slots:=x.T.slots.filter (neK (strOfNums ks))}⟩) HXI.out hk2 p5 (by rw[hlv2];exact hkeys2.mono hbase) (fun q hq=>.inr (by
       rw[hlv2]at hq
       exact(hkeys2.lt hq).1)) ⟨HMD.out.1,fun p hp=>HMD.out.2 p (List.mem_filter.1 hp).1⟩
      rw[hE]at h2 hk2
      have hmvf:∀ q∈S.mv.ownBlock.toList,q∈zH tb S:=fun q hq=>by simp only[zH,List.mem_cons,List.mem_append];exact .inr (.inl hq)
      have hr:xR (yC S).2 j ks=((yC S).2.set j {x.T with slots:=x.T.slots.filter (neK (strOfNums ks))},0,0):=by
       simp only[xR,yC,HX.out,HH.out,Bool.true_eq_false,if_false]
       rw[if_neg HLEN.out,Int.toNat_natCast]
      refine⟨by rw[hr];rfl,hk2.mono fun q hq=>.inl (hmvf q hq),_,h2.1,?_,h2.2,rfl⟩
      rw[hr]
      simp only[yC,List.map_set]
def RNewT (base b:Nat)(lv:Value)(L:List RR)(ds:List TDef)(w:World)(e:Ending)(w':World):Prop :=
 Keep (yA b lv L) w w'∧((rnew (zV L) ds=none∧e=.returned (.tuple #[.pointer none,.int .i64 1])) ∨
  ∃ tb S,rnew (zV L) ds=some (yC S)∧e=.returned (.tuple #[.pointer (some ⟨tb,0,none⟩),.int .i64 0])∧RTabAt w' base tb S∧S.rb=b∧∀ j∈zH tb S,j∈yA b lv L∨w.heap.size≤j)
abbrev rmObj (d:TDef)(v:Value)(k:Nat):Obj:=.cells #[.bool d.hash,.int .i64 d.key,.int .i64 d.val,.int .i64 d.max,v,.int .i64 (k:Nat)] 126 (0,0)
theorem rm_lit (w:World)(x:RM)(q:Nat)(hq:q=w.heap.size):Rd (w.alloc (.cells (([x]:List RM).flatMap RM.enc).toArray 126)) 6 RM.enc (.slice (some ⟨q,0,none⟩) 1 1) [x] :=
 (Own.lit vB (base:=0) (w:=w) (e:=126) [x] hq rfl (Nat.zero_le _) (by simp[maxLen])).rd vB
theorem tb_obj {w wr w5:World}{base tb:Nat}{S:RTabs}{v:Value}(h:RTabAt w base tb S)(hm:S.mv=v)(hg:wr.grownBy w5 v.ownBlock)(he:Ext w wr):w5.heap[tb]?=some (.cells #[.pointer (some ⟨S.rb,0,none⟩),v] 123 (0,0)):=by
 subst hm
 exact(yB hg).obj (he.obj h.head) (fun hj=>(List.nodup_cons.1 h.apart).1 (List.mem_append_left _ hj))
theorem RTabAt.push2 {w wr w5:World}{base tb:Nat}{S:RTabs}{lv v:Value}{x:RM}(h:RTabAt w base tb S)(hm:S.mv=v)(hg:wr.grownBy w5 v.ownBlock)(hmv:Moved wr v lv)(he:Ext w wr)(hx:Own w base 129 2 qH x.lv x.T.slots)(hxf:∀ j,x.lv.ownBlock=some j→j ∉ zH tb S)
  (hmade:x.T.made≤1024∧∀ p∈x.T.slots,p.2≤1024) (hl:Own w5 base 126 6 RM.enc lv (S.R++[x])) (hfew:S.R.length < 8) :
  RTabAt (w5.setCell ⟨tb,1,none⟩ lv) base tb {S with mv:=lv,R:=S.R++[x]}∧Keep (zH tb S) w (w5.setCell ⟨tb,1,none⟩ lv)∧∀ j∈zH tb {S with mv:=lv,R:=S.R++[x]},j∈zH tb S∨x.lv.ownBlock=some j∨w.heap.size≤j:=by
 subst hm
 exact h.push he hx hxf hmade (yB hg) hmv hl hfew
set_option maxRecDepth 20000 in
set_option maxHeartbeats 8000000 in
theorem rtab_new (base b:Nat)(lv:Value)(L:List RR)(dv:Value)(ds:List TDef)(w:World)(hm:RefAt w base b lv L)(hbase:base≤w.heap.size)(HD:Hid (∀ w',Keep (yA b lv L) w w'→Rd w' 4 TDef.enc dv ds)):
  Calls Tryz.prog 34 #[.pointer (some ⟨b,0,none⟩),dv] w (RNewT base b lv L ds w):=by
 have hd:=HD.out w (Keep.rfl' _ _)
 obtain⟨da,dn,dc,rfl,hdn,hDN⟩:=hd.val
 have HMM:=η hm
 have HDD:=η hd
 clear hm hd
 go_enter Tryz.func34,Tryz.ntmps34
 go_wp2_with fail
 refine(rtab_right _ ds _ HDD.out).mono ?_
 rintro e w1 ⟨rfl,he1⟩
 cases hr:xC ds with
 | false =>
  have HR:=η hr
  clear hr
  simp only
  go_wp2_with fail
  go_returns
  exact⟨Keep.of_ext he1,.inl ⟨by simp only[rnew,HR.out];rfl,rfl⟩⟩
 | true =>
  have HR:=η hr
  have hn8:dn≤8:=by
   have:=hDN.out
   simp only[xC,Bool.and_eq_true,decide_eq_true_eq]at hr
   omega
  have HMAY:Hid (∀ d∈ds,mayD d=true):=η (by
   simp only[xC,Bool.and_eq_true,List.all_eq_true]at hr
   exact hr.2)
  clear hr
  go_wp2_with fail
  have hT0:RTabAt (w1.alloc (.cells #[.pointer (some ⟨b,0,none⟩),.slice none 0 0] 123)) base w1.heap.size ⟨b,lv,L,.slice none 0 0,[]⟩:=by
   have hs:=he1.size
   refine⟨zD _ _ rfl,by omega,Own.nil _ _ _ _ _,fun x hx=>by simp at hx,(HMM.out.ext he1).ext ((Ext.rfl' w1).alloc' _),?_,by simp,fun x hx=>by simp at hx⟩
   simp only[zH,Value.ownBlock,Option.toList_none,List.nil_append,List.flatMap_nil]
   rw[List.nodup_cons]
   exact⟨fun hj=>by have:=(HMM.out.lt _ hj).2;omega,HMM.out.apart⟩
  have HT0:=η hT0
  have hwt:Ext w (w1.alloc (.cells #[.pointer (some ⟨b,0,none⟩),.slice none 0 0] 123)):=he1.alloc' _
  have hs1:=he1.size
  obtain⟨tb,htb⟩:∃ tb,w1.heap.size=tb:=⟨_,rfl⟩
  rw[htb]at HT0 ⊢
  have htw:w.heap.size≤tb:=by omega
  clear hT0 he1 hs1
  go_loopw [7] (fun i wr=>∃ (j:Nat) (S:RTabs),j≤dn∧i=.int .i64 j∧S.rb=b∧RTabAt wr base tb S∧kW (zV L) ds j=some (yC S)∧S.R.length=j∧Keep (yA b lv L) w wr∧(∀ q∈zH tb S,q∈yA b lv L∨w.heap.size≤q)) (fun i _=>dn - (intOf i).toNat)
  case atStart =>
   refine⟨0,_,Nat.zero_le _,rfl,rfl,HT0.out,rfl,rfl,Keep.of_ext hwt,fun q hq=>?_⟩
   simp only[zH,Value.ownBlock,Option.toList_none,List.nil_append,List.flatMap_nil,List.mem_cons]at hq
   rcases hq with rfl|hq
   ·exact .inr htw
   ·exact .inl hq
  case round =>
   obtain⟨j,S,hj,rfl,hSb,hT,hnews,hlen,hK,hfr⟩:=hrel
   have HT:=η hT
   have HNEWS:=η hnews
   have HLEN:=η hlen
   have HKK:=η hK
   have HFR:=η hfr
   have HSB:=η hSb
   clear hT hnews hlen hfr HT0 hSb
   by_cases hlt:(j:Int) < dn
   case neg =>
    have hjn:j=ds.length:=by have:=hDN.out;omega
    have HJ:=η hjn
    clear hjn hK
    go_wp2_with fail
    go_returns
    refine⟨HKK.out,.inr ⟨tb,S,?_,rfl,HT.out,HSB.out,HFR.out⟩⟩
    simp only[rnew,HR.out,if_true]
    rw[← HJ.out];exact HNEWS.out
   case pos =>
    obtain⟨d,hd⟩:=zK (xs:=ds) (k:=j) (by have:=hDN.out;omega)
    have ix:=fun W=>HDD.out.run_at (P:=Tryz.prog) el_def.under el_def.size .i64 (j:Int) (by omega) (by omega) W
    simp only[Int.toNat_natCast]at ix
    obtain⟨c0,c1,c2,c3⟩:=uR (HD.out wr hK) hd
    have HDJ:=η hd
    have hN1:kW (zV L) ds (j+1)=rnew1 (yC S) d:=by rw[kW,HNEWS.out,hd];rfl
    have HN1:=η hN1
    have hmay:=(pV d).1 (HMAY.out d (List.mem_of_getElem? hd))
    have hm16:=hmay.2.2.2.2.2
    have hm1:=hmay.2.2.2.2.1
    have hv0:=hmay.2.1
    have hv1:=hmay.2.2.1
    have HDC:Hid (∀ u,Keep (yA b lv L) w u→u.cell? (elt (.slice da dn dc) (j * 4))=some (.bool d.hash)∧u.cell? ⟨(elt (.slice da dn dc) (j * 4)).block,(elt (.slice da dn dc) (j * 4)).off+2,none⟩=some (.int .i64 d.val)∧u.cell? ⟨(elt (.slice da dn dc) (j * 4)).block,(elt (.slice da dn dc) (j * 4)).off+3,none⟩=some (.int .i64 d.max)):=η fun u k=>by
     obtain⟨e0,e1,e2,e3⟩:=uR (HD.out u k) HDJ.out
     exact⟨e0,e2,e3⟩
    have hbox:(wr.alloc (.cells #[.bool d.hash,.int .i64 d.key,.int .i64 d.val,.int .i64 d.max,.slice none 0 0,.int .i64 0] 126)).heap[wr.heap.size]?=some (rmObj d (.slice none 0 0) 0):=zD _ _ rfl
    have hE1:Ext wr (wr.alloc (.cells #[.bool d.hash,.int .i64 d.key,.int .i64 d.val,.int .i64 d.max,.slice none 0 0,.int .i64 0] 126)):=(Ext.rfl' wr).alloc' _
    have HXB:Hid (∀ q∈zH tb S,q < wr.heap.size):=η fun q hq=>(HT.out.lt q hq).2
    have hxw:w.heap.size≤wr.heap.size:=HKK.out.size
    have HBOX:=η hbox
    have HT1:=η (HT.out.ext hE1)
    have HK1:=η (HKK.out.trans (Keep.of_ext hE1))
    clear hd hN1 hmay hK hbox
    go_wp2_with fail
    generalize wr.alloc (.cells #[.bool d.hash,.int .i64 d.key,.int .i64 d.val,.int .i64 d.max,.slice none 0 0,.int .i64 0] 126)=w2 at *
    generalize hZZ:wr.heap.size=Z at *
    clear c0 c1 c2 c3
    obtain⟨K,hKd⟩:∃ K:Nat,(if d.hash then 0 else d.max.toNat)=K:=⟨_,rfl⟩
    have HKD:=η hKd
    have hZ2:Z < w2.heap.size:=zE HBOX.out
    obtain⟨vn,hvn⟩:∃ vn:Nat,(vn:Int)=d.val:=⟨d.val.toNat,by omega⟩
    have hv64:vn≤64:=by omega
    have hms:∀ u:World,(Instr.makeSlice 23 (.int .i64 d.val) (.int .i64 d.val)).run Tryz.prog u=.ok (.slice (some ⟨u.heap.size,0,none⟩) vn vn) (u.alloc (.cells (madeCells #[.int .u8 0] vn) 5)):=fun u=>by rw[← hvn];exact run_make_u8 vn (by omega) u
    have HVT:Hid (d.val.toNat=vn):=η (by omega)
    have HD1:Hid (d.max.toNat=d.max):=η (by omega)
    have hfew:j < 8:=by omega
    clear hKd hvn
    go_loopw [9] (fun q wq=>∃ (k:Nat) (lv2:Value) (L2:List RR) (xl:Value),q=.int .i64 k∧k≤K∧Hid (RTabAt wq base tb {S with lv:=lv2,L:=L2})∧Hid (qA (zV S.L) j vn k=some (zV L2))∧Hid (Own wq base 129 2 qH xl (nums k))∧Hid (wq.heap[Z]?=some (rmObj d xl k)) ∧
     Hid (∀ q,xl.ownBlock=some q→w.heap.size≤q∧q≠Z∧q ∉ zH tb {S with lv:=lv2,L:=L2})∧Hid (Keep (yA b lv L) w wq)∧Hid (∀ q∈zH tb {S with lv:=lv2,L:=L2},(q∈yA b lv L∨w.heap.size≤q)∧q≠Z)) (fun q _=>K - (intOf q).toNat)
    case atStart =>
     exact⟨0,S.lv,S.L,.slice none 0 0,rfl,Nat.zero_le _,HT1,η rfl,η (by simp only[nums,List.range_zero,List.map_nil];exact Own.nil _ _ _ _ _),HBOX,η (fun q hq=>by simp[Value.ownBlock]at hq),HK1,η (fun q hq=>⟨HFR.out q hq,fun e=>by have:=HXB.out q hq;omega⟩)⟩
    case round =>
     obtain⟨k,lv2,L2,xl,rfl,hk,HT2,HF2,HO2,HB2,HX2,HK2,HFR2⟩:=hrel
     obtain⟨e0,e2,e3⟩:=HDC.out wr HK2.out
     have hmk16:(K:Int)≤16:=by have h1:=HKD.out;have h2:=HD1.out;split at h1<;>omega
     by_cases hkK:k < K
     case pos =>
      have hh:d.hash=false:=by have h1:=HKD.out;cases hd:d.hash with|false=>rfl|true=>(rw[hd]at h1;simp at h1;omega)
      have hkm:(k:Int) < d.max:=by have h1:=HKD.out;have h2:=HD1.out;simp only[hh,Bool.false_eq_true,if_false]at h1;omega
      have HH:=η hh
      rw[hh]at e0
      clear hh
      have hb2:S.rb=b:=HSB.out
      go_wp2_with fail
      have HSX:Hid (∀ u,Ext wr u→u.cell? ⟨(elt (.slice da dn dc) (j * 4)).block,(elt (.slice da dn dc) (j * 4)).off+2,none⟩=some (.int .i64 d.val)):=η fun u k=>(HDC.out u (HK2.out.trans (Keep.of_ext k))).2.1
      have HBB:Hid (base≤wr.heap.size):=η (by have:=HK2.out.size;omega)
      go_region_held3 (fun w'=>w'.cell? ⟨(elt (.slice da dn dc) (j * 4)).block,(elt (.slice da dn dc) (j * 4)).off+2,none⟩=some (.int .i64 d.val))
       (first|exact s5|(refine HSX.out _ ?_;(repeat (first|exact xE0 _|assumption|refine xE1 ?_ _|refine xE2 ?_|refine xE3 ?_ _|refine xE4 ?_ (by assumption)))))
       ((first
        | (go_at_call 63;refine(pT j k _ (by omega) (by omega) (by omega) (by omega)).mono ?_;rintro e w4 ⟨rfl,rfl⟩)
        | (go_at_call 33;(try rw[← HSB.out]);refine(ref_make base S.rb lv2 L2 (zS j k) _ (List.replicate vn 0) false false _ (HT2.out.mem.ext (by (repeat (first|exact xE0 _|assumption|refine xE1 ?_ _|refine xE2 ?_|refine xE3 ?_ _|refine xE4 ?_ (by assumption))))) (Nat.le_trans HBB.out (show Ext wr _ by (repeat (first|exact xE0 _|assumption|refine xE1 ?_ _|refine xE2 ?_|refine xE3 ?_ _|refine xE4 ?_ (by assumption)))).size) (by first|exact pN _ vn (by omega)|exact(pN wr.drew vn (by omega)).ext (by (repeat (first|exact xE0 _|assumption|refine xE1 ?_ _|refine xE2 ?_|refine xE3 ?_ _|refine xE4 ?_ (by assumption))))) (rep_u8 vn)).mono ?_;rintro e w5 ⟨rfl,hk5,lv5,L5,hm5,hv5,hf5⟩;have hk5':Keep (yA S.rb lv2 L2) wr w5:=(Keep.of_ext (show Ext wr _ by (repeat (first|exact xE0 _|assumption|refine xE1 ?_ _|refine xE2 ?_|refine xE3 ?_ _|refine xE4 ?_ (by assumption))))).trans hk5;have hk6:Keep (yA b lv L) w w5:=HK2.out.through hk5' (fun q hq=>(HFR2.out q (kG tb {S with lv:=lv2,L:=L2} q hq)).1);have hst:=HT2.out.memStep hk5' hm5 (fun q hq=>(hf5 q hq).imp id (fun h=>Nat.le_trans (show Ext wr _ by (repeat (first|exact xE0 _|assumption|refine xE1 ?_ _|refine xE2 ?_|refine xE3 ?_ _|refine xE4 ?_ (by assumption)))).size h));have s5:=(HDC.out w5 hk6).2.1;have HK5:=η hk5';have HK6:=η hk6;have HT5:=η hst.1;have HF5:=η hst.2;have HV5:=η hv5;clear hk5 hm5 hv5 hf5 hk5' hst hk6)))
      all_goals
       have hrs:qA (zV S.L) j vn (k+1)=if (yG (zV L2) (zS j k) (List.replicate vn 0) false false).2=0 then some (yG (zV L2) (zS j k) (List.replicate vn 0) false false).1 else none:=by rw[qA,HF2.out];rfl
       have HRS:=η hrs
       clear hrs s5 e0 e2 e3
       by_cases hmk:(yG (zV L2) (zS j k) (List.replicate vn 0) false false).2=0
       case neg =>
        have HMK:=η hmk
        have d6:((yG (zV L2) (zS j k) (List.replicate vn 0) false false).2 != 0)=true:=by simpa using hmk
        clear hmk
        go_wp2_with fail
        go_returns
        refine⟨HK6.out,.inl ⟨?_,rfl⟩⟩
        have h1:qA (zV S.L) j vn d.max.toNat=none:=rfill_le (by omega:k+1≤d.max.toNat) (by rw[HRS.out,if_neg HMK.out])
        have h2:kW (zV L) ds (j+1)=none:=by
         rw[HN1.out]
         simp only[rnew1,HH.out,Bool.false_eq_true,if_false,HVT.out,yC,List.length_map,HLEN.out]
         rw[h1];rfl
        simp only[rnew,HR.out,if_true]
        exact rnew_le (by have:=hDN.out;omega) h2
       case pos =>
        have HMK:=η hmk
        have d6:((yG (zV L2) (zS j k) (List.replicate vn 0) false false).2 != 0)=false:=by simpa using hmk
        clear hmk
        have hbx:=HK5.out.obj HB2.out (fun hj=>(HFR2.out Z (kG tb {S with lv:=lv2,L:=L2} Z hj)).2 rfl)
        have HBX:=η hbx
        have hown5:=HO2.out.keep HK5.out (fun q hq hj=>(HX2.out q hq).2.2 (kG tb {S with lv:=lv2,L:=L2} q hj))
        obtain⟨xa,xn,xc,rfl,hxn,hXN⟩:=(hown5.rd xQ).val
        have z4:=cO (i:=4) hbx
        have z5:=cO (i:=5) hbx
        have f4:=zA (i:=4) hbx
        simp only[gA,gB,gC]at z4 z5
        have hk255:IntKind.u8.wrap k=k:=by rw[IntKind.wrap_u8];omega
        have hlit:∀ u:World,Own (u.alloc (.cells #[.int .u8 k,.int .u8 0,.int .u8 0,.int .u8 0] 5)) 0 5 1 (fun x=>[Value.int .u8 x]) (.slice (some ⟨u.heap.size,0,none⟩) 4 4) [(k:Int),0,0,0]:=fun u=>Own.lit (zG .u8) (w:=u) [(k:Int),0,0,0] rfl rfl (Nat.zero_le _) (by simp[maxLen])
        have st:=fun u=>((hlit u).rd (zG _)).run_str (P:=Tryz.prog) Tryz.underlying23 Tryz.underlying5 Tryz.underlying9
        have hnk:strOfNums [(k:Int),0,0,0]=yM k:=by unfold yM;rw[Int.emod_eq_of_lt (by omega) (by omega)]
        simp only[hnk]at st
        have HO5:=η hown5
        have HBB5:Hid (base≤w5.heap.size):=η (by have:=HBB.out;have:=HK5.out.size;omega)
        have hnl:(nums k).length≤16:=by simp only[nums,List.length_map,List.length_range];omega
        clear hbx hown5 hlit hnk
        generalize hnkk:yM (k:Int)=nk at *
        have HNK:=η hnkk
        clear hnkk
        go_wp2_with (at_builtin;refine app_own2 el_rk xQ rfl _ _ rfl rfl ((HO5.out.ext (by (repeat (first|exact xE0 _|assumption|refine xE1 ?_ _|refine xE2 ?_|refine xE3 ?_ _|refine xE4 ?_ (by assumption))))).alloc _) rfl (ys:=[(nk,k)]) (key_lit _ nk k _ (by simp)) (by simp;omega) (by have:=HBB5.out;simp;omega) ?_)
        intro v7 w7 hown7 hg7 hmv7
        obtain⟨ya,yn,yc,rfl,hyn,hYN⟩:=(hown7.rd xQ).val
        have hk7:Keep (Value.slice xa xn xc).ownBlock.toList w5 w7:=(Keep.of_ext (show Ext w5 _ by (repeat (first|exact xE0 _|assumption|refine xE1 ?_ _|refine xE2 ?_|refine xE3 ?_ _|refine xE4 ?_ (by assumption))))).trans (yB hg7)
        have hxo:∀ q∈(Value.slice xa xn xc).ownBlock.toList,w.heap.size≤q∧q≠Z∧q ∉ zH tb {S with lv:=lv5,L:=L5}:=fun q hq=>by
         have h1:=HX2.out q (by simpa using hq)
         refine⟨h1.1,h1.2.1,fun hj=>?_⟩
         rcases HF5.out q hj with h|h
         ·exact h1.2.2 h
         ·have:=(HO2.out.lt (by simpa using hq)).2;omega
        have HXO:=η hxo
        have hbx7:=hk7.obj HBX.out (fun hj=>(hxo Z hj).2.1 rfl)
        have HBX7:=η hbx7
        have z4:=cO (i:=4) hbx7
        have z5:=cO (i:=5) hbx7
        have f4:=zA (i:=4) hbx7
        have f5:=zA (i:=5) hbx7
        simp only[gA,gB,gC]at z4 z5
        have HK7:=η hk7
        have HO7:=η hown7
        have hmv8:∀ q,(Value.slice ya yn yc).ownBlock=some q→(Value.slice xa xn xc).ownBlock=some q∨w5.heap.size≤q:=fun q hq=>(hmv7 q hq).imp id (fun h=>by simp at h;omega)
        have HMV7:=η hmv8
        have HRL:Hid (∀ q∈zH tb {S with lv:=lv5,L:=L5},q < w5.heap.size∧(q∈yA b lv L∨w.heap.size≤q)∧q≠Z):=η fun q hq=>by
         refine⟨(HT5.out.lt q hq).2,?_⟩
         rcases HF5.out q hq with h|h
         ·exact HFR2.out q h
         ·have:=HK2.out.size
          have:=zE HB2.out
          exact⟨.inr (by omega),by omega⟩
        have HW5:Hid (w.heap.size≤w5.heap.size∧Z < w5.heap.size):=η ⟨HK6.out.size,zE HBX.out⟩
        clear hk7 hxo hbx7 hown7 hg7 hmv7 hmv8 st hms ix
        go_wp2_with fail
        go_roundw
        case rel =>
         have o1:=heap_setCell_same w7 Z 4 _ _ (.slice ya yn yc) HBX7.out
         have o2:=heap_setCell_same _ Z 5 _ _ (.int .i64 ((k:Int)+1)) o1
         have kZ:Keep [Z] w7 ((w7.setCell ⟨Z,4,none⟩ (.slice ya yn yc)).setCell ⟨Z,5,none⟩ (.int .i64 ((k:Int)+1))):=((Keep.rfl' [Z] w7).setCell (by simp) _).setCell (by simp) _
         have hrow:∀ q,(Value.slice ya yn yc).ownBlock=some q→w.heap.size≤q∧q≠Z∧q ∉ zH tb {S with lv:=lv5,L:=L5}:=fun q hq=>by
          rcases HMV7.out q hq with h|h
          ·exact HXO.out q (by simpa using h)
          ·have h5:=HW5.out
           exact⟨by omega,by omega,fun hj=>by have:=(HRL.out q hj).1;omega⟩
         have k57:Keep ((Value.slice xa xn xc).ownBlock.toList++[Z]) w5 ((w7.setCell ⟨Z,4,none⟩ (.slice ya yn yc)).setCell ⟨Z,5,none⟩ (.int .i64 ((k:Int)+1))):=(HK7.out.mono fun q hq=>.inl (List.mem_append_left _ hq)).trans (kZ.mono fun q hq=>.inl (List.mem_append_right _ hq))
         refine⟨k+1,lv5,L5,.slice ya yn yc,by go_num,by omega,η (HT5.out.keep k57 fun q hq hj=>?_),η (by rw[HRS.out,if_pos HMK.out,HV5.out]),η ?_,η ?_,η hrow,η (HK6.out.through k57 fun q hq=>?_),η fun q hq=>(HRL.out q hq).2⟩
         ·rcases List.mem_append.1 hj with hj|hj
          ·exact(HXO.out q hj).2.2 hq
          ·rw[List.mem_singleton]at hj;exact(HRL.out q hq).2.2 hj
         ·rw[nums_succ,HNK.out]
          exact HO7.out.keep kZ (fun q hq hj=>by rw[List.mem_singleton]at hj;exact(hrow q hq).2.1 hj)
         ·have e:((k+1:Nat):Int)=(k:Int)+1:=by omega
          simp only[rmObj,e]
          simpa using o2
         ·rcases List.mem_append.1 hq with hq|hq
          ·exact .inr (HXO.out q hq).1
          ·rw[List.mem_singleton]at hq;exact .inr (by omega)
        case measure=>simp[intOf];omega
     case neg =>
      have hkK2:k=K:=by omega
      subst hkK2
      obtain⟨z0,z1,z2,z3,z4,z5⟩:=κ6 HB2.out
      obtain⟨xa,xc,rfl,-⟩:=HO2.out.rd xQ
      obtain⟨ma,mn,mc,hmv,hmn,hMN⟩:=(HT2.out.maps.rd vB).val
      simp only at hmv
      have HMV:=η hmv
      have cb:=cO (i:=1) HT2.out.head
      simp only[gA,gB,gC]at cb
      rw[hmv]at cb
      have cb':∀ o,(wr.alloc o).cell? ⟨tb,1,none⟩=some (.slice ma mn mc):=fun o=>((Ext.rfl' wr).alloc' o).cellOf cb
      have OMV:Hid (Own wr base 126 6 RM.enc (.slice ma mn mc) S.R):=η (by rw[← hmv];exact HT2.out.maps)
      have HBB:Hid (base≤wr.heap.size):=η (by have:=HK2.out.size;omega)
      have HLN8:Hid (S.R.length≤8):=η (by have:=HLEN.out;omega)
      clear hmv hms
      have hcond:(d.hash=true∧(k:Int) < d.max)∨(d.hash=false∧¬ (k:Int) < d.max):=by
       have h1:=HKD.out;have h2:=HD1.out
       cases hd:d.hash with
       | true=>rw[hd]at h1;simp at h1;exact .inl ⟨rfl,by omega⟩
       | false=>rw[hd]at h1;simp at h1;exact .inr ⟨rfl,by omega⟩
      rcases hcond with ⟨hh,hm⟩|⟨hh,hm⟩
      all_goals
       have HH:=η hh
       rw[hh]at e0
       clear hh
       go_wp2_with fail
       go_region_law
        ((apply qT el_rm vB (xs:=S.R) (ys:=[⟨xa,xc,⟨d.hash,d.key,d.val,d.max,nums k,k⟩⟩]) (base:=base);(case hw=>rfl);(case ho=>rfl);(case hs=>rfl);(case hown=>exact OMV.out.ext (by (repeat (first|exact xE0 _|assumption|refine xE1 ?_ _|refine xE2 ?_|refine xE3 ?_ _|refine xE4 ?_ (by assumption)))));(case hx=>rfl);(case hy=>exact rm_lit _ ⟨xa,xc,⟨d.hash,d.key,d.val,d.max,nums k,k⟩⟩ _ (by simp));(case hbytes=>have:=HLN8.out;simp;omega);(case hbase=>exact Nat.le_trans HBB.out (show Ext wr _ by (repeat (first|exact xE0 _|assumption|refine xE1 ?_ _|refine xE2 ?_|refine xE3 ?_ _|refine xE4 ?_ (by assumption)))).size);intro v5 w5 hown5 hg5 hm5;obtain⟨la,ln,lc,rfl,hln,hLN⟩:=(hown5.rd vB).val;have hp:=HT2.out.push2 (lv:=.slice la ln lc) (x:=⟨xa,xc,⟨d.hash,d.key,d.val,d.max,nums k,k⟩⟩) (v:=.slice ma mn mc) HMV.out hg5 hm5 (by (repeat (first|exact xE0 _|assumption|refine xE1 ?_ _|refine xE2 ?_|refine xE3 ?_ _|refine xE4 ?_ (by assumption)))) HO2.out (fun q hq=>(HX2.out q hq).2.2) ⟨show k≤1024 by omega,fun p hp=>by have:=(nums_mem hp).1;omega⟩ hown5 (by show S.R.length < 8;rw[HLEN.out];exact hfew);have otb:=tb_obj HT2.out HMV.out hg5 (by (repeat (first|exact xE0 _|assumption|refine xE1 ?_ _|refine xE2 ?_|refine xE3 ?_ _|refine xE4 ?_ (by assumption))));have t1:=cO (i:=1) otb;have t2:=zA (i:=1) otb;simp only[gA,gB,gC]at t1;have HP1:=η hp.1;have HP2:=η hp.2.1;have HP3:=η hp.2.2;clear hown5 hg5 hm5 hp otb))
       all_goals
        go_wp2_with fail
        go_roundw
        case rel =>
         refine⟨j+1,{S with lv:=lv2,L:=L2,mv:=.slice la ln lc,R:=S.R++[⟨xa,xc,⟨d.hash,d.key,d.val,d.max,nums k,k⟩⟩]},by omega,by go_num,HSB.out,HP1.out,?_,by simp[HLEN.out],HK2.out.through HP2.out (fun q hq=>(HFR2.out q hq).1),fun q hq=>?_⟩
         ·rw[HN1.out]
          have hKK:=HKD.out
          have h1:=HD1.out
          have hf:=HF2.out
          unfold rnew1
          cases hd:d.hash with
          | true =>
           rw[hd]at hKK
           simp only[if_true]at hKK
           subst hKK
           simp only[qA]at hf
           injection hf with hf
           simp only[if_true,yC,hf,List.map_append,List.map_cons,List.map_nil,TDef.tm,nums,List.range_zero,hd]
          | false =>
           rw[hd]at hKK
           simp only[Bool.false_eq_true,if_false]at hKK
           subst hKK
           simp only[Bool.false_eq_true,if_false,yC,HVT.out,List.length_map,HLEN.out,hf,Option.map_some,List.map_append,List.map_cons,List.map_nil,TDef.tm,TDef.full,hd]
         ·rcases HP3.out q hq with h|h|h
          ·exact(HFR2.out q h).1
          ·exact .inr (HX2.out q h).1
          ·exact .inr (Nat.le_trans HK2.out.size h)
        case measure=>simp[intOf];omega
def pB (V:Areas×List TM)(i:Int):List (ByteArray×List Int) :=
 match pick V.2 i with
 | none=>[]
 | some t=>t.slots.map fun p=>(p.1,(vC V.1 (zS i (p.2:Nat))).1)
theorem own_blk {α:Type}{wr w8 w6:World}{base:Nat}{e:TypeId}{sz:Nat}{enc:α→List Value}{v:Value}{xs:List α}(h:Own w8 base e sz enc v xs)(h1:wr.heap.size≤base)(h3:Ext w8 w6):∀ a n c,v=.slice (some a) n c→wr.heap.size≤a.block∧a.block < w6.heap.size:=by
 intro a n c e
 have hl:=h.lt (k:=a.block) (by rw[e];rfl)
 have:=h3.size
 omega
structure Ins  where
 op:Int
 dst:Int
 src:Int
 off:Int
 imm:Int
def Ins.enc (x:Ins):List Value:=[.int .u8 x.op,.int .u8 x.dst,.int .u8 x.src,.int .i16 x.off,.int .i32 x.imm]
@[reducible] def Ins.agg (x:Ins):Value:=.agg #[.int .u8 x.op,.int .u8 x.dst,.int .u8 x.src,.int .i16 x.off,.int .i32 x.imm]
structure Ins.Ok (x:Ins):Prop where
 op:0≤x.op∧x.op≤255
 dst:0≤x.dst∧x.dst≤255
 src:0≤x.src∧x.src≤255
 off:-32768≤x.off∧x.off≤32767
 imm:-2147483648≤x.imm∧x.imm≤2147483647
theorem gJ:Enc 5 Ins.enc:=⟨fun _=>rfl,fun x u hu=>by
 simp only[Ins.enc,List.mem_cons,List.not_mem_nil,or_false]at hu
 rcases hu with rfl|rfl|rfl|rfl|rfl<;>rfl⟩
theorem el_ins:El Tryz.prog 22 58 5 12 (.agg #[.int .u8 0,.int .u8 0,.int .u8 0,.int .i16 0,.int .i32 0]):=⟨Tryz.underlying22,by kernel_rfl,rfl,by decide,fun _=>by kernel_rfl⟩
structure Wh  where
 kind:Int
 op:Int
 wide:Bool
 reg:Bool
 signed:Bool
 size:Int
@[reducible] def Wh.agg (x:Wh):Value:=.agg #[.int .u8 x.kind,.int .u8 x.op,.bool x.wide,.bool x.reg,.bool x.signed,.int .i64 x.size]
@[reducible] def Wh.zero:Wh:=⟨0,0,false,false,false,0⟩
def WhA (o:Option Wh)(w:World)(e:Ending)(w':World):Prop :=
 ∃ (x:Wh) (b:Bool),e=.returned (.tuple #[x.agg,.bool b])∧o=(if b then some x else none)∧Ext w w'
abbrev zQ (x:Ins):Obj:=.cells #[.int .u8 x.op,.int .u8 x.dst,.int .u8 x.src,.int .i16 x.off,.int .i32 x.imm] 58 (0,0)
abbrev zF (x:Wh):Obj:=.cells #[.int .u8 x.kind,.int .u8 x.op,.bool x.wide,.bool x.reg,.bool x.signed,.int .i64 x.size] 60 (0,0)
theorem set6 {w0 w:World}{B:Nat}{y0:Wh}(h:w.heap[B]?=some (zF y0))(he:Ext w0 w)(hb:w0.heap.size≤B)(k o:Int)(a b c:Bool)(n:Int):
  ((((((w.setCell ⟨B,0,none⟩ (.int .u8 k)).setCell ⟨B,1,none⟩ (.int .u8 o)).setCell ⟨B,2,none⟩ (.bool a)).setCell ⟨B,3,none⟩ (.bool b)).setCell ⟨B,4,none⟩ (.bool c)).setCell ⟨B,5,none⟩ (.int .i64 n)).heap[B]?=some (zF ⟨k,o,a,b,c,n⟩) ∧
  Ext w0 ((((((w.setCell ⟨B,0,none⟩ (.int .u8 k)).setCell ⟨B,1,none⟩ (.int .u8 o)).setCell ⟨B,2,none⟩ (.bool a)).setCell ⟨B,3,none⟩ (.bool b)).setCell ⟨B,4,none⟩ (.bool c)).setCell ⟨B,5,none⟩ (.int .i64 n)):=by
 refine⟨?_,(((((he.setCell hb _).setCell hb _).setCell hb _).setCell hb _).setCell hb _).setCell hb _⟩
 have h1:=heap_setCell_same w B 0 _ _ (.int .u8 k) h
 have h2:=heap_setCell_same _ B 1 _ _ (.int .u8 o) h1
 have h3:=heap_setCell_same _ B 2 _ _ (.bool a) h2
 have h4:=heap_setCell_same _ B 3 _ _ (.bool b) h3
 have h5:=heap_setCell_same _ B 4 _ _ (.bool c) h4
 have h6:=heap_setCell_same _ B 5 _ _ (.int .i64 n) h5
 simpa using h6
def yN (x:Ins)(s o i:Bool):Bool:=!((s && x.src != 0) || (o && x.off != 0) || (i && x.imm != 0))
def xD (x:Ins)(h:Int)(wd rg:Bool):Option Wh :=
 if x.dst=10 then none else if yN x (!rg) false rg=false then none else
 if h=0∨h=16∨h=32∨h=64∨h=80∨h=160∨h=96∨h=112∨h=192 then (if x.off=0 then some ⟨1,h,wd,rg,false,0⟩ else none)
 else if h=48∨h=144 then (if x.off=0∨x.off=1 then some ⟨1,h,wd,rg,false,0⟩ else none)
 else if h=128 then (if rg=false∧yN x true true true=true then some ⟨1,h,wd,rg,false,0⟩ else none)
 else if h=176 then (if x.off=0∨(rg=true∧(x.off=8∨x.off=16∨(x.off=32∧wd=true))) then some ⟨1,h,wd,rg,false,0⟩ else none)
 else none
theorem xL (P:Int→Prop)(h:∀ n:Fin 256,P (n.val:Int))(x:Int)(hx:0≤x∧x≤255):P x:=by
 have:=h ⟨x.toNat,by omega⟩
 simpa[Int.toNat_of_nonneg hx.1]using this
set_option maxHeartbeats 1000000 in
theorem p_class (x:Ins)(w:World)(h:0≤x.op∧x.op≤255):Calls Tryz.prog 116 #[x.agg] w fun e w'=>e=.returned (.int .u8 (x.op%8))∧w'=w.alloc (.cells #[.int .u8 x.op,.int .u8 x.dst,.int .u8 x.src,.int .i16 x.off,.int .i32 x.imm] 58):=by
 have e:bits .and .u8 x.op 7=x.op%8:=xL (fun x=>bits .and .u8 x 7=x%8) (by decide +kernel) x.op h
 go_enter Tryz.func116,Tryz.ntmps116
 go_wp2_with fail
 go_returns
 exact⟨rfl,rfl⟩
set_option maxHeartbeats 1000000 in
theorem p_zeros (x:Ins)(s o i:Bool)(w:World):Calls Tryz.prog 155 #[x.agg,.bool s,.bool o,.bool i] w fun e w'=>e=.returned (.bool (yN x s o i))∧w'=w.alloc (.cells #[.int .u8 x.op,.int .u8 x.dst,.int .u8 x.src,.int .i16 x.off,.int .i32 x.imm] 58):=by
 obtain⟨a,ha⟩:∃ a,(x.src != 0)=a:=⟨_,rfl⟩
 obtain⟨b,hb⟩:∃ b,(x.off != 0)=b:=⟨_,rfl⟩
 obtain⟨c,hc⟩:∃ c,(x.imm != 0)=c:=⟨_,rfl⟩
 have HS:Hid (yN x s o i=!((s && a) || (o && b) || (i && c))):=η (by rw[yN,ha,hb,hc])
 cases s<;>cases o<;>cases i<;>cases a<;>cases b
 all_goals
  go_enter Tryz.func155,Tryz.ntmps155
  go_wp2_with fail
  go_returns
  exact⟨by rw[HS.out];simp,rfl⟩
theorem kP (x:Ins)(s o i z:Bool)(w:World)(hz:yN x s o i=z):Calls Tryz.prog 155 #[x.agg,.bool s,.bool o,.bool i] w fun e w'=>e=.returned (.bool z)∧w'=w.alloc (.cells #[.int .u8 x.op,.int .u8 x.dst,.int .u8 x.src,.int .i16 x.off,.int .i32 x.imm] 58):=hz ▸ p_zeros x s o i w
end Go.Proofs.YtppefchjoodgnaaGreat
