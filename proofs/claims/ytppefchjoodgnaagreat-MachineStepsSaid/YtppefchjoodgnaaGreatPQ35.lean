import Derived.Test.YtppefchjoodgnaaGreatPQ07
import Derived.Test.YtppefchjoodgnaaGreatPQ34
import Derived.Test.YtppefchjoodgnaaGreatPQ25
import Derived.Test.YtppefchjoodgnaaGreatPQ04
import Derived.Test.YtppefchjoodgnaaGreatPQ01
import Derived.Deep.RegionHeld
set_option linter.unusedSimpArgs false
set_option linter.unusedVariables false
namespace Go.Proofs.YtppefchjoodgnaaGreat
open Go.RowKit
set_option maxRecDepth 20000 in
set_option maxHeartbeats 4000000 in
theorem tab_items2 (base tb:Nat)(S:Tabs)(i:Int)(w:World)(h:TabAt w base tb S)(HB:Hid (∀ x∈S.R,x.T.slots.length≤1000∧∀ p∈x.T.slots,p.1.size≤1000)):
  Calls Tryz.prog 56 #[.pointer (some ⟨tb,0,none⟩),.int .i64 i] w (ItemsO (gM (zN S) i) w):=by
 have HT:=η h
 have hb1:=cO (i:=1) h.head
 simp only[gA,gB,gC]at hb1
 have RM:=η (h.maps.rd enc_t)
 obtain⟨ma,mn,mc,hmv,hmn,hMN⟩:=RM.out.val
 rw[hmv]at hb1 RM
 have hfew:=h.few
 clear h hmv
 by_cases h0:i < 0
 ·go_enter Tryz.func56,Tryz.ntmps56
  go_wp2_with fail
  go_returns
  exact⟨.slice none 0 0,[],rfl,Own.nil _ _ _ _ _,by simp,by simp[gM,pick,h0],by (repeat (first|exact xE0 _|assumption|refine xE1 ?_ _|refine xE2 ?_|refine xE3 ?_ _|refine xE4 ?_ (by assumption)))⟩
 by_cases h1:(mn:Int)≤i
 ·have hpk:pick (zN S).2 i=none:=by
   simp only[pick,h0,if_false,zN]
   rw[List.getElem?_eq_none]
   have:=hMN.out
   rw[List.length_map];omega
  have HPK:=η hpk
  clear hpk
  go_enter Tryz.func56,Tryz.ntmps56
  go_wp2_with fail
  go_returns
  exact⟨.slice none 0 0,[],rfl,Own.nil _ _ _ _ _,by simp,by simp[gM,HPK.out],by (repeat (first|exact xE0 _|assumption|refine xE1 ?_ _|refine xE2 ?_|refine xE3 ?_ _|refine xE4 ?_ (by assumption)))⟩
 obtain⟨x,hx⟩:=zK (xs:=S.R) (k:=i.toNat) (by have:=hMN.out;omega)
 have hmem:=List.mem_of_getElem? hx
 have hp:pick (zN S).2 i=some x.T:=by simp only[pick,h0,if_false,zN];rw[List.getElem?_map,hx];rfl
 have HP:=η hp
 have HM:=η hmem
 have k4:=cO (i:=4) (HT.out.ones x hmem)
 simp only[TRec.cells,gA,gB,gC]at k4
 have cm:=RM.out.cell hx (j:=0) rfl
 have im:=fun W=>RM.out.run_at (P:=Tryz.prog) el_one.under el_one.size .i64 i (by omega) (by omega) W
 simp only[Nat.mul_one,Nat.add_zero]at cm im
 have hle:0≤i:=by omega
 have hlt:i < (mn:Int):=by omega
 have hi16:i≤16:=by have:=hMN.out;omega
 have hi0:decide (i < 0)=false:=by simpa using h0
 have hi1:decide ((mn:Int)≤i)=false:=by simpa using h1
 have HSM:=η (HT.out.slots x hmem)
 have HBX:=η (HB.out x hmem)
 have hsl:x.T.strs.length=x.T.slots.length:=by simp[TM.strs]
 have HSL:=η hsl
 have hkm:x.T.strs.map (·.1)=x.T.slots.map (·.1):=by simp[TM.strs]
 have HKM:=η hkm
 clear hx hmem hp h0 h1 HB hsl hkm
 go_enter Tryz.func56,Tryz.ntmps56
 go_wp2_with (at_range;refine range_own (L:=x.T.strs) rfl _ rfl Tryz.underlying156 rfl HSM.out ?_;intro w0 hI0 hE0 hS0)
 (try go_frame)
 have hq:w.heap.size < w0.heap.size:=by omega
 have HS0:=η hS0
 clear hS0
 obtain⟨q,hqe⟩:∃ q,w.heap.size=q:=⟨_,rfl⟩
 rw[hqe]at hI0 ⊢
 have hql:w.heap.size≤q:=by omega
 have hq2:q < w0.heap.size:=by omega
 go_loopw [5] (fun v wr=>∃ done,SIter wr x.r q x.T.strs done∧Hid (Own wr w0.heap.size 9 1 encK v done)∧(∃ a n c,v=.slice a n c)∧lenV v=done.length∧done.length≤x.T.strs.length∧Hid (w0.heap.size≤wr.heap.size)∧Ext w wr) (fun v _=>x.T.strs.length - lenV v)
 case atStart=>exact⟨[],hI0,η (Own.nil _ _ _ _ _),⟨_,_,_,rfl⟩,rfl,Nat.zero_le _,η (Nat.le_refl _),hE0⟩
 case round =>
  obtain⟨done,hI,HO,⟨va,vn,vc,rfl⟩,hvn,hdl,HW0,hwr⟩:=hrel
  simp only[lenV]at hvn
  have HI:=η hI
  have HVN:=η hvn
  have HDL:=η hdl
  clear hI hI0 hvn hdl
  go_wp2_with (at_next;refine next_own rfl _ rfl q done rfl HI.out ?_ ?_)
  ·intro hperm
   have HPERM:=η hperm
   clear hperm
   go_wp2_with fail
   refine(sort_own HO.out (by have:=HDL.out;have:=HSL.out;have:=HBX.out.1;omega)).mono ?_
   rintro e w2 ⟨rfl,hO2,hk2⟩
   have hkk:vW done=vW (x.T.slots.map (·.1)):=by rw[tJ HPERM.out,HKM.out]
   rw[hkk]at hO2
   have hownlo:∀ j∈(Value.slice va vn vc).ownBlock.toList,w.heap.size≤j:=fun j hj=>by have:=(HO.out.lt (by simpa using hj)).1;have:=HS0.out;omega
   have hE2:Ext w w2:=hk2.below hwr hwr.size hownlo
   have RK:=η (hO2.rd enc_k)
   obtain⟨ks,hks⟩:∃ ks,vW (x.T.slots.map (·.1))=ks:=⟨_,rfl⟩
   have HKS:=η hks
   rw[hks]at RK
   have HKN:Hid (vn=ks.length):=η (RK.out.num)
   have HTI:Hid (gM (zN S) i=ks.map fun k=>(k,(vC (view S.L) (zS i (((x.T.slots.lookup k).getD 0:Nat):Int))).1)):=η (by simp only[gM,HP.out];rw[HKS.out];rfl)
   have HKI:Hid (∀ k∈ks,k.size≤1000):=η fun k hk=>by
    have h1:k∈x.T.slots.map (·.1):=by rw[← HKS.out]at hk;exact(tX _).mem_iff.1 hk
    obtain⟨p,hp,rfl⟩:=List.mem_map.1 h1
    exact HBX.out.2 p hp
   have hvn2:vn≤1000:=by
    have h1:=(tX (x.T.slots.map (·.1))).length_eq
    rw[HKS.out,List.length_map]at h1
    have:=HKN.out;have:=HBX.out.1;omega
   have HT2:=η (HT.out.ext hE2)
   clear hO2 hk2 hkk hownlo hks hwr HI HO
   go_wp2_with fail
   go_loopw [50,7] (fun c v wr=>∃ (j:Nat) (I:List IT),j≤vn∧c=.int .i64 j∧I.length=j∧Hid (Own wr w2.heap.size 36 2 IT.enc v I)∧Hid (∀ y∈I,∀ F w',(∀ q∈F,q < w2.heap.size∨q∈v.ownBlock.toList)→Keep F wr w'→Sl w' .u8 y.kv y.key∧Sl w' .u8 y.vv y.val)∧Hid (I.map (fun y=>(strOfNums y.key,y.val))=(gM (zN S) i).take j)∧(∃ a n c,v=.slice a n c)∧Ext w2 wr) (fun c _ _=>vn - (intOf c).toNat)
   case atStart=>exact⟨0,[],Nat.zero_le _,rfl,rfl,η (Own.nil _ _ _ _ _),η (by simp),η (by simp),⟨_,_,_,rfl⟩,Ext.rfl' _⟩
   case round =>
    obtain⟨j,I,hj,rfl,hIl,HO,HSI,HMI,⟨oa,on,oc,rfl⟩,hwr⟩:=hrel
    have HIL:=η hIl
    clear hIl
    by_cases hlt2:(j:Int) < vn
    case neg =>
     have hjn:j=ks.length:=by have:=HKN.out;omega
     have HJN:=η hjn
     clear hjn
     go_wp2_with fail
     go_returns
     refine⟨_,I,rfl,HO.out.mono hE2.size,fun y hy F u hF k=>HSI.out y hy F u (fun q hq=>(hF q hq).imp (fun h=>Nat.lt_of_lt_of_le h hE2.size) id) k,?_,hE2.trans' hwr⟩
     rw[HMI.out,HJN.out,List.take_of_length_le (by rw[HTI.out,List.length_map];exact Nat.le_refl _)]
    case pos =>
     obtain⟨k,hk⟩:=zK (xs:=ks) (k:=j) (by have:=HKN.out;omega)
     have ik:=fun W=>RK.out.run_at (P:=Tryz.prog) el_str.under el_str.size .i64 (j:Int) (by omega) (by omega) W
     have ck:=(RK.out.ext hwr).cell hk (j:=0) rfl
     simp only[Nat.mul_one,Nat.add_zero,Int.toNat_natCast]at ik ck
     have HK:=η hk
     have hks2:=HKI.out k (List.mem_of_getElem? hk)
     have hTr:=HT2.out.ext hwr
     have hTd:=hTr.ext (Ext.drew' (Ext.rfl' wr))
     have hTS:Hid (∀ w',Ext wr w'→w'.cell? ⟨tb,0,none⟩=some (.pointer (some ⟨S.b,0,none⟩))∧w'.cell? ⟨tb,1,none⟩=some (.slice ma mn mc)∧w'.cell? (elt (.slice ma mn mc) i.toNat)=some (.pointer (some ⟨x.a,0,none⟩))∧w'.cell? ⟨x.a,4,none⟩=some (.map (some x.r)) ∧
       (Instr.lookup 156 (.map (some x.r)) (.string k) false).run Tryz.prog w'=.ok (.int .i64 (((x.T.slots.lookup k).getD 0:Nat):Int)) w'):=η fun w' he=>by
      have e0:Ext w w':=(hE2.trans' hwr).trans' he
      have hT':=HT.out.ext e0
      have lk:=(gW (P:=Tryz.prog) Tryz.underlying156 Tryz.underlying9 zero_int (hT'.slots x HM.out) k).1
      have e1:((x.T.strs).lookup k).getD (.int .i64 0)=.int .i64 (((x.T.slots.lookup k).getD 0:Nat):Int):=by
       rw[uK];cases x.T.slots.lookup k<;>rfl
      rw[e1]at lk
      exact⟨cO hT'.head,e0.cellOf hb1,e0.cellOf cm,e0.cellOf k4,lk⟩
     have hn1:(x.T.slots.lookup k).getD 0≤1024:=by
      cases hc:x.T.slots.lookup k with
      | none=>simp
      | some n=>exact(HT.out.made x HM.out).2 _ (yZ hc)
     obtain⟨n,hn⟩:∃ n,(x.T.slots.lookup k).getD 0=n:=⟨_,rfl⟩
     have HN:=η hn
     rw[hn]at hTS hn1
     have s0:=hTS.out wr.drew (Ext.drew' (Ext.rfl' wr))
     clear hk hn
     go_wp2_with fail
     go_region_held3 (fun w'=>w'.cell? ⟨tb,0,none⟩=some (.pointer (some ⟨S.b,0,none⟩))∧w'.cell? ⟨tb,1,none⟩=some (.slice ma mn mc)∧w'.cell? (elt (.slice ma mn mc) i.toNat)=some (.pointer (some ⟨x.a,0,none⟩))∧w'.cell? ⟨x.a,4,none⟩=some (.map (some x.r)) ∧
       (Instr.lookup 156 (.map (some x.r)) (.string k) false).run Tryz.prog w'=.ok (.int .i64 (n:Int)) w')
      (first|exact s0|exact s5)
      ((first
       | (go_at_call 90;refine(tab_area i n _ hle (by omega) (by omega) (by omega)).mono ?_;rintro e w4 ⟨rfl,rfl⟩)
       | (go_at_call 92;refine(mem_area S.b S.r S.L (zS i n) _ hTd.mem).mono ?_;rintro e w5 ⟨bv,rfl,hbv,he5⟩;have s5:=hTS.out w5 (Ext.trans' (Ext.drew' (Ext.rfl' wr)) he5);have HBV:=η (hbv.rd (zG _));have HBO:=η hbv;have hw5:Ext wr w5:=Ext.trans' (Ext.drew' (Ext.rfl' wr)) he5;clear hbv)))
     all_goals
      obtain⟨ba,bn,bc,rfl,hbn,hBN⟩:=HBV.out.val
      obtain⟨c6,w6,hrun,hE6,hS6,hlt6⟩:=run_bytes_own k (by omega) w5
      have HS6:=η hS6
      have hw6:Ext wr w6:=hw5.trans' hE6
      have hkl:(gR k).length=k.size:=by unfold gR;rw[List.length_map,Array.length_toList];rfl
      have HNEW:Hid ((.cells #[.slice (some ⟨w5.heap.size,0,none⟩) k.size c6,.slice ba bn bc] 36:Obj)=.cells (([⟨some ⟨w5.heap.size,0,none⟩,c6,ba,bc,gR k,(vC (view S.L) (zS i n)).1⟩]:List IT).flatMap IT.enc).toArray 36):=η (by
       have e1:bn=(vC (view S.L) (zS i n)).1.length:=hBN.out
       rw[e1,← hkl];rfl)
      have HYL:Hid (Rd (w6.alloc (.cells #[.slice (some ⟨w5.heap.size,0,none⟩) k.size c6,.slice ba bn bc] 36)) 2 IT.enc (.slice (some ⟨w6.heap.size,0,none⟩) 1 1) [⟨some ⟨w5.heap.size,0,none⟩,c6,ba,bc,gR k,(vC (view S.L) (zS i n)).1⟩]):=η (by
       rw[HNEW.out]
       exact(Own.lit vQ (base:=0) (w:=w6) _ rfl rfl (Nat.zero_le _) (by simp[maxLen])).rd vQ)
      have hO6:=η ((HO.out.ext hw6).alloc (.cells #[.slice (some ⟨w5.heap.size,0,none⟩) k.size c6,.slice ba bn bc] 36))
      have hw7:Ext wr (w6.alloc (.cells #[.slice (some ⟨w5.heap.size,0,none⟩) k.size c6,.slice ba bn bc] 36)):=hw6.alloc' _
      have hwz:=hwr.size
      have hwz2:=hw7.size
      have HKL:=η hkl
      have HW6:Hid (w5.heap.size < w6.heap.size):=η hlt6
      clear hS6 hkl s5 hbn hlt6
      go_wp2_with (at_builtin;refine app_own2 el_item vQ rfl _ _ rfl rfl hO6.out rfl HYL.out ?q2 ?q3 ?q4)
      case q2=>have:=HIL.out;simp;omega
      case q3=>omega
      intro lv w8 hown hgrow hmv
      obtain⟨la,ln,lc,rfl,hln,hLN⟩:=(hown.rd vQ).val
      have hk8:=yB hgrow
      have hlo:∀ q∈(Value.slice oa on oc).ownBlock.toList,w2.heap.size≤q:=fun q hq=>(HO.out.lt (by simpa using hq)).1
      have hE8:Ext w2 w8:=hk8.below (hwr.trans' hw7) (hwr.trans' hw7).size hlo
      have HO8:=η hown
      have hown5:∀ q∈(Value.slice oa on oc).ownBlock.toList,q < wr.heap.size:=fun q hq=>(HO.out.lt (by simpa using hq)).2
      have hlv:∀ q∈(Value.slice la ln lc).ownBlock.toList,q∈(Value.slice oa on oc).ownBlock.toList∨w6.heap.size≤q:=fun q hq=>(hmv q (by simpa using hq)).imp (fun h=>by simpa using h) (fun h=>by simp at h;omega)
      have hw5s:=hw5.size
      have hw6s:w5.heap.size < w6.heap.size:=by
       obtain⟨c,hc⟩:∃ c,w5.heap.size=c:=⟨_,rfl⟩
       have h1:=HW6.out
       omega
      have hk9:Keep (Value.slice oa on oc).ownBlock.toList wr w8:=(Keep.of_ext hw7).trans hk8
      have HS8:Hid (∀ y∈I++[⟨some ⟨w5.heap.size,0,none⟩,c6,ba,bc,gR k,(vC (view S.L) (zS i n)).1⟩],∀ F w',(∀ q∈F,q < w2.heap.size∨q∈(Value.slice la ln lc).ownBlock.toList)→Keep F w8 w'→Sl w' .u8 y.kv y.key∧Sl w' .u8 y.vv y.val):=η (by
       have e1:bn=(vC (view S.L) (zS i n)).1.length:=hBN.out
       have s5z:=hw5.size
       refine items_step2 (wr:=wr) (w6:=w6) (B0:=w2.heap.size) hwr.size (v:=.slice oa on oc) hw6 hown5 HSI.out ?_ ?_ ?_ ?_ hgrow hlv
       ·simp only[IT.kv,HKL.out]
        exact HS6.out
       ·intro a n c e
        simp only[IT.kv]at e
        injection e with e
        injection e with e
        subst e
        exact⟨s5z,hw6s⟩
       ·simp only[IT.vv,← e1]
        exact(HBO.out.ext hE6).rd (zG _)
       ·simp only[IT.vv,← e1]
        exact own_blk HBO.out (by first|exact Nat.le_refl _|(simp;done)|(simp;omega)|omega) hE6)
      clear hown hgrow hmv hk8 hlo hw7 hw6 hw5
      go_wp2_with fail
      go_roundw
      case rel =>
       refine⟨j+1,I++[⟨some ⟨w5.heap.size,0,none⟩,c6,ba,bc,gR k,(vC (view S.L) (zS i n)).1⟩],by omega,by go_num,by simp[HIL.out],HO8,HS8,η ?_,⟨_,_,_,rfl⟩,hE8⟩
       rw[List.map_append,HMI.out,HTI.out,List.take_add_one,List.getElem?_map,HK.out]
       simp only[List.map_cons,List.map_nil,str_numsK,Option.map_some,Option.toList_some,HN.out]
      case measure=>simp[intOf];omega
  ·intro s v w' hnot hmem hlen hI' hk' hsz hen
   have hlo:∀ j,(Value.slice va vn vc).ownBlock=some j→w0.heap.size≤j:=fun j hj=>(HO.out.lt hj).1
   have hO1:=η (HO.out.keep hk' (fun j hj hF=>by have:=hlo j hj;rw[List.mem_singleton]at hF;omega))
   have hE1:Ext w w':=hk'.below hwr hwr.size (fun j hj=>by rw[List.mem_singleton]at hj;omega)
   have HI1:=η hI'
   have HLO:=η hlo
   have hsz2:=hE1.size
   have hxr:x.r < w.heap.size:=HSM.out.lt
   have hdn:done.length < 1000:=by have:=HDL.out;have:=HSL.out;have:=HBX.out.1;omega
   have hw0:w0.heap.size≤w'.heap.size:=by
    have:=HW0.out;rw[hsz];exact this
   have HYL:Hid (Rd (w'.alloc (.cells #[.string s] 9)) 1 encK (.slice (some ⟨w'.heap.size,0,none⟩) 1 1) [s]):=η ((Own.lit enc_k (base:=0) (e:=9) (w:=w') [s] rfl rfl (Nat.zero_le _) (by simp[maxLen])).rd enc_k)
   have hO2:=η (hO1.out.alloc (.cells #[.string s] 9))
   have HSZ:=η hsz
   clear hI' hlo hsz
   go_wp2_with (at_builtin;refine app_own2 el_str enc_k rfl _ _ rfl rfl hO2.out rfl HYL.out ?q6 ?q7 ?q8)
   case q6=>simp;omega
   case q7=>simp;omega
   intro lv w8 hown hgrow hmv
   have hk8:=yB hgrow
   have hE8:Ext w w8:=hk8.below (hE1.alloc' _) (hE1.alloc' _).size (fun j hj=>by have:=HLO.out j (by simpa using hj);omega)
   obtain⟨la,ln,lc,rfl,hln,hLN⟩:=(hown.rd enc_k).val
   have hI8:Hid (SIter w8 x.r q x.T.strs (done++[s])):=η ((HI1.out.keep (F:=[]) (Keep.of_ext ((Ext.rfl' w').alloc' _)) (fun h=>by cases h) (fun h=>by cases h)).keep hk8 (fun hj=>by
    have h1:=HLO.out _ (by simpa using hj)
    omega) (fun hj=>by
    have h1:=HLO.out _ (by simpa using hj)
    omega))
   have HO8:=η hown
   have hss8:=hk8.size
   have hsa:w'.heap.size≤(w'.alloc (.cells #[.string s] 9)).heap.size:=((Ext.rfl' w').alloc' _).size
   clear hgrow hmv hk8 hown hE1 hwr
   go_wp2_with fail
   go_roundw
   case rel=>exact⟨done++[s],hI8.out,HO8,⟨_,_,_,rfl⟩,by have:=hLN.out;simp only[lenV];exact this,by simp;omega,η (Nat.le_trans hw0 (Nat.le_trans hsa hss8)),hE8⟩
   case measure=>have h1:=HVN.out;have h2:=hLN.out;simp only[List.length_append,List.length_singleton]at h2;simp only[lenV];omega
abbrev Lies:=World→List Nat→List Nat→Prop
structure Kept (A:Lies):Prop where
 keep:∀ {w w':World} {f z F:List Nat},A w f z→Keep F w w'→(∀ j∈f,j ∉ F)→(∀ j∈z,j ∉ F)→A w' f z
 lt:∀ {w:World} {f z:List Nat},A w f z→(∀ j∈f,j < w.heap.size)∧∀ j∈z,j < w.heap.size
structure RelT (A:Lies)(F0 Z0:List Nat)(wf w:World):Prop where
 keep:Keep F0 wf w
 lay:∃ f z,A w f z∧(∀ j∈f,j∈F0∨wf.heap.size≤j)∧∀ j∈z,j∈Z0∨wf.heap.size≤j
def Two2 (A B:Lies)(Q:List Nat)(w:World):Prop :=
 ∃ fa za fb zb,A w fa za∧B w fb zb∧(∀ j∈fa,j ∉ fb∧j ∉ zb)∧(∀ j∈fb,j ∉ za)∧∀ q∈Q,q < w.heap.size∧q ∉ fa∧q ∉ fb
section
variable {A B A':Lies} {F0 Z0 Z Zb Q:List Nat} {wf w w' w0 w1 wb:World}
theorem RelT.root (hk:Kept A)(h:RelT A F0 Z0 wf w):∃ F Z,RelT A F Z w w∧(∀ j∈F,j < w.heap.size∧(j∈F0∨wf.heap.size≤j))∧(∀ j∈Z,j < w.heap.size∧(j∈Z0∨wf.heap.size≤j))∧∀ A' w',RelT A' F Z w w'→RelT A' F0 Z0 wf w':=by
 obtain⟨k,f,z,h1,h2,h3⟩:=h
 refine⟨f,z,⟨Keep.rfl' _ _,f,z,h1,fun j hj=>.inl hj,fun j hj=>.inl hj⟩,fun j hj=>⟨(hk.lt h1).1 j hj,h2 j hj⟩,fun j hj=>⟨(hk.lt h1).2 j hj,h3 j hj⟩,?_⟩
 rintro A' w' ⟨k',f',z',g1,g2,g3⟩
 have hs:=k.size
 refine⟨k.through k' h2,f',z',g1,fun j hj=>?_,fun j hj=>?_⟩
 ·exact(g2 j hj).elim (h2 j) (fun h=>.inr (by omega))
 ·exact(g3 j hj).elim (h3 j) (fun h=>.inr (by omega))
theorem Kept.ext (hk:Kept A){f z:List Nat}(h:A w f z)(k:Ext w w'):A w' f z:=hk.keep (F:=[]) h (Keep.of_ext k) (fun _ _=>by simp) (fun _ _=>by simp)
theorem Two2.symm (h:Two2 A B Q w):Two2 B A Q w:=by
 obtain⟨fa,za,fb,zb,h1,h2,h3,h4,h7⟩:=h
 exact⟨fb,zb,fa,za,h2,h1,fun j hj=>⟨fun hj'=>(h3 j hj').1 hj,h4 j hj⟩,fun j hj=>(h3 j hj).2,fun q hq=>⟨(h7 q hq).1,(h7 q hq).2.2,(h7 q hq).2.1⟩⟩
theorem Two2.more (ka:Kept A)(kb:Kept B)(h:Two2 A B Q w)(k:Ext w w'){Q':List Nat}(hQ:∀ q∈Q',w.heap.size≤q∧q < w'.heap.size):Two2 A B (Q'++Q) w':=by
 obtain⟨fa,za,fb,zb,h1,h2,h3,h4,h7⟩:=h
 have:=k.size
 refine⟨fa,za,fb,zb,ka.ext h1 k,kb.ext h2 k,h3,h4,fun q hq=>?_⟩
 rcases List.mem_append.1 hq with hq|hq
 ·have:=hQ q hq
  exact⟨this.2,fun hj=>by have:=(ka.lt h1).1 q hj;omega,fun hj=>by have:=(kb.lt h2).1 q hj;omega⟩
 ·exact⟨by have:=(h7 q hq).1;omega,(h7 q hq).2⟩
theorem Two2.ext (ka:Kept A)(kb:Kept B)(h:Two2 A B Q w)(k:Ext w w'):Two2 A B Q w':=by
 have:=h.more ka kb k (Q':=[]) (fun q hq=>by cases hq)
 simpa using this
theorem Two2.made (ka:Kept A)(hA:RelT A [] Z w0 w1)(hE:Ext w1 wb)(hB:RelT B [] Zb wb w)(hZb:∀ j∈Zb,j < w0.heap.size∨w1.heap.size≤j):Two2 A B (List.range w0.heap.size) w:=by
 obtain⟨k1,fa,za,a1,a2,a3⟩:=hA
 obtain⟨k2,fb,zb,b1,b2,b3⟩:=hB
 have s1:=k1.size
 have s2:=hE.size
 have s3:=k2.size
 have hE2:Ext wb w:=k2.ext (fun _ h=>by cases h)
 have hlt:=(ka.lt a1).1
 refine⟨fa,za,fb,zb,ka.ext a1 (hE.trans' hE2),b1,fun j hj=>⟨fun hj'=>?_,fun hj'=>?_⟩,fun j hj hj'=>?_,fun q hq=>?_⟩
 ·have:=hlt j hj
  have:=(b2 j hj').resolve_left (by simp)
  omega
 ·have:=hlt j hj
  have h1:=(a2 j hj).resolve_left (by simp)
  rcases b3 j hj' with h|h
  ·rcases hZb j h with h|h<;>omega
  ·omega
 ·have:=(b2 j hj).resolve_left (by simp)
  have:=(ka.lt a1).2 j hj'
  omega
 ·have hq:=List.mem_range.1 hq
  exact⟨by omega,fun hj=>by have:=(a2 q hj).resolve_left (by simp);omega,fun hj=>by have:=(b2 q hj).resolve_left (by simp);omega⟩
theorem Two2.both (ka:Kept A)(kb:Kept B)(h:Two2 A B Q w):∃ F Z,RelT A F Z w w∧(∀ q∈F,q ∉ Q)∧(∀ q∈F,q < w.heap.size)∧(∀ q∈Z,q < w.heap.size)∧∀ A' w',RelT A' F Z w w'→Two2 A' B Q w':=by
 obtain⟨fa,za,fb,zb,h1,h2,h3,h4,h7⟩:=h
 have hla:=(ka.lt h1).1
 have hlb:=(kb.lt h2).1
 refine⟨fa,za,⟨Keep.rfl' _ _,fa,za,h1,fun j hj=>.inl hj,fun j hj=>.inl hj⟩,fun q hq hQ=>(h7 q hQ).2.1 hq,hla,(ka.lt h1).2,?_⟩
 rintro A' w' ⟨k,fa',za',k1,k2,k3⟩
 have hs:=k.size
 refine⟨fa',za',fb,zb,k1,kb.keep h2 k (fun j hj hj'=>(h3 j hj').1 hj) (fun j hj hj'=>(h3 j hj').2 hj),fun j hj=>?_,fun j hj hj'=>?_,fun q hq=>⟨by have:=(h7 q hq).1;omega,fun hj=>?_,(h7 q hq).2.2⟩⟩
 ·rcases k2 j hj with h|h
  ·exact h3 j h
  ·exact⟨fun hj'=>by have:=hlb j hj';omega,fun hj'=>by have:=(kb.lt h2).2 j hj';omega⟩
 ·rcases k3 j hj' with h|h
  ·exact h4 j hj h
  ·have:=hlb j hj;omega
 ·rcases k2 q hj with h|h
  ·exact(h7 q hq).2.1 h
  ·have:=(h7 q hq).1;omega
end
def DM (base mb:Nat)(σ:RS):Lies:=fun w f z=>∃ l,MAt w base mb σ l∧f=zX mb l∧z=mfrz l
def PM (base mb:Nat)(σ:RS):Lies:=fun w f z=>∃ T l,VRel (σ.V.1,T) σ.V∧PAt w base mb (σ.vt T) l∧f=zW mb l∧z=pfrz l
section
variable {F0 Z0:List Nat} {wf w w':World} {base mb:Nat} {σ:RS}
theorem DM.kept:Kept (DM base mb σ):=⟨by
 rintro w w' f z F ⟨l,h,rfl,rfl⟩ k h1 h2
 exact⟨l,h.keep k h1 h2,rfl,rfl⟩,by
 rintro w f z ⟨l,h,rfl,rfl⟩
 exact⟨h.lt,fun j hj=>(h.frz j hj).2⟩⟩
theorem PM.kept:Kept (PM base mb σ):=⟨by
 rintro w w' f z F ⟨T,l,r,h,rfl,rfl⟩ k h1 h2
 exact⟨T,l,r,h.keep k h1 h2,rfl,rfl⟩,by
 rintro w f z ⟨T,l,r,h,rfl,rfl⟩
 exact⟨h.lt,fun j hj=>(h.frz j hj).2⟩⟩
theorem MRel.relT (h:MRel F0 Z0 wf base w mb σ):RelT (DM base mb σ) F0 Z0 wf w:=by
 obtain⟨k,_,l,h1,h2,h3⟩:=h
 exact⟨k,_,_,⟨l,h1,rfl,rfl⟩,h2,h3⟩
theorem RelT.mrel (h:RelT (DM base mb σ) F0 Z0 wf w)(hb:base≤wf.heap.size):MRel F0 Z0 wf base w mb σ:=by
 obtain⟨k,f,z,⟨l,h1,rfl,rfl⟩,h2,h3⟩:=h
 exact⟨k,hb,l,h1,h2,h3⟩
theorem PS.relT (h:PS F0 Z0 wf base w mb σ):RelT (PM base mb σ) F0 Z0 wf w:=by
 obtain⟨T,r,k,_,l,h1,h2,h3⟩:=h
 exact⟨k,_,_,⟨T,l,r,h1,rfl,rfl⟩,h2,h3⟩
theorem RelT.ps (h:RelT (PM base mb σ) F0 Z0 wf w)(hb:base≤wf.heap.size):PS F0 Z0 wf base w mb σ:=by
 obtain⟨k,f,z,⟨T,l,r,h1,rfl,rfl⟩,h2,h3⟩:=h
 exact⟨T,r,k,hb,l,h1,h2,h3⟩
end
def ClSm (c:Cl):Prop:=c.key.length≤1024∧c.val.length≤1024∧c.n.length≤4
def CallsSm (σ:RS):Prop:=∀ c∈σ.calls,ClSm c
theorem mread_le (M:Areas)(p s:Int):(yK M p s).1.length≤1024:=by
 unfold yK
 split
 ·simp
 ·rename_i h
  split
  ·simp
  ·split
   ·simp
   ·simp only[cutL,List.length_take,List.length_drop]
    omega
section
variable {σ:RS}
theorem tell_sm (c:Cl)(i:Nat)(t:Int)(h:c.key.length≤1024∧c.val.length≤1024):((σ.tell c i t).1.key.length≤1024∧(σ.tell c i t).1.val.length≤1024)∧(σ.tell c i t).1.n.length≤c.n.length+1:=by
 unfold RS.tell
 split
 ·exact⟨h,Nat.le_succ _⟩
 split
 ·exact⟨h,Nat.le_succ _⟩
 split
 ·exact⟨⟨mread_le _ _ _,h.2⟩,Nat.le_succ _⟩
 split
 ·exact⟨⟨h.1,mread_le _ _ _⟩,Nat.le_succ _⟩
 ·exact⟨h,by simp⟩
theorem tells_sm:∀ (ts:List Int) (c:Cl) (i:Nat),(c.key.length≤1024∧c.val.length≤1024)→c.n.length+ts.length≤4→ClSm (σ.tells c i ts).1
 | [],c,i,h,hn=>⟨h.1,h.2,by show c.n.length≤4;simpa using hn⟩
 | t :: ts,c,i,h,hn=>by
  have:=tell_sm (σ:=σ) c i t h
  simp only[List.length_cons]at hn
  unfold RS.tells
  split
  ·exact⟨this.1.1,this.1.2,by omega⟩
  ·exact tells_sm ts _ _ this.1 (by omega)
theorem told_sm (id:Int):ClSm (σ.told id).1:=by
 unfold RS.told
 split
 ·exact⟨by simp[Cl.new],by simp[Cl.new],by simp[Cl.new]⟩
 ·exact tells_sm _ _ _ ⟨by simp[Cl.new],by simp[Cl.new]⟩ (by have:=tV id;simp[Cl.new];exact this)
theorem sm_done {s:RS}(hs:CallsSm s){c:Cl}(hc:ClSm c):CallsSm (s.done c):=by
 intro d hd
 have:d∈s.calls++[c]:=hd
 rcases List.mem_append.1 this with h|h
 ·exact hs d h
 ·rw[List.mem_singleton]at h;subst h;exact hc
theorem call_sm (h:CallsSm σ)(x:Ins):CallsSm (σ.call x).1:=by
 have hc:∀ n,ClSm {(σ.told x.imm).1 with ret:=n}:=fun n=>told_sm (σ:=σ) x.imm
 unfold RS.call
 split
 ·exact h
 split
 ·exact h
 split
 ·split
  ·exact h
  ·exact sm_done (s:={σ with dr:=yD x.imm σ.dr}) h (hc _)
 split
 ·exact h
 ·exact sm_done (s:={σ with V:=_}) h (hc _)
theorem does_sm (h:CallsSm σ)(x:Ins)(k:Wh):CallsSm (σ.does x k).1:=by
 by_cases h11:k.kind=11
 ·have e:σ.does x k=((σ.call x).1,((zT x σ.place.toNat:Nat):Int),(σ.call x).2):=by simp only[RS.does,h11];simp
  rw[e]
  exact call_sm h x
 ·intro c hc
  rw[does_calls x k h11]at hc
  exact h c hc
theorem step_sm (h:CallsSm σ):CallsSm σ.step.1:=by
 unfold RS.step
 split
 ·exact h
 ·split
  ·exact h
  ·split
   ·exact does_sm h _ _
   ·exact does_sm h _ _
end
structure RunOk (F0 Z0:List Nat)(wf:World)(base mb:Nat)(τ:RS)(lo:Nat)(w':World)(cv mv:Value):Prop where
 keep:Keep F0 wf w'
 mach:∃ f z,PM base mb τ w' f z∧(∀ j∈f,(j∈F0∨wf.heap.size≤j)∧j < lo)∧∀ j∈z,(j∈Z0∨wf.heap.size≤j)∧j < lo
 low:wf.heap.size≤lo∧lo≤w'.heap.size
 cs:∃ cs,Own w' lo 76 6 CB.enc cv cs∧cs.map (·.c)=τ.calls∧∀ c∈cs,CAt w' lo c
 mp:∃ rows,Own w' lo 34 1 encW mv rows∧rows.length=τ.D.length∧∀ (j:Nat) row,rows[j]?=some row→∀ F u,(∀ x∈F,x < lo)→Keep F w' u→IsItems u row.v (pB τ.V (j:Int))
def RunP (F0 Z0:List Nat)(wf:World)(base mb:Nat)(τ:RS)(e:Ending)(w':World):Prop :=
 ∃ lo cv mv,e=.returned (.agg #[.int .i64 τ.endV.code,.int .i64 τ.endV.at_,.int .u64 τ.endV.r0,.int .i64 τ.endV.steps,cv,mv])∧RunOk F0 Z0 wf base mb τ lo w' cv mv
section
variable {F0 Z0:List Nat} {wf w w':World} {base mb lo:Nat} {τ:RS} {cv mv:Value}
theorem RunOk.ps (h:RunOk F0 Z0 wf base mb τ lo w cv mv)(hb:base≤wf.heap.size):PS F0 Z0 wf base w mb τ:=by
 obtain⟨f,z,h1,h2,h3⟩:=h.mach
 exact RelT.ps ⟨h.keep,f,z,h1,fun j hj=>(h2 j hj).1,fun j hj=>(h3 j hj).1⟩ hb
theorem PS.items {σ:RS}(h:PS F0 Z0 wf base w mb σ):∃ tb,w.cell? ⟨mb,24,none⟩=some (.pointer (some ⟨tb,0,none⟩))∧Hid (∀ W i,Ext w W→Calls Tryz.prog 56 #[.pointer (some ⟨tb,0,none⟩),.int .i64 i] W (ItemsO (pB σ.V i) W)):=by
 obtain⟨T,r,h0,hl,l,h1,h2,h3⟩:=h
 refine⟨l.tb,h1.cell 24 rfl,η fun W i he=>?_⟩
 have hsm:=r.small.1
 have:=tab_items2 base l.tb l.T i W (h1.tab.ext he) (η fun x hx=>hsm x.T (by
  have hv:=h1.view
  have:(σ.vt T).V.2=T:=rfl
  have e:(zN l.T).2=T:=by rw[hv];rfl
  show x.T∈T
  rw[← e]
  exact List.mem_map.2 ⟨x,hx,rfl⟩))
 rw[h1.view]at this
 have e:gM (σ.vt T).V i=pB σ.V i:=(items_rel r i).symm
 rw[e]at this
 exact this
end
theorem cb_at {w:World}{v:Value}{cs:List CB}{k:Nat}{x:CB}(h:Rd w 6 CB.enc v cs)(hx:cs[k]?=some x):
  w.cell? (elt v (k * 6))=some (.int .i64 x.c.id)∧w.cell? ⟨(elt v (k * 6)).block,(elt v (k * 6)).off+1,none⟩=some (.int .i64 x.c.map)∧w.cell? ⟨(elt v (k * 6)).block,(elt v (k * 6)).off+2,none⟩=some (.slice x.ka x.c.key.length x.kc)∧w.cell? ⟨(elt v (k * 6)).block,(elt v (k * 6)).off+3,none⟩=some (.slice x.va x.c.val.length x.vc)∧w.cell? ⟨(elt v (k * 6)).block,(elt v (k * 6)).off+4,none⟩=some (.slice x.na x.c.n.length x.nc)∧w.cell? ⟨(elt v (k * 6)).block,(elt v (k * 6)).off+5,none⟩=some (.int .u64 x.c.ret):=by
 have E:=h.elt_add hx
 have F:∀ (p:Addr) (j:Nat),j≠0→(⟨p.block,p.off+j,none⟩:Addr)=p.add j:=fun p j h=>by simp[Addr.add,h]
 rw[F _ 1 (by decide),F _ 2 (by decide),F _ 3 (by decide),F _ 4 (by decide),F _ 5 (by decide),E,E,E,E,E]
 exact⟨h.cell hx (j:=0) rfl,h.cell hx (j:=1) rfl,h.cell hx (j:=2) rfl,h.cell hx (j:=3) rfl,h.cell hx (j:=4) rfl,h.cell hx (j:=5) rfl⟩
section
variable {P:Program} {ops:Array Oper} {Q:Exit→Act→World→Prop} {md:Region.Mode} {S:World→Prop} {s:Nat}
def GS (S:World→Prop)(s:Nat)(listed:Array Bool)(w:World):Prop:=listed.getD s false=true∨S w
def qE (P:Program)(md:Region.Mode)(ops:Array Oper)(Q:Exit→Act→World→Prop)(S:World→Prop)(s:Nat):Nat→Array Bool→Act→World→Prop
 | 0,listed,a,w=>Region.ready md ops listed=[]∧Q .normal a w
 | fuel+1,listed,a,w =>
  (Region.ready md ops listed=[]→Q .normal a w) ∧
  ∀ i∈Region.ready md ops listed,wpOp P ops Q i (fun a' w'=>GS S s (listed.setIfInBounds i true) w'∧qE P md ops Q S s fuel (listed.setIfInBounds i true) a' w') a w
theorem wpAny_of_G:∀ (fuel:Nat) (listed:Array Bool) (a:Act) (w:World),qE P md ops Q S s fuel listed a w→wpAny P md ops Q fuel listed a w
 | 0,_,_,_,h=>h
 | fuel+1,_,_,_,h=>⟨h.1,fun i hi=>wpOp_mono (fun a' w' h'=>wpAny_of_G fuel _ a' w' h'.2) (h.2 i hi)⟩
theorem GS.set {listed:Array Bool}{w:World}{i:Nat}(h:GS S s listed w)(hi:i≠s):GS S s (listed.setIfInBounds i true) w:=by
 unfold GS at *
 rw[getD_set_ne false hi]
 exact h
theorem GS.unset {listed:Array Bool}{w:World}{i:Nat}(h:GS S s (listed.setIfInBounds i true) w)(hi:i≠s):GS S s listed w:=by
 unfold GS at *
 rw[getD_set_ne false hi]at h
 exact h
theorem ready_not {listed:Array Bool}{i:Nat}{oj:Oper}(hr:i∈Region.ready md ops listed)(hall:∀ e∈oj.after,Region.binds md e=true→listed.getD e.on false=true):∀ e∈oj.after,Region.binds md e=true→e.on≠i:=fun e he hb heq=>by
 have h1:=hall e he hb
 have h0:=(mem_ready.1 hr).1
 rw[heq]at h1
 rcases Nat.lt_or_ge i listed.size with h'|h'
 ·simp[h']at h0 h1;rw[h0]at h1;cases h1
 ·simp[Array.getElem?_eq_none h']at h1
theorem wpAnyG_first {Y:World→Prop}{i:Nat}{oi:Oper}{v:Value}(his:i≠s)(hi:ops[i]?=some oi)(hsel:∀ (j:Nat) (o:Oper) cs b,ops[j]?=some o→o.op≠.select cs b)
  (hQ:∀ c a w,Q (.panic c) (a.put oi.dst v) w→Q (.panic c) a w) (B:Array Bool→Prop)
  (keepB:∀ (listed:Array Bool) (j:Nat) (oj:Oper),B listed→ops[j]?=some oj→(∀ e∈oj.after,Region.binds md e=true→e.on≠i)→B (listed.setIfInBounds j true))
  (keepY:∀ listed w,B listed→GS S s listed w→Y w) :
  ∀ (fuel:Nat) (listed:Array Bool) (a:Act) (w:World),
   (∀ j oj,ops[j]?=some oj→j≠i→listed.getD j true=false→(∀ e∈oj.after,Region.binds md e=true→e.on≠i)→oi.apart ops oj=true) →
   i∈Region.ready md ops listed→YieldsIf P ops Y oi v a→B listed→GS S s listed w →
   qE P md ops Q S s fuel (listed.setIfInBounds i true) (a.put oi.dst v) w→qE P md ops Q S s (fuel+1) listed a w:=by
 intro fuel
 induction fuel with
 | zero =>
  intro listed a w _ hr hy hB hG H
  refine⟨fun h=>(by rw[h]at hr;cases hr),fun j hj=>?_⟩
  by_cases hji:j=i
  ·subst hji;exact hy.wpOp hi (keepY _ _ hB hG) ⟨hG.set his,H⟩
  ·have:=ready_mono hj hji
   rw[H.1]at this
   cases this
 | succ fuel ih =>
  intro listed a w hfree hr hy hB hG H
  refine⟨fun h=>(by rw[h]at hr;cases hr),fun j hj=>?_⟩
  by_cases hji:j=i
  ·subst hji;exact hy.wpOp hi (keepY _ _ hB hG) ⟨hG.set his,H⟩
  ·have h1:=H.2 j (ready_mono hj hji)
   obtain⟨hjun,oj,hoj,hall⟩:=mem_ready.1 hj
   have hnot:=ready_not hr hall
   have h2:=wpOp_putIf hoj (hfree j oj hoj hji hjun hnot) (fun cs b=>hsel i oi cs b hi) (fun cs b=>hsel j oj cs b hoj) hQ hy h1
   have hfree':∀ k ok,ops[k]?=some ok→k≠i→(listed.setIfInBounds j true).getD k true=false →
     (∀ e∈ok.after,Region.binds md e=true→e.on≠i)→oi.apart ops ok=true:=fun k ok hk hki hun hno=>by
    refine hfree k ok hk hki ?_ hno
    by_cases hjk:j=k
    ·subst hjk;exact hjun
    ·rw[getD_set_ne true hjk]at hun;exact hun
   refine wpOp_mono (fun a' w' h3=>?_) h2
   have hc:(listed.setIfInBounds i true).setIfInBounds j true=(listed.setIfInBounds j true).setIfInBounds i true:=Array.setIfInBounds_comm _ _ (fun h=>hji h.symm)
   rw[hc]at h3
   have hG':GS S s (listed.setIfInBounds j true) w':=h3.2.1.unset his
   exact⟨hG',ih (listed.setIfInBounds j true) a' w' hfree' (ready_mono hr (Ne.symm hji)) h3.1 (keepB _ j oj hB hoj hnot) hG' h3.2.2⟩
theorem jH {i:Nat}{oi:Oper}{v:Value}{fuel:Nat}{listed:Array Bool}{a:Act}{w:World}(his:i≠s)(hi:ops[i]?=some oi)(hs:Region.noSelect ops=true)(hf:Region.free md ops listed i=true)(hr:(Region.ready md ops listed).contains i=true)
  (hQ:∀ c a w,Q (.panic c) (a.put oi.dst v) w→Q (.panic c) a w) (hy:YieldsIf P ops (fun _=>True) oi v a) (hG:GS S s listed w)
  (h:qE P md ops Q S s fuel (listed.setIfInBounds i true) (a.put oi.dst v) w):qE P md ops Q S s (fuel+1) listed a w :=
 wpAnyG_first his hi (Region.noSelect_spec hs) hQ (fun _=>True) (fun _ _ _ _ _ _=>trivial) (fun _ _ _ _=>trivial) fuel listed a w (Region.free_spec hi hf) (by simpa using hr) hy trivial hG h
def waitsFor (md:Region.Mode)(ops:Array Oper)(s i:Nat):Bool:=match ops[s]? with|some os=>os.after.any (fun e=>Region.binds md e && e.on == i)|none=>false
theorem gS {i:Nat}{oi:Oper}{v:Value}{fuel:Nat}{listed:Array Bool}{a:Act}{w:World}(his:i≠s)(hi:ops[i]?=some oi)(hs:Region.noSelect ops=true)(hf:Region.free md ops listed i=true)(hr:(Region.ready md ops listed).contains i=true)
  (hw:waitsFor md ops s i=true) (hun:listed.getD s false=false) (hQ:∀ c a w,Q (.panic c) (a.put oi.dst v) w→Q (.panic c) a w) (hy:YieldsIf P ops S oi v a) (hG:GS S s listed w)
  (h:qE P md ops Q S s fuel (listed.setIfInBounds i true) (a.put oi.dst v) w):qE P md ops Q S s (fuel+1) listed a w:=by
 refine wpAnyG_first (Y:=S) his hi (Region.noSelect_spec hs) hQ (fun l=>l.getD s false=false) (fun l j oj hB hoj hnot=>?_) (fun l w' hB hG'=>?_) fuel listed a w (Region.free_spec hi hf) (by simpa using hr) hy hun hG h
 ·by_cases hjs:j=s
  ·subst hjs
   unfold waitsFor at hw
   rw[hoj]at hw
   simp only[Array.any_eq_true',Bool.and_eq_true,beq_iff_eq]at hw
   obtain⟨e,he,hb,hon⟩:=hw
   exact absurd hon (hnot e he hb)
  ·show (l.setIfInBounds j true).getD s false=false
   rw[getD_set_ne false hjs];exact hB
 ·rcases hG' with h'|h'
  ·rw[hB]at h';cases h'
  ·exact h'
theorem jV {k:Nat}{o:Oper}{fuel:Nat}{listed:Array Bool}{a:Act}{w:World}(hr:Region.ready md ops listed=[k])(ho:ops[k]?=some o)
  (h:∀ K':Act→World→Prop,Shut (∀ a w,GS S s (listed.setIfInBounds k true) w→(GS S s (listed.setIfInBounds k true) w→qE P md ops Q S s fuel (listed.setIfInBounds k true) a w)→K' a w)→if Region.wanted o (yielded ops a.tmps)=true then Oper.wp P o a w K' Q else K' (a.put o.dst undef) w) :
  qE P md ops Q S s (fuel+1) listed a w:=by
 refine⟨(fun h0=>by rw[hr]at h0;cases h0),fun i hi=>?_⟩
 rw[hr,List.mem_singleton]at hi
 subst hi
 exact wpOp_step ho (fun K' hK=>h K' (fun a w hS hW=>hK a w ⟨hS,hW hS⟩))
theorem wpAnyG_done {listed:Array Bool}{a:Act}{w:World}(hr:Region.ready md ops listed=[])(h:Q .normal a w):∀ fuel,qE P md ops Q S s fuel listed a w
 | 0=>⟨hr,h⟩
 | _+1=>⟨fun _=>h,by rw[hr];simp⟩
theorem wp_region_G {id:Nat}{a:Act}{w:World}(S:World→Prop)(s:Nat)(hm:P.follows .mixedOrders=true)(h:qE P .any ops Q S s ops.size (Array.replicate ops.size false) a w.drew):(Code.region id ops true).wp P Q a w :=
 wp_region_any hm (wpAny_of_G _ _ _ _ h)
end
end Go.Proofs.YtppefchjoodgnaaGreat
