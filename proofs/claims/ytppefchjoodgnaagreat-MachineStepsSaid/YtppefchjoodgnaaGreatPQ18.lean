import Derived.Test.YtppefchjoodgnaaGreatPQ17
import Derived.Test.YtppefchjoodgnaaGreatPQ03
import Derived.Test.YtppefchjoodgnaaGreatPQ08
import Derived.Test.YtppefchjoodgnaaGreatPQ09
import Derived.Test.YtppefchjoodgnaaGreatPQ07
set_option linter.unusedSimpArgs false
set_option linter.unusedVariables false
namespace Go.Proofs.YtppefchjoodgnaaGreat
open Go.RowKit
def BytesOk (M:Areas):Prop:=∀ q∈M,∀ x∈q.2.bytes,0≤x∧x≤255
theorem pow_le8:∀ k:Nat,k≤8→(256:Int) ^ k≤18446744073709551616:=by decide
theorem uN {M:Areas}(hM:BytesOk M)(p s:Int):u64R (kE M p s).1:=by
 unfold kE
 split
 ·rename_i hs
  obtain⟨h1,h2⟩:=mread_u8 hM p s
  obtain⟨h3,h4⟩:=le_lt _ h1
  have h5:(yK M p s).1.length≤8:=by
   simp only[vU,Bool.or_eq_true,beq_iff_eq]at hs
   omega
  have:=pow_le8 _ h5
  exact⟨h3,by omega⟩
 ·exact⟨by decide,by decide⟩
section
variable {F0 Z0:List Nat} {wf w w':World} {base mb:Nat} {σ:RS} {l:RLay}
theorem MAt.lt (h:MAt w base mb σ l):∀ j∈zX mb l,j < w.heap.size:=fun j hj=>by
 simp only[zX,List.mem_cons,List.mem_append]at hj
 rcases hj with rfl|hj|hj
 ·exact zE h.head
 ·exact(h.calls.lt (by simpa using hj)).2
 ·exact(h.tab.lt j hj).2
theorem MAt.tabStep (h:MAt w base mb σ l)(k:Keep (zH l.tb l.T) w w'){T':RTabs}(ht:RTabAt w' base l.tb T')(hrb:T'.rb=l.T.rb)(hf:∀ j∈zH l.tb T',j∈zH l.tb l.T∨w.heap.size≤j):
  MAt w' base mb {σ with V:=yC T'} {l with T:=T'}:=by
 have hlt:=h.lt
 have n0:=List.nodup_cons.1 h.apart
 have n1:=List.nodup_append.1 n0.2
 have hmb:mb ∉ zH l.tb l.T:=fun hj=>n0.1 (List.mem_append_right _ hj)
 have hcv:∀ j,l.cv.ownBlock=some j→j ∉ zH l.tb l.T:=fun j hj hj'=>n1.2.2 j (by simpa using hj) j hj' rfl
 have hx:∀ j∈mfrz l,j ∉ zH l.tb l.T:=fun j hj hj'=>(h.frz j hj).1 (by simp[zX,hj'])
 have hz:∀ {v:Value},(∀ j∈vblk v,j∈mfrz l)→∀ a n c,v=.slice (some a) n c→a.block ∉ zH l.tb l.T:=fun hv=>kD fun j hj=>hx j (hv j hj)
 have hnew:∀ j,j < w.heap.size→j ∉ zH l.tb l.T→j ∉ zH l.tb T':=fun j h1 h2 h3=>(hf j h3).elim h2 (fun h4=>by omega)
 refine⟨?_,h.low,ht,rfl,h.calls.keep k hcv,h.cls,fun c hc=>⟨?_,?_,?_⟩,?_,?_,?_,?_,?_⟩
 ·have:=k.obj h.head hmb
  rw[this]
  simp only[xY,hrb]
 ·exact(h.callS c hc).1.keep k (hz fun j hj=>jF hc (by simp[hj]))
 ·exact(h.callS c hc).2.1.keep k (hz fun j hj=>jF hc (by simp[hj]))
 ·exact(h.callS c hc).2.2.keep k (hz fun j hj=>jF hc (by simp[hj]))
 ·exact h.code.keepF k (fun j hj=>hx j (by simp[mfrz,hj]))
 ·exact h.defs.keepF k (fun j hj=>hx j (by simp[mfrz,hj]))
 ·exact h.draws.keep k (hz fun j hj=>by simp[mfrz,hj])
 ·simp only[zX]
  rw[List.nodup_cons,List.nodup_append]
  refine⟨?_,n1.1,ht.apart,?_⟩
  ·intro hj
   rcases List.mem_append.1 hj with hj|hj
   ·exact n0.1 (List.mem_append_left _ hj)
   ·exact hnew mb (zE h.head) hmb hj
  ·intro a ha b hb e
   subst e
   have ha':l.cv.ownBlock=some a:=by simpa using ha
   exact hnew a (h.calls.lt ha').2 (hcv a ha') hb
 ·intro j hj
  have h1:=h.frz j hj
  refine⟨fun h2=>?_,Nat.lt_of_lt_of_le h1.2 k.size⟩
  simp only[zX,List.mem_cons,List.mem_append]at h2
  rcases h2 with rfl|h2|h2
  ·exact h1.1 (by simp[zX])
  ·exact h1.1 (by simp[zX,h2])
  ·exact hnew j h1.2 (fun h3=>h1.1 (by simp[zX,h3])) h2
theorem MRel.tabStep (h0:Keep F0 wf w)(hl:base≤wf.heap.size)(h:MAt w base mb σ l)(h2:∀ j∈zX mb l,j∈F0∨wf.heap.size≤j)(h3:∀ j∈mfrz l,j∈Z0∨wf.heap.size≤j)
  (k:Keep (zH l.tb l.T) w w') {T':RTabs} (ht:RTabAt w' base l.tb T') (hrb:T'.rb=l.T.rb) (hf:∀ j∈zH l.tb T',j∈zH l.tb l.T∨w.heap.size≤j) :
  MRel F0 Z0 wf base w' mb {σ with V:=yC T'}:=by
 refine⟨h0.through k (fun j hj=>h2 j (by simp[zX,hj])),hl,_,h.tabStep k ht hrb hf,fun j hj=>?_,h3⟩
 simp only[zX,List.mem_cons,List.mem_append]at hj
 rcases hj with rfl|hj|hj
 ·exact h2 _ (by simp[zX])
 ·exact h2 _ (by simp[zX,hj])
 ·rcases hf j hj with h4|h4
  ·exact h2 _ (by simp[zX,h4])
  ·exact .inr (Nat.le_trans h0.size h4)
theorem MRel.mem (h:MRel F0 Z0 wf base w mb σ):∃ rb lv L,w.cell? ⟨mb,23,none⟩=some (.pointer (some ⟨rb,0,none⟩))∧Hid (zV L=σ.V.1)∧Hid (∀ w',Ext w w'→RefAt w' base rb lv L) ∧
  Hid (∀ w1 w' p s n e,Ext w w1→RStoreAns base rb lv L p s n w1 e w'→e=.returned (.int .i64 (yP σ.V.1 p s n).2)∧MRel F0 Z0 wf base w' mb (σ.setM (yP σ.V.1 p s n).1)):=by
 have H:=h
 obtain⟨h0,hl,l,h1,h2,h3⟩:=h
 have hv:zV l.T.L=σ.V.1:=by rw[← h1.view];rfl
 refine⟨l.T.rb,l.T.lv,l.T.L,h1.cell 23 rfl,η hv,η fun w' he=>h1.tab.mem.ext he,η ?_⟩
 intro w1 w' p s n e hE hA
 obtain⟨he,hk,L',hR,hvw,hfo⟩:=hA
 refine⟨by rw[he,hv],?_⟩
 have g:=h1.ext hE
 obtain⟨t1,t2⟩:=g.tab.memStep hk hR (fun j hj=>.inl (by rw[hfo]at hj;exact hj))
 have hk2:Keep (zH l.tb l.T) w1 w':=hk.mono (fun j hj=>.inl (kG l.tb l.T j hj))
 have:=MRel.tabStep (h0.through (F:=[]) (Keep.of_ext hE) (fun _ hj=>by cases hj)) hl g h2 h3 hk2 t1 rfl t2
 have e2:({σ with V:=yC {l.T with lv:=l.T.lv,L:=L'}}:RS)=σ.setM (yP σ.V.1 p s n).1:=by
  simp only[RS.setM,yC,hvw,hv]
  rw[← h1.view]
  rfl
 rw[e2]at this
 exact this
theorem MRel.u8 (h:MRel F0 Z0 wf base w mb σ):BytesOk σ.V.1:=by
 obtain⟨h0,hl,l,h1,h2,h3⟩:=h
 rw[← h1.view]
 exact h1.tab.mem.u8
set_option maxHeartbeats 2000000 in
theorem m_load (x:Ins)(k:Wh)(h:MRel F0 Z0 wf base w mb σ)(hx:x.Ok)(hk:KindOk x k)(h1:k.kind=5):
  Calls Tryz.prog 103 #[.pointer (some ⟨mb,0,none⟩),x.agg,k.agg] w (MAns F0 Z0 wf base mb (σ.load x k).1 (.int .i64 (σ.load x k).2)):=by
 obtain⟨op,dst,src,off,imm⟩:=x
 obtain⟨kind,kop,wide,reg,sg,size⟩:=k
 have hsrc:0≤src:=hx.src.1
 obtain⟨d,rfl⟩:∃ d:Nat,src=d:=⟨src.toNat,by omega⟩
 have hdd:d≤10:=by have:=hk.src;simp at this;omega
 have hdst:0≤dst:=hx.dst.1
 obtain⟨t,rfl⟩:∃ d:Nat,dst=d:=⟨dst.toNat,by omega⟩
 have htt:t≤10:=by have:=hk.dst;simp at this;omega
 have HX:=η hx
 have HM:=η h
 have HSZ:=η (hk.km (by omega) (by omega))
 obtain⟨rb,lv,L,cm,HV,HRF,_⟩:=h.mem
 obtain⟨h0,hl,l,g1,g2,g3⟩:=h
 have c2:=g1.cell (12+d) (jT σ l hdd)
 have HCM:=η cm
 have hlt:=zE g1.head
 clear hx hk h0 g2 g3 hl h1 cm
 obtain⟨res,hres⟩:∃ r,RS.load σ ⟨op,t,d,off,imm⟩ ⟨kind,kop,wide,reg,sg,size⟩=r:=⟨_,rfl⟩
 rw[hres]
 have HRES:=η hres
 clear hres g1
 have hd1:(d:Int)≤10:=by omega
 have hd2:0≤(d:Int):=by omega
 have hd3:(d:Int) < 11:=by omega
 cases hs:σ.S d
 all_goals
  rw[hs]at c2
  have HS:=η hs
  clear hs
  go_enter Tryz.func103,Tryz.ntmps103
  go_upto_region 1 with fail
 ·go_quiet (fail)
  go_wp2_with fail
  go_returns
  obtain rfl:res=(σ,110):=by rw[← HRES.out,RS.load,if_pos];simpa using HS.out
  exact⟨rfl,HM.out.go (by (repeat (first|exact xE0 _|assumption|refine xE1 ?_ _|refine xE2 ?_|refine xE3 ?_ _|refine xE4 ?_ (by assumption))))⟩
 ·go_cut [16] from 9 to 17 (fun v wx=>v=.bool false∧Hid (Ext w wx∧wx.heap[w.heap.size]?=some (zQ ⟨op,t,d,off,imm⟩)∧wx.heap[w.heap.size+1]?=some (zF ⟨kind,kop,wide,reg,sg,size⟩)))
  case first =>
   go_quiet (fail)
   go_wp2_with fail
   go_meet
   exact⟨by simp,η ⟨by (repeat (first|exact xE0 _|assumption|refine xE1 ?_ _|refine xE2 ?_|refine xE3 ?_ _|refine xE4 ?_ (by assumption))),zB _ (zD w _ rfl),zD _ _ (by simp)⟩⟩
  case rest =>
   obtain⟨rfl,HC⟩:=hcut
   obtain⟨hE1,b0,b1⟩:=HC.out
   have HE1:=η hE1
   have HO1:=η b0
   have HO3:=η b1
   have HM1:=η (HM.out.go hE1)
   have cm:=hE1.cellOf HCM.out
   have HA:=η (addr_rng σ d ⟨op,t,d,off,imm⟩)
   obtain⟨A,hA⟩:∃ A,σ.addr d ⟨op,t,d,off,imm⟩=A:=⟨_,rfl⟩
   have HADR:=η (fun W (he:MRel F0 Z0 wf base W mb σ)=>m_address ⟨op,t,d,off,imm⟩ d he HX.out hdd)
   rw[hA]at HA HADR
   obtain⟨n,er,hL⟩:∃ n er,kE σ.V.1 A size=(n,er):=⟨_,_,rfl⟩
   have HLD:=η (fun W (he:Ext w W)=>(ref_load base rb lv L A size W (HRF.out W he) HA.out.1 (η HA.out.2)).mono (R':=fun e w'=>e=.returned (.tuple #[.int .u64 n,.int .i64 er])∧Ext W w') (fun e w' h=>by rw[RLoadAns,HV.out,hL]at h;exact h))
   have HLL:=η hL
   have HAA:=η hA
   clear hE1 b0 b1 HC c2 hA hL
   go_upto_region 3 with fail
   go_cut [7,8] from 17 to 32 (fun v7 v8 wy=>v7=.int .u64 n∧v8=.int .i64 er∧Hid (Ext w wy∧MRel F0 Z0 wf base wy mb σ∧wy.heap[w.heap.size]?=some (zQ ⟨op,t,d,off,imm⟩)∧wy.heap[w.heap.size+1]?=some (zF ⟨kind,kop,wide,reg,sg,size⟩)))
   case first =>
    (have o1:=HO1.out;have o3:=HO3.out;obtain⟨a0,a1,a2,a3,a4⟩:=κ5 o1;obtain⟨q0,q1,q2,q3,q4,q5⟩:=κ6 o3;clear o1 o3)
    have cmg:=Grow.cell cm
    (have a0g:=Grow.cell a0;have a1g:=Grow.cell a1;have a2g:=Grow.cell a2;have a3g:=Grow.cell a3;have a4g:=Grow.cell a4;have q0g:=Grow.cell q0;have q1g:=Grow.cell q1;have q2g:=Grow.cell q2;have q3g:=Grow.cell q3;have q4g:=Grow.cell q4;have q5g:=Grow.cell q5;clear a0 a1 a2 a3 a4 q0 q1 q2 q3 q4 q5)
    refine yE (by kernel_rfl) (by kernel_rfl) ?_
    repeat (go_big_quiet_step (first|(go_at_call 141;exact Calls.grow (HADR.out _ (HM1.out.go (Grow.ext _))))|(go_at_call 140;exact Calls.grow (HLD.out _ (HE1.out.trans' (Grow.ext _))))))
    refine wpQuiet_nil ?_
    rintro _ ⟨⟨wq,hwq⟩,rfl⟩
    go_wp2_with fail
    go_meet
    exact⟨rfl,rfl,η ⟨HE1.out.trans' hwq,HM1.out.go hwq,hwq.obj HO1.out,hwq.obj HO3.out⟩⟩
   case rest =>
    obtain⟨rfl,rfl,HC⟩:=hcut
    obtain⟨hE2,hM2,b0,b1⟩:=HC.out
    clear HE1 HM1 HO1 HO3 cm HADR HLD
    have HE2:=η hE2
    have HM2:=η hM2
    have HO1:=η b0
    have HO3:=η b1
    clear hE2 hM2 b0 b1 HC
    by_cases her:(er != 0)=true
    ·(have o1:=HO1.out;have o3:=HO3.out;obtain⟨a0,a1,a2,a3,a4⟩:=κ5 o1;obtain⟨q0,q1,q2,q3,q4,q5⟩:=κ6 o3;clear o1 o3)
     go_wp2_with fail
     go_returns
     obtain rfl:res=(σ,er):=by rw[← HRES.out,RS.load,if_neg (by simpa using HS.out)];simp only[Int.toNat_natCast,HAA.out,HLL.out];rw[if_pos (by simpa using her)]
     exact⟨rfl,HM2.out⟩
    ·obtain rfl:er=0:=by simpa using her
     have HG:=η (show res=(σ.setR t (if sg then yY n (8 * size) else n),0) by rw[← HRES.out,RS.load,if_neg (by simpa using HS.out)];simp only[Int.toNat_natCast,HAA.out,HLL.out];simp)
     have HN:=η (by have:=uN HM2.out.u8 A size;rw[HLL.out]at this;exact this:u64R n)
     clear her HRES
     cases sg
     ·have hg:=HG.out
      simp only[Bool.false_eq_true,if_false]at hg
      subst hg
      (have o1:=HO1.out;have o3:=HO3.out;obtain⟨a0,a1,a2,a3,a4⟩:=κ5 o1;obtain⟨q0,q1,q2,q3,q4,q5⟩:=κ6 o3;clear o1 o3)
      go_wp2_with fail
      refine(tA HM2.out t htt _).mono ?_
      rintro e w6 ⟨rfl,hM⟩
      go_wp2_with fail
      go_returns
      exact⟨rfl,hM⟩
     ·have hg:=HG.out
      simp only[if_true]at hg
      subst hg
      (have o1:=HO1.out;have o3:=HO3.out;obtain⟨a0,a1,a2,a3,a4⟩:=κ5 o1;obtain⟨q0,q1,q2,q3,q4,q5⟩:=κ6 o3;clear o1 o3)
      go_wp2_with fail
      have e8:wrap64 (8 * size)=8 * size:=by rcases HSZ.out with h|h|h|h<;>(subst h;unfold wrap64;omega)
      rw[e8]
      refine(gZ n (8 * size) _ (by have:=HSZ.out;simp only[wid];omega) HN.out.1 HN.out.2).mono ?_
      rintro e w5 ⟨rfl,rfl⟩
      go_wp2_with fail
      refine(tA HM2.out t htt _).mono ?_
      rintro e w6 ⟨rfl,hM⟩
      go_wp2_with fail
      go_returns
      exact⟨rfl,hM⟩
set_option maxHeartbeats 4000000 in
theorem m_store (x:Ins)(k:Wh)(h:MRel F0 Z0 wf base w mb σ)(ho:σ.Ok)(hx:x.Ok)(hk:KindOk x k)(h1:k.kind=6∨k.kind=7∨k.kind=8):
  Calls Tryz.prog 104 #[.pointer (some ⟨mb,0,none⟩),x.agg,k.agg] w (MAns F0 Z0 wf base mb (σ.store x k).1 (.int .i64 (σ.store x k).2)):=by
 obtain⟨op,dst,src,off,imm⟩:=x
 obtain⟨kind,kop,wide,reg,sg,size⟩:=k
 have hdst:0≤dst:=hx.dst.1
 obtain⟨d,rfl⟩:∃ d:Nat,dst=d:=⟨dst.toNat,by omega⟩
 have hdd:d≤10:=by have:=hk.dst;simp at this;omega
 have HX:=η hx
 have HK:=η hk
 have HM:=η h
 have HB:=η (qX ho ⟨op,d,src,off,imm⟩ ⟨kind,kop,wide,reg,sg,size⟩ hk.src)
 have HSZ:=η (hk.km (by omega) (by omega))
 have HDO:=η hk.k8
 have HSEC:=η (fun W (he:Ext w W)=>m_second ⟨op,d,src,off,imm⟩ ⟨kind,kop,wide,reg,sg,size⟩ (HM.out.go he) HX.out HK.out.src)
 obtain⟨b,ok,hb⟩:∃ b ok,σ.second ⟨op,d,src,off,imm⟩ ⟨kind,kop,wide,reg,sg,size⟩=(b,ok):=⟨_,_,rfl⟩
 rw[hb]at HSEC HB
 have HBB:=η hb
 clear hx hk h1 hb ho h
 obtain⟨res,hres⟩:∃ r,RS.store σ ⟨op,d,src,off,imm⟩ ⟨kind,kop,wide,reg,sg,size⟩=r:=⟨_,rfl⟩
 rw[hres]
 have HRES:=η hres
 clear hres
 have hd1:(d:Int)≤10:=by omega
 have hd2:0≤(d:Int):=by omega
 have hd3:(d:Int) < 11:=by omega
 go_enter Tryz.func104,Tryz.ntmps104
 go_upto_region 1 with fail
 go_cut [7,8] from 12 to 19 (fun v7 v8 wx=>v7=.int .u64 b∧v8=.bool ok∧Hid (Ext w wx∧wx.heap[w.heap.size]?=some (zQ ⟨op,d,src,off,imm⟩)∧wx.heap[w.heap.size+1]?=some (zF ⟨kind,kop,wide,reg,sg,size⟩)))
 case first =>
  go_wp2_with fail
  refine(HSEC.out _ (by (repeat (first|exact xE0 _|assumption|refine xE1 ?_ _|refine xE2 ?_|refine xE3 ?_ _|refine xE4 ?_ (by assumption))))).mono ?_
  rintro e w1 ⟨rfl,he⟩
  go_wp2_with fail
  go_meet
  exact⟨rfl,rfl,η ⟨by (repeat (first|exact xE0 _|assumption|refine xE1 ?_ _|refine xE2 ?_|refine xE3 ?_ _|refine xE4 ?_ (by assumption))),he.obj (zB _ (zD w _ rfl)),he.obj (zD _ _ (by simp))⟩⟩
 case rest =>
  obtain⟨rfl,rfl,HC⟩:=hcut
  obtain⟨hE1,b0,b1⟩:=HC.out
  have HE1:=η hE1
  have HO1:=η b0
  have HO3:=η b1
  have HM1:=η (HM.out.go hE1)
  clear hE1 b0 b1 HC HM HSEC
  have bad:(ok=false∨σ.S d=false)→res=(σ,110):=fun hg=>by
   rw[← HRES.out,RS.store,HBB.out,if_pos]
   simpa using hg
  by_cases hg:ok=false∨σ.S d=false
  ·obtain rfl:=bad hg
   obtain⟨h0,hl,l,g1,g2,g3⟩:=HM1.out
   have c2:=g1.cell (12+d) (jT σ l hdd)
   have hlt:=zE g1.head
   clear h0 hl g1 g2 g3
   (have o1:=HO1.out;have o3:=HO3.out;obtain⟨a0,a1,a2,a3,a4⟩:=κ5 o1;obtain⟨q0,q1,q2,q3,q4,q5⟩:=κ6 o3;clear o1 o3)
   cases hok:ok<;>cases hs:σ.S d
   all_goals
    first
    | (exfalso;rw[hok,hs]at hg;revert hg;decide)
    | (rw[hs]at c2
       clear hg bad
       go_wp2_with fail
       go_quiet (fail)
       go_wp2_with fail
       go_returns
       exact⟨rfl,HM1.out.go (by (repeat (first|exact xE0 _|assumption|refine xE1 ?_ _|refine xE2 ?_|refine xE3 ?_ _|refine xE4 ?_ (by assumption))))⟩)
  ·have hok:ok=true:=by cases ok;exact absurd (.inl rfl) hg;rfl
   have hs:σ.S d=true:=by cases hs:σ.S d;exact absurd (.inr hs) hg;rfl
   subst hok
   have HS:=η hs
   clear bad hg
   go_upto_region 2 with fail
   go_cut [30] from 19 to 31 (fun v wx=>v=.bool false∧Hid (Ext w wx∧wx.heap[w.heap.size]?=some (zQ ⟨op,d,src,off,imm⟩)∧wx.heap[w.heap.size+1]?=some (zF ⟨kind,kop,wide,reg,sg,size⟩)∧MRel F0 Z0 wf base wx mb σ))
   case first =>
    obtain⟨h0,hl,l,g1,g2,g3⟩:=HM1.out
    have c2:=g1.cell (12+d) (jT σ l hdd)
    have hlt:=zE g1.head
    rw[hs]at c2
    clear h0 hl g1 g2 g3
    (have o1:=HO1.out;have o3:=HO3.out;obtain⟨a0,a1,a2,a3,a4⟩:=κ5 o1;obtain⟨q0,q1,q2,q3,q4,q5⟩:=κ6 o3;clear o1 o3)
    go_wp2_with fail
    go_quiet (fail)
    go_wp2_with fail
    go_meet
    exact⟨rfl,η ⟨HE1.out.drewN' _,HO1.out,HO3.out,HM1.out.go ((Ext.rfl' _).drewN' _)⟩⟩
   case rest =>
    obtain⟨rfl,HC⟩:=hcut
    obtain⟨hE2,b0,b1,hM2⟩:=HC.out
    clear HE1 HO1 HO3 HM1 hs
    have HE1:=η hE2
    have HO1:=η b0
    have HO3:=η b1
    have HM1:=η hM2
    clear hE2 b0 b1 hM2 HC
    have HA:=η (addr_rng σ d ⟨op,d,src,off,imm⟩)
    have HADR:=η (fun W (he:MRel F0 Z0 wf base W mb σ)=>m_address ⟨op,d,src,off,imm⟩ d he HX.out hdd)
    obtain⟨A,hA⟩:∃ A,σ.addr d ⟨op,d,src,off,imm⟩=A:=⟨_,rfl⟩
    rw[hA]at HA HADR
    have HAA:=η hA
    clear hA
    go_upto_region 4 with fail
    go_cut [9] from 31 to 36 (fun v wy=>v=.int .u64 A∧Hid (Ext w wy∧wy.heap[w.heap.size]?=some (zQ ⟨op,d,src,off,imm⟩)∧wy.heap[w.heap.size+1]?=some (zF ⟨kind,kop,wide,reg,sg,size⟩)∧MRel F0 Z0 wf base wy mb σ))
    case first =>
     (have o1:=HO1.out;have o3:=HO3.out;obtain⟨a0,a1,a2,a3,a4⟩:=κ5 o1;obtain⟨q0,q1,q2,q3,q4,q5⟩:=κ6 o3;clear o1 o3)
     go_wp2_with fail
     refine(HADR.out _ HM1.out).mono ?_
     rintro e w2 ⟨rfl,hE2⟩
     go_wp2_with fail
     go_meet
     exact⟨rfl,η ⟨HE1.out.trans' hE2,hE2.obj HO1.out,hE2.obj HO3.out,HM1.out.go hE2⟩⟩
    case rest =>
     obtain⟨rfl,HC⟩:=hcut
     obtain⟨hE2,b0,b1,hM2⟩:=HC.out
     clear HE1 HO1 HO3 HM1 HADR
     have HE1:=η hE2
     have HO1:=η b0
     have HO3:=η b1
     have HM1:=η hM2
     clear hE2 b0 b1 hM2 HC
     by_cases hk8:(kind == 8)=true
     ·have hk8':kind=8:=by simpa using hk8
      subst hk8'
      obtain⟨rb,lv,L,cm,HV,HRF,_⟩:=HM1.out.mem
      obtain⟨n,er,hL⟩:∃ n er,kE σ.V.1 A size=(n,er):=⟨_,_,rfl⟩
      have HN:=η (by have:=uN HM1.out.u8 A size;rw[hL]at this;exact this:u64R n)
      have HG:=η (show res=if er≠0 then (σ,er) else σ.putM A size (aluN kop true 0 n b) by rw[← HRES.out,RS.store,HBB.out,if_neg (by simp[HS.out]),if_pos rfl];simp only[HAA.out,hL])
      have HLL:=η hL
      clear HRES hL
      (have o1:=HO1.out;have o3:=HO3.out;obtain⟨a0,a1,a2,a3,a4⟩:=κ5 o1;obtain⟨q0,q1,q2,q3,q4,q5⟩:=κ6 o3;clear o1 o3)
      go_upto_region 6 with fail
      go_cut [10,11] from 39 to 50 (fun v10 v11 wy=>v10=.int .u64 n∧v11=.int .i64 er∧Hid (Ext wc wy))
      case first =>
       have cmg:=Grow.cell cm
       (have a0g:=Grow.cell a0;have a1g:=Grow.cell a1;have a2g:=Grow.cell a2;have a3g:=Grow.cell a3;have a4g:=Grow.cell a4;have q0g:=Grow.cell q0;have q1g:=Grow.cell q1;have q2g:=Grow.cell q2;have q3g:=Grow.cell q3;have q4g:=Grow.cell q4;have q5g:=Grow.cell q5;clear a0 a1 a2 a3 a4 q0 q1 q2 q3 q4 q5)
       have HLD:=η (fun W (he:Ext wc W)=>(ref_load base rb lv L A size W (HRF.out W he) HA.out.1 (η HA.out.2)).mono (R':=fun e w'=>e=.returned (.tuple #[.int .u64 n,.int .i64 er])∧Ext W w') (fun e w' h=>by rw[RLoadAns,HV.out,HLL.out]at h;exact h))
       (refine yE (by kernel_rfl) (by kernel_rfl) ?_;(repeat (go_big_quiet_step ((go_at_call 140;exact Calls.grow (HLD.out _ (Grow.ext _))))));refine wpQuiet_nil ?_;rintro wz ⟨nz,hz⟩;have hwq:=nz.ext;rw[← hz]at hwq;clear hz)
       go_wp2_with fail
       go_meet
       exact⟨rfl,rfl,η hwq⟩
      case rest =>
       obtain⟨rfl,rfl,HE3⟩:=hcut
       clear a0 a1 a2 a3 a4 q0 q1 q2 q3 q4 q5
       have HO1':=η (HE3.out.obj HO1.out)
       have HO3':=η (HE3.out.obj HO3.out)
       have HM2:=η (HM1.out.go HE3.out)
       clear HO1 HO3 cm HV HRF HM1
       have HO1:=HO1'
       have HO3:=HO3'
       clear HO1' HO3'
       by_cases her:(er != 0)=true
       ·obtain rfl:res=(σ,er):=by rw[HG.out,if_pos (by simpa using her)]
        (have o1:=HO1.out;have o3:=HO3.out;obtain⟨a0,a1,a2,a3,a4⟩:=κ5 o1;obtain⟨q0,q1,q2,q3,q4,q5⟩:=κ6 o3;clear o1 o3)
        go_wp2_with fail
        go_returns
        exact⟨rfl,HM2.out⟩
       ·obtain rfl:er=0:=by simpa using her
        obtain rfl:=HG.out
        clear her HG HLL
        obtain⟨rb,lv,L,cm,HV,HRF,HST⟩:=HM2.out.mem
        (have o1:=HO1.out;have o3:=HO3.out;obtain⟨a0,a1,a2,a3,a4⟩:=κ5 o1;obtain⟨q0,q1,q2,q3,q4,q5⟩:=κ6 o3;clear o1 o3)
        go_upto_region 9 with fail
        have HDD:=η (fun W=>r_do kop true 0 n b W (HDO.out rfl) HN.out.1 HN.out.2 HB.out.1 HB.out.2)
        have HRG:=η (alu_rng (HDO.out rfl) HN.out HB.out)
        go_cut [7] from 53 to 61 (fun v wy=>v=.int .u64 (aluN kop true 0 n b)∧Hid (Ext wc wy))
        case first =>
         go_wp2_with fail
         refine(HDD.out _).mono ?_
         rintro e w3 ⟨rfl,hE4⟩
         go_wp2_with fail
         go_meet
         exact⟨rfl,η hE4⟩
        case rest =>
         obtain⟨rfl,HE4⟩:=hcut
         clear a0 a1 a2 a3 a4 q0 q1 q2 q3 q4 q5
         have HO1':=η (HE4.out.obj HO1.out)
         have HO3':=η (HE4.out.obj HO3.out)
         have cm':=HE4.out.cellOf cm
         clear HO1 HO3 cm
         have HO1:=HO1'
         have HO3:=HO3'
         clear HO1' HO3'
         (have o1:=HO1.out;have o3:=HO3.out;obtain⟨a0,a1,a2,a3,a4⟩:=κ5 o1;obtain⟨q0,q1,q2,q3,q4,q5⟩:=κ6 o3;clear o1 o3)
         go_upto_region 10 with fail
         have cmg:=Grow.cell cm'
         (have a0g:=Grow.cell a0;have a1g:=Grow.cell a1;have a2g:=Grow.cell a2;have a3g:=Grow.cell a3;have a4g:=Grow.cell a4;have q0g:=Grow.cell q0;have q1g:=Grow.cell q1;have q2g:=Grow.cell q2;have q3g:=Grow.cell q3;have q4g:=Grow.cell q4;have q5g:=Grow.cell q5;clear a0 a1 a2 a3 a4 q0 q1 q2 q3 q4 q5)
         (refine zR 8 (by kernel_rfl) (by kernel_rfl) ?_;simp only[List.take_succ_cons,List.take_zero];(repeat (go_big_quiet_step ((fail))));refine wpQuiet_nil ?_;rintro wz ⟨nz,hz⟩;have hwq:=nz.ext;rw[← hz]at hwq;simp only[List.drop_succ_cons,List.drop_zero];clear hz)
         go_wp2_with fail
         refine(ref_store base rb lv L A size _ wz (HRF.out _ (HE4.out.trans' hwq)) HA.out.1 (η HA.out.2) HRG.out.1 (η HRG.out.2)).mono ?_
         intro e w3 hA3
         obtain⟨rfl,hM3⟩:=HST.out _ _ _ _ _ _ (HE4.out.trans' hwq) hA3
         go_wp2_with fail
         go_returns
         exact⟨rfl,hM3⟩
     ·have hk8':(kind == 8)=false:=by simpa using hk8
      have HG:=η (show res=σ.putM A size b by rw[← HRES.out,RS.store,HBB.out,if_neg (by simp[HS.out]),if_neg (by simpa using hk8)];simp only[HAA.out])
      clear HRES hk8
      obtain⟨rb,lv,L,cm,HV,HRF,HST⟩:=HM1.out.mem
      obtain rfl:=HG.out
      (have o1:=HO1.out;have o3:=HO3.out;obtain⟨a0,a1,a2,a3,a4⟩:=κ5 o1;obtain⟨q0,q1,q2,q3,q4,q5⟩:=κ6 o3;clear o1 o3)
      go_upto_region 10 with fail
      have cmg:=Grow.cell cm
      (have a0g:=Grow.cell a0;have a1g:=Grow.cell a1;have a2g:=Grow.cell a2;have a3g:=Grow.cell a3;have a4g:=Grow.cell a4;have q0g:=Grow.cell q0;have q1g:=Grow.cell q1;have q2g:=Grow.cell q2;have q3g:=Grow.cell q3;have q4g:=Grow.cell q4;have q5g:=Grow.cell q5;clear a0 a1 a2 a3 a4 q0 q1 q2 q3 q4 q5)
      (refine zR 8 (by kernel_rfl) (by kernel_rfl) ?_;simp only[List.take_succ_cons,List.take_zero];(repeat (go_big_quiet_step ((fail))));refine wpQuiet_nil ?_;rintro wz ⟨nz,hz⟩;have hwq:=nz.ext;rw[← hz]at hwq;simp only[List.drop_succ_cons,List.drop_zero];clear hz)
      go_wp2_with fail
      refine(ref_store base rb lv L A size b wz (HRF.out _ hwq) HA.out.1 (η HA.out.2) HB.out.1 (η HB.out.2)).mono ?_
      intro e w3 hA3
      obtain⟨rfl,hM3⟩:=HST.out _ _ _ _ _ _ hwq hA3
      go_wp2_with fail
      go_returns
      exact⟨rfl,hM3⟩
end
def SlotsOk (V:Areas×List TM):Prop:=∀ t∈V.2,t.slots.length≤1000
section
variable {F0 Z0:List Nat} {wf w w':World} {base mb:Nat} {σ:RS} {l:RLay}
structure MRelQ (Q F0 Z0:List Nat)(wf:World)(base:Nat)(w:World)(mb:Nat)(σ:RS):Prop where
 keep:Keep F0 wf w
 low:base≤wf.heap.size
 lay:∃ l,MAt w base mb σ l∧(∀ j∈zX mb l,j∈F0∨wf.heap.size≤j)∧(∀ j∈mfrz l,j∈Z0∨wf.heap.size≤j)∧∀ q∈Q,q < w.heap.size∧q ∉ zX mb l∧q ∉ mfrz l
theorem MRelQ.rel {Q:List Nat}(h:MRelQ Q F0 Z0 wf base w mb σ):MRel F0 Z0 wf base w mb σ:=by
 obtain⟨h0,hl,l,h1,h2,h3,h4⟩:=h
 exact⟨h0,hl,l,h1,h2,h3⟩
theorem MRel.apart (h:MRel F0 Z0 wf base w mb σ){w1:World}(he:Ext w w1){Q:List Nat}(hQ:∀ q∈Q,w.heap.size≤q∧q < w1.heap.size):MRelQ Q F0 Z0 wf base w1 mb σ:=by
 obtain⟨h0,hl,l,h1,h2,h3⟩:=h
 exact⟨h0.through (F:=[]) (Keep.of_ext he) (fun _ hj=>by cases hj),hl,l,h1.ext he,h2,h3,fun q hq=>⟨(hQ q hq).2,fun h=>by have:=h1.lt q h;have:=(hQ q hq).1;omega,fun h=>by have:=(h1.frz q h).2;have:=(hQ q hq).1;omega⟩⟩
theorem MRelQ.go {Q:List Nat}(h:MRelQ Q F0 Z0 wf base w mb σ)(he:Ext w w'):MRelQ Q F0 Z0 wf base w' mb σ:=by
 obtain⟨h0,hl,l,h1,h2,h3,h4⟩:=h
 exact⟨h0.through (F:=[]) (Keep.of_ext he) (fun _ hj=>by cases hj),hl,l,h1.ext he,h2,h3,fun q hq=>⟨Nat.lt_of_lt_of_le (h4 q hq).1 he.size,(h4 q hq).2⟩⟩
theorem MRelQ.box {Q:List Nat}(h:MRelQ Q F0 Z0 wf base w mb σ){q:Nat}(hq:q∈Q)(hw:wf.heap.size≤q)(i:Nat)(v:Value):MRelQ Q F0 Z0 wf base (w.setCell ⟨q,i,none⟩ v) mb σ:=by
 obtain⟨h0,hl,l,h1,h2,h3,h4⟩:=h
 have k:Keep [q] w (w.setCell ⟨q,i,none⟩ v):=(Keep.rfl' _ _).setCell (by simp) v
 refine⟨h0.through k (fun j hj=>by rw[List.mem_singleton]at hj;subst hj;exact .inr hw),hl,l,h1.keep k (fun j hj=>?_) (fun j hj=>?_),h2,h3,fun q hq=>⟨Nat.lt_of_lt_of_le (h4 q hq).1 k.size,(h4 q hq).2⟩⟩
 ·rintro hj'
  rw[List.mem_singleton]at hj'
  subst hj'
  exact(h4 _ hq).2.1 hj
 ·rintro hj'
  rw[List.mem_singleton]at hj'
  subst hj'
  exact(h4 _ hq).2.2 hj
theorem MRelQ.tabStep {Q:List Nat}(h0:Keep F0 wf w)(hl:base≤wf.heap.size)(h:MAt w base mb σ l)(h2:∀ j∈zX mb l,j∈F0∨wf.heap.size≤j)(h3:∀ j∈mfrz l,j∈Z0∨wf.heap.size≤j)(h4:∀ q∈Q,q < w.heap.size∧q ∉ zX mb l∧q ∉ mfrz l)
  (k:Keep (zH l.tb l.T) w w') {T':RTabs} (ht:RTabAt w' base l.tb T') (hrb:T'.rb=l.T.rb) (hf:∀ j∈zH l.tb T',j∈zH l.tb l.T∨w.heap.size≤j) :
  MRelQ Q F0 Z0 wf base w' mb {σ with V:=yC T'}∧∀ q,(q∈Q∨q=mb)→∀ o,w.heap[q]?=some o→w'.heap[q]?=some o:=by
 refine⟨⟨h0.through k (fun j hj=>h2 j (by simp[zX,hj])),hl,_,h.tabStep k ht hrb hf,fun j hj=>?_,h3,fun q hq=>⟨Nat.lt_of_lt_of_le (h4 q hq).1 k.size,fun hj=>?_,(h4 q hq).2.2⟩⟩,fun q hq o ho=>k.obj ho (fun hj=>hq.elim (fun hq=>(h4 q hq).2.1 (by simp[zX,hj])) (fun e=>by subst e;exact(List.nodup_cons.1 h.apart).1 (List.mem_append_right _ hj)))⟩
 ·simp only[zX,List.mem_cons,List.mem_append]at hj
  rcases hj with rfl|hj|hj
  ·exact h2 _ (by simp[zX])
  ·exact h2 _ (by simp[zX,hj])
  ·rcases hf j hj with h4|h4
   ·exact h2 _ (by simp[zX,h4])
   ·exact .inr (Nat.le_trans h0.size h4)
 ·have h5:=(h4 q hq).2.1
  have h6:=(h4 q hq).1
  simp only[zX,List.mem_cons,List.mem_append]at hj
  rcases hj with rfl|hj|hj
  ·exact h5 (by simp[zX])
  ·exact h5 (by simp[zX,hj])
  ·rcases hf q hj with h7|h7
   ·exact h5 (by simp[zX,h7])
   ·omega
theorem MRelQ.tabs {Q:List Nat}(h:MRelQ Q F0 Z0 wf base w mb σ):∃ tb,w.cell? ⟨mb,24,none⟩=some (.pointer (some ⟨tb,0,none⟩)) ∧
  Hid (∀ w1 i kv ks,Ext w w1→Sl w1 .u8 kv ks→Calls Tryz.prog 146 #[.pointer (some ⟨tb,0,none⟩),.int .i64 i,kv] w1 (fun e w'=>e=.returned (.tuple #[.int .u64 (xT σ.V.2 i ks).1,.int .i64 (xT σ.V.2 i ks).2])∧Ext w1 w')) ∧
  (SlotsOk σ.V→Hid (∀ w1 b i kv ks vv vs fl,Ext w w1→(∀ j∈kv.ownBlock.toList++vv.ownBlock.toList,j∈Q)→Own w1 b 5 1 encB kv ks→Own w1 b 5 1 encB vv vs→(∀ q∈vs,0≤q∧q≤255)→u64R fl→Calls Tryz.prog 35 #[.pointer (some ⟨tb,0,none⟩),.int .i64 i,kv,vv,.int .u64 fl] w1
    (fun e w'=>e=.returned (.tuple #[.int .u64 (rput σ.V i ks vs fl).2.1,.int .i64 (rput σ.V i ks vs fl).2.2])∧MRelQ Q F0 Z0 wf base w' mb {σ with V:=(rput σ.V i ks vs fl).1}∧∀ q,(q∈Q∨q=mb)→∀ o,w1.heap[q]?=some o→w'.heap[q]?=some o)) ∧
   Hid (∀ w1 i kv ks,Ext w w1→Sl w1 .u8 kv ks→Calls Tryz.prog 147 #[.pointer (some ⟨tb,0,none⟩),.int .i64 i,kv] w1
    (fun e w'=>e=.returned (.tuple #[.int .u64 (xR σ.V.2 i ks).2.1,.int .i64 (xR σ.V.2 i ks).2.2])∧MRelQ Q F0 Z0 wf base w' mb {σ with V:=(σ.V.1,(xR σ.V.2 i ks).1)}∧∀ q,(q∈Q∨q=mb)→∀ o,w1.heap[q]?=some o→w'.heap[q]?=some o))):=by
 obtain⟨h0,hl,l,h1,h2,h3,h4⟩:=h
 have hv:=h1.view
 refine⟨l.tb,h1.cell 24 rfl,η ?_,fun hs=>⟨η ?_,η ?_⟩⟩
 ·intro w1 i kv ks he hk
  refine(rtab_look base l.tb l.T i kv ks w1 (h1.tab.ext he) hk).mono ?_
  rintro e w' ⟨h,hE⟩
  rw[show (yC l.T).2=σ.V.2 by rw[hv]]at h
  exact⟨h,hE⟩
 ·intro w1 b i kv ks vv vs fl he hq hk hvv hu hf
  have g:=h1.ext he
  have h4':∀ q∈Q,q < w1.heap.size∧q ∉ zX mb l∧q ∉ mfrz l:=fun q hq=>⟨Nat.lt_of_lt_of_le (h4 q hq).1 he.size,(h4 q hq).2⟩
  have hnk:∀ j,kv.ownBlock=some j→j ∉ zH l.tb l.T:=fun j hj hj'=>(h4 j (hq j (by simp[hj]))).2.1 (by simp[zX,hj'])
  have hnv:∀ j,vv.ownBlock=some j→j ∉ zH l.tb l.T:=fun j hj hj'=>(h4 j (hq j (by simp[hj]))).2.1 (by simp[zX,hj'])
  have hSL:∀ x∈l.T.R,x.T.slots.length≤1000:=fun x hx=>hs x.T (by rw[← hv];exact List.mem_map.2 ⟨x,hx,rfl⟩)
  refine(rtab_put base l.tb l.T i kv vv ks vs fl w1 g.tab (Nat.le_trans hl (Nat.le_trans h0.size he.size)) (η hSL) (hk.rd (zG _)) (hvv.rd (zG _)) hu hf.1 (η hf.2) (η fun w' k=>(hvv.keep k hnv).rd (zG _)) (η fun w' k=>(hk.keep k hnk).rd (zG _))).mono ?_
  rintro e w' ⟨h,hk5,S',hT,hV,hfo,hrb⟩
  rw[hv]at h hV
  have:=MRelQ.tabStep (Q:=Q) (h0.through (F:=[]) (Keep.of_ext he) (fun _ hj=>by cases hj)) hl g h2 h3 h4' hk5 hT hrb hfo
  rw[hV]at this
  exact⟨h,this⟩
 ·intro w1 i kv ks he hk
  have g:=h1.ext he
  have h4':∀ q∈Q,q < w1.heap.size∧q ∉ zX mb l∧q ∉ mfrz l:=fun q hq=>⟨Nat.lt_of_lt_of_le (h4 q hq).1 he.size,(h4 q hq).2⟩
  have hSL:∀ x∈l.T.R,x.T.slots.length≤1000:=fun x hx=>hs x.T (by rw[← hv];exact List.mem_map.2 ⟨x,hx,rfl⟩)
  refine(rtab_drop base l.tb l.T i kv ks w1 g.tab (Nat.le_trans hl (Nat.le_trans h0.size he.size)) (η hSL) hk).mono ?_
  rintro e w' ⟨h,hk5,S',hT,hV,hfo,hrb⟩
  rw[hv]at h hV
  have:=MRelQ.tabStep (Q:=Q) (h0.through (F:=[]) (Keep.of_ext he) (fun _ hj=>by cases hj)) hl g h2 h3 h4' hk5 hT hrb hfo
  rw[hV]at this
  exact⟨h,this⟩
theorem own_objs {α:Type}{w w':World}{b:Nat}{e:TypeId}{sz:Nat}{enc:α→List Value}{v:Value}{xs:List α}(h:Own w b e sz enc v xs)(k:∀ j o,v.ownBlock=some j→w.heap[j]?=some o→w'.heap[j]?=some o):Own w' b e sz enc v xs:=by
 obtain⟨h1,h2⟩:=h
 refine⟨h1,?_⟩
 rcases h2 with h2|⟨g,cap,cur,rfl,hb,hg,r⟩
 ·exact .inl h2
 ·exact .inr ⟨g,cap,cur,rfl,hb,k g _ rfl hg,r⟩
theorem yR {α:Type}{w:World}{b:Nat}{e:TypeId}{sz:Nat}{enc:α→List Value}{v:Value}{xs:List α}(h:Own w b e sz enc v xs):vblk v=v.ownBlock.toList:=by
 rcases h.2 with ⟨rfl,_⟩|⟨g,cap,cur,rfl,_,_,_⟩
 ·rfl
 ·rfl
theorem MRelQ.setDraw {Q:List Nat}(h:MRelQ Q F0 Z0 wf base w mb σ){w1:World}(he:Ext w w1){v:Value}{xs:List Int}(hO:Own w1 w.heap.size 29 1 (fun x=>[Value.int .u64 x]) v xs):
  MRelQ Q F0 Z0 wf base (w1.setCell ⟨mb,26,none⟩ v) mb {σ with dr:=xs}:=by
 obtain⟨h0,hl,l,h1,h2,h3,h4⟩:=h
 have g:=h1.ext he
 have k:Keep [mb] w1 (w1.setCell ⟨mb,26,none⟩ v):=(Keep.rfl' _ _).setCell (by simp) v
 have hmb:∀ {j:Nat},j∈l.cv.ownBlock.toList++zH l.tb l.T→j ∉ [mb]:=fun hj e=>(List.nodup_cons.1 g.apart).1 (by rw[List.mem_singleton]at e;rwa[← e])
 have hx:∀ j∈mfrz l,j ∉ [mb]:=fun j hj e=>(g.frz j hj).1 (by rw[List.mem_singleton]at e;subst e;simp[zX])
 have hz:∀ {v:Value},(∀ j∈vblk v,j∈mfrz l)→∀ a n c,v=.slice (some a) n c→a.block ∉ [mb]:=fun hv=>kD fun j hj=>hx j (hv j hj)
 have hvb:∀ j∈vblk v,w.heap.size≤j∧j < w1.heap.size:=fun j hj=>by
  rw[yR hO]at hj
  exact hO.lt (by simpa using hj)
 have hnf:∀ j∈vblk v,j ∉ zX mb l:=fun j hj hj'=>by have:=h1.lt j hj';have:=(hvb j hj).1;omega
 have hfr:∀ j∈mfrz {l with drv:=v},j∈mfrz l∨j∈vblk v:=fun j hj=>by
  simp only[mfrz,List.mem_append]at hj ⊢
  rcases hj with h|h|h|h
  ·exact .inl (.inl h)
  ·exact .inl (.inr (.inl h))
  ·exact .inr h
  ·exact .inl (.inr (.inr (.inr h)))
 refine⟨(h0.through (F:=[]) (Keep.of_ext he) (fun _ hj=>by cases hj)).through k (fun j hj=>by rw[List.mem_singleton]at hj;subst hj;exact h2 _ (by simp[zX])),hl,{l with drv:=v},?_,h2,fun j hj=>?_,fun q hq=>⟨Nat.lt_of_lt_of_le (h4 q hq).1 (Nat.le_trans he.size k.size),(h4 q hq).2.1,fun hj=>?_⟩⟩
 ·refine⟨?_,g.low,g.tab.keep k (fun j hj=>hmb (by simp[hj])),g.view,g.calls.keep k (fun j hj=>hmb (by simp[hj])),g.cls,fun c hc=>⟨?_,?_,?_⟩,?_,?_,?_,g.apart,fun j hj=>?_⟩
  ·have:=heap_setCell_same w1 mb 26 _ _ v g.head
   rw[this]
   simp[xY]
  ·exact(g.callS c hc).1.keep k (hz fun j hj=>jF (l:=l) (c:=c) hc (j:=j) (by simp[hj]))
  ·exact(g.callS c hc).2.1.keep k (hz fun j hj=>jF (l:=l) (c:=c) hc (j:=j) (by simp[hj]))
  ·exact(g.callS c hc).2.2.keep k (hz fun j hj=>jF (l:=l) (c:=c) hc (j:=j) (by simp[hj]))
  ·exact g.code.keepF k (fun j hj=>hx j (by simp[mfrz,hj]))
  ·exact g.defs.keepF k (fun j hj=>hx j (by simp[mfrz,hj]))
  ·exact(hO.keep k (fun j hj e=>hnf j (by rw[yR hO];simp[hj]) (by rw[List.mem_singleton]at e;subst e;simp[zX]))).rd (zG _)
  ·rcases hfr j hj with h|h
   ·exact⟨(g.frz j h).1,Nat.lt_of_lt_of_le (g.frz j h).2 k.size⟩
   ·exact⟨hnf j h,Nat.lt_of_lt_of_le (hvb j h).2 k.size⟩
 ·rcases hfr j hj with h|h
  ·exact h3 j h
  ·exact .inr (Nat.le_trans h0.size (hvb j h).1)
 ·rcases hfr q hj with h|h
  ·exact(h4 q hq).2.2 h
  ·have:=(h4 q hq).1;have:=(hvb q h).1;omega
theorem MRelQ.push (h0:Keep F0 wf w)(hl:base≤wf.heap.size)(g:MAt w base mb σ l)(h2:∀ j∈zX mb l,j∈F0∨wf.heap.size≤j)(h3:∀ j∈mfrz l,j∈Z0∨wf.heap.size≤j){Q:List Nat}(h4:∀ q∈Q,q < w.heap.size∧q ∉ zX mb l∧q ∉ mfrz l)
  {x:CB} (hx:∀ j∈vblk x.kv++(vblk x.vv++vblk x.nv),j∈Q∧wf.heap.size≤j) (hs:Sl w .u8 x.kv x.c.key∧Sl w .u8 x.vv x.c.val∧Sl w .u64 x.nv x.c.n) {w5:World} {v:Value} (k:Keep l.cv.ownBlock.toList w w5)
  (hO:Own w5 base 76 6 CB.enc v (l.cs++[x])) (hm:∀ j,v.ownBlock=some j→l.cv.ownBlock=some j∨w.heap.size≤j) :
  MRel F0 Z0 wf base (w5.setCell ⟨mb,31,none⟩ v) mb {σ with calls:=σ.calls++[x.c]}∧∀ q∈Q,∀ o,w.heap[q]?=some o→(w5.setCell ⟨mb,31,none⟩ v).heap[q]?=some o:=by
 have n0:=List.nodup_cons.1 g.apart
 have n1:=List.nodup_append.1 n0.2
 have k2:Keep [mb] w5 (w5.setCell ⟨mb,31,none⟩ v):=(Keep.rfl' _ _).setCell (by simp) v
 have hlt:=g.lt
 have kk:Keep (mb :: l.cv.ownBlock.toList) w (w5.setCell ⟨mb,31,none⟩ v):=(k.mono fun j hj=>.inl (List.mem_cons_of_mem _ hj)).trans (k2.mono fun j hj=>.inl (by rw[List.mem_singleton]at hj;subst hj;exact List.mem_cons_self))
 have hrt:∀ j∈zH l.tb l.T,j ∉ mb :: l.cv.ownBlock.toList:=fun j hj hj'=>by
  rcases List.mem_cons.1 hj' with rfl|hj'
  ·exact n0.1 (List.mem_append_right _ hj)
  ·exact n1.2.2 j hj' j hj rfl
 have hcv:∀ j∈mb :: l.cv.ownBlock.toList,j∈zX mb l:=fun j hj=>by
  rcases List.mem_cons.1 hj with rfl|hj
  ·simp[zX]
  ·simp only[zX,List.mem_cons,List.mem_append];exact .inr (.inl hj)
 have hxx:∀ j∈mfrz l,j ∉ mb :: l.cv.ownBlock.toList:=fun j hj e=>(g.frz j hj).1 (hcv j e)
 have hz:∀ {v:Value},(∀ j∈vblk v,j∈mfrz l)→∀ a n c,v=.slice (some a) n c→a.block ∉ mb :: l.cv.ownBlock.toList:=fun hv=>kD fun j hj=>hxx j (hv j hj)
 have hzx:∀ {v:Value},(∀ j∈vblk v,j∈vblk x.kv++(vblk x.vv++vblk x.nv))→∀ a n c,v=.slice (some a) n c→a.block ∉ mb :: l.cv.ownBlock.toList:=fun hv=>kD fun j hj e=>(h4 j (hx j (hv j hj)).1).2.1 (hcv j e)
 have hvm:∀ j,v.ownBlock=some j→j≠mb∧j ∉ zH l.tb l.T∧(j∈zX mb l∨w.heap.size≤j):=fun j hj=>by
  rcases hm j hj with h|h
  ·exact⟨fun e=>by subst e;exact n0.1 (List.mem_append_left _ (by simp[h])),fun e=>n1.2.2 j (by simp[h]) j e rfl,.inl (hcv j (by simp[h]))⟩
  ·exact⟨fun e=>by have:=zE g.head;omega,fun e=>by have:=(g.tab.lt j e).2;omega,.inr h⟩
 have hft:∀ j∈zX mb {l with cv:=v,cs:=l.cs++[x]},j∈zX mb l∨w.heap.size≤j:=fun j hj=>by
  simp only[zX,List.mem_cons,List.mem_append]at hj ⊢
  rcases hj with h|h|h
  ·exact .inl (.inl h)
  ·have:=(hvm j (by simpa using h)).2.2
   simpa only[zX,List.mem_cons,List.mem_append]using this
  ·exact .inl (.inr (.inr h))
 have hfr:∀ j∈mfrz {l with cv:=v,cs:=l.cs++[x]},j∈mfrz l∨j∈vblk x.kv++(vblk x.vv++vblk x.nv):=fun j hj=>by
  simp only[mfrz,List.flatMap_append,List.mem_append,List.flatMap_cons,List.flatMap_nil,List.append_nil]at hj ⊢
  rcases hj with h|h|h|h|h
  ·exact .inl (.inl h)
  ·exact .inl (.inr (.inl h))
  ·exact .inl (.inr (.inr (.inl h)))
  ·exact .inl (.inr (.inr (.inr h)))
  ·exact .inr h
 have hap:∀ j∈mfrz {l with cv:=v,cs:=l.cs++[x]},j ∉ zX mb {l with cv:=v,cs:=l.cs++[x]}∧j < w.heap.size:=fun j hj=>by
  rcases hfr j hj with h|h
  ·exact⟨fun h'=>(hft j h').elim (g.frz j h).1 (fun h''=>by have:=(g.frz j h).2;omega),(g.frz j h).2⟩
  ·have:=h4 j (hx j h).1
   exact⟨fun h'=>(hft j h').elim this.2.1 (fun h''=>by have:=this.1;omega),this.1⟩
 refine⟨⟨h0.through kk (fun j hj=>h2 j (hcv j hj)),hl,{l with cv:=v,cs:=l.cs++[x]},?_,fun j hj=>(hft j hj).elim (h2 j) (fun h=>.inr (Nat.le_trans h0.size h)),fun j hj=>(hfr j hj).elim (h3 j) (fun h=>.inr (hx j h).2)⟩,fun q hq o ho=>kk.obj ho (fun hj=>(h4 q hq).2.1 (hcv q hj))⟩
 refine⟨?_,g.low,g.tab.keep kk hrt,g.view,hO.keep k2 (fun j hj e=>(hvm j hj).1 (by simpa using e)),by simp[g.cls],fun c hc=>?_,g.code.keepF kk (fun j hj=>hxx j (by simp[mfrz,hj])),g.defs.keepF kk (fun j hj=>hxx j (by simp[mfrz,hj])),g.draws.keep kk (hz fun j hj=>by simp[mfrz,hj]),?_,fun j hj=>⟨(hap j hj).1,Nat.lt_of_lt_of_le (hap j hj).2 kk.size⟩⟩
 ·have:=heap_setCell_same w5 mb 31 _ _ v (k.obj g.head (fun hj=>n0.1 (List.mem_append_left _ hj)))
  rw[this]
  simp[xY]
 ·rcases List.mem_append.1 hc with hc|hc
  ·exact⟨(g.callS c hc).1.keep kk (hz fun j hj=>jF hc (by simp[hj])),(g.callS c hc).2.1.keep kk (hz fun j hj=>jF hc (by simp[hj])),(g.callS c hc).2.2.keep kk (hz fun j hj=>jF hc (by simp[hj]))⟩
  ·rw[List.mem_singleton]at hc
   subst hc
   exact⟨hs.1.keep kk (hzx fun j hj=>by simp[hj]),hs.2.1.keep kk (hzx fun j hj=>by simp[hj]),hs.2.2.keep kk (hzx fun j hj=>by simp[hj])⟩
 ·simp only[zX]
  rw[List.nodup_cons,List.nodup_append]
  refine⟨fun hj=>?_,by cases v.ownBlock<;>simp,n1.2.1,fun a ha b hb e=>?_⟩
  ·rcases List.mem_append.1 hj with hj|hj
   ·exact(hvm mb (by simpa using hj)).1 rfl
   ·exact n0.1 (List.mem_append_right _ hj)
  ·subst e
   exact(hvm a (by simpa using ha)).2.1 hb
end
theorem tfind_at {T:List TM}{i:Nat}{n:Nat}{t:TM}(hp:T[i]?=some t)(hk:(n:Int)=t.key):xE T i n=some t:=by
 unfold xE
 rw[vS,hp]
 simp only[Option.bind_some]
 rw[if_pos hk]
theorem tfind_cases (T:List TM)(i:Int)(n:Nat):xE T i n=none∨∃ (j:Nat) (t:TM),i=j∧T[j]?=some t∧(n:Int)=t.key:=by
 unfold xE
 cases hp:pick T i with
 | none=>exact .inl rfl
 | some t =>
  obtain⟨j,e,hj⟩:=pick_some hp
  simp only[Option.bind_some]
  by_cases hk:(n:Int)=t.key
  ·exact .inr ⟨j,t,e,hj,hk⟩
  ·exact .inl (if_neg hk)
theorem bytesLess_lt:∀ (x y:List UInt8),Op.bytesLess x y=decide (x < y)
 | [],[]=>by simp[Op.bytesLess]
 | _ :: _,[]=>by simp[Op.bytesLess]
 | [],_ :: _=>by simp[Op.bytesLess]
 | a :: x,b :: y=>by
  rw[Op.bytesLess,bytesLess_lt x y]
  simp only[List.cons_lt_cons_iff]
  by_cases h1:a < b<;>by_cases h2:a=b<;>by_cases h3:x < y<;>simp[h1,h2,h3]
theorem lt_of_le_ne {x y:List UInt8}(h:x≤y)(hn:x≠y):x < y:=by
 rcases Classical.em (x < y) with h1|h1
 ·exact h1
 ·exact absurd (List.le_antisymm h (List.not_lt.1 h1)) hn
end Go.Proofs.YtppefchjoodgnaaGreat
