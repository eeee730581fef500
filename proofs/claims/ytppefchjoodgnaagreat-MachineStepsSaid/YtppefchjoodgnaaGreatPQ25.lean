import Derived.Test.YtppefchjoodgnaaGreatPQ23
import Derived.Test.YtppefchjoodgnaaGreatPQ18
import Derived.Deep.CutBlock
import Derived.Test.YtppefchjoodgnaaGreatPQ22
set_option linter.unusedSimpArgs false
set_option linter.unusedVariables false
namespace Go.Proofs.YtppefchjoodgnaaGreat
open Go.RowKit
section
variable {F0 Z0:List Nat} {wf w w':World} {base mb:Nat} {σ:RS} {l:RLay}
theorem tell_id (c:Cl)(i:Nat)(t:Int):(σ.tell c i t).1.id=c.id∧(σ.tell c i t).1.ret=c.ret:=by
 unfold RS.tell
 (repeat' split)<;>exact⟨rfl,rfl⟩
theorem tells_id:∀ (ts:List Int) (c:Cl) (i:Nat),(σ.tells c i ts).1.id=c.id∧(σ.tells c i ts).1.ret=c.ret
 | [],c,i=>⟨rfl,rfl⟩
 | t :: ts,c,i=>by
  unfold RS.tells
  split
  ·exact tell_id c i t
  ·have h1:=tells_id ts (σ.tell c i t).1 (i+1)
   have h2:=tell_id (σ:=σ) c i t
   exact⟨h1.1.trans h2.1,h1.2.trans h2.2⟩
theorem told_id {id:Int}(h:(σ.told id).2=0):(σ.told id).1.id=id∧(σ.told id).1.ret=0:=by
 unfold RS.told at h ⊢
 split
 ·rename_i h1
  rw[if_pos h1]at h
  exact absurd h h1
 ·exact tells_id _ _ _
theorem xN {c:Cl}{i:Nat}{t:Int}{ts:List Int}(h:(σ.tells c i (t :: ts)).2=0):(σ.tell c i t).2=0∧σ.tells c i (t :: ts)=σ.tells (σ.tell c i t).1 (i+1) ts:=by
 rw[RS.tells]at h ⊢
 by_cases h1:(σ.tell c i t).2≠0
 ·rw[if_pos h1]at h;exact absurd h h1
 ·rw[if_neg h1];exact⟨by simpa using h1,rfl⟩
theorem tell_n {c:Cl}{i:Nat}{t:Int}(ht:t=1∨t=2∨t=3):(σ.tell c i t).1.n=c.n:=by
 unfold RS.tell
 (repeat' split)<;>first|rfl|omega
theorem tell_n4 {c:Cl}{i:Nat}(h:(σ.tell c i 4).2=0):(σ.tell c i 4).1.n=c.n++[σ.R (i+1)]:=by
 unfold RS.tell at h ⊢
 by_cases hs:σ.S (i+1)=false
 ·rw[if_pos hs]at h;simp at h
 ·rw[if_neg hs];simp
theorem told2_n (h:(σ.told 2).2=0):(σ.told 2).1.n=[σ.R 4]:=by
 have e:zU 2=[1,2,3,4]:=by simp[zU]
 have h1:(σ.tells (Cl.new 2) 0 [1,2,3,4]).2=0∧(σ.told 2).1=(σ.tells (Cl.new 2) 0 [1,2,3,4]).1:=by
  unfold RS.told at h ⊢
  by_cases hz:(σ.tells (Cl.new 2) 0 (zU 2)).2≠0
  ·rw[if_pos hz]at h;exact absurd h hz
  ·rw[if_neg hz];exact⟨by rw[← e];simpa using hz,by rw[← e]⟩
 rw[h1.2]
 have a:=xN h1.1
 rw[a.2]
 have b:=xN (by rw[← a.2];exact h1.1)
 rw[b.2]
 have c:=xN (by rw[← b.2,← a.2];exact h1.1)
 rw[c.2]
 have d:=xN (by rw[← c.2,← b.2,← a.2];exact h1.1)
 rw[d.2,RS.tells]
 simp only
 rw[tell_n4 d.1,tell_n (by simp),tell_n (by simp),tell_n (by simp)]
 rfl
theorem tell_val (hb:BytesOk σ.V.1){c:Cl}{i:Nat}{t:Int}(hc:∀ q∈c.val,0≤q∧q≤255):∀ q∈(σ.tell c i t).1.val,0≤q∧q≤255:=by
 unfold RS.tell
 (repeat' split)<;>first|exact hc|exact(mread_u8 hb _ _).1
theorem tells_val (hb:BytesOk σ.V.1):∀ (ts:List Int) (c:Cl) (i:Nat),(∀ q∈c.val,0≤q∧q≤255)→∀ q∈(σ.tells c i ts).1.val,0≤q∧q≤255
 | [],c,i,h=>h
 | t :: ts,c,i,h=>by
  unfold RS.tells
  split
  ·exact tell_val hb h
  ·exact tells_val hb ts _ _ (tell_val hb h)
theorem told_val (hb:BytesOk σ.V.1)(id:Int):∀ q∈(σ.told id).1.val,0≤q∧q≤255:=by
 unfold RS.told
 split
 ·intro q hq;cases hq
 ·exact tells_val hb _ _ _ (fun q hq=>by cases hq)
theorem gE {w:World}{q:Nat}{y:CB}(h:w.heap[q]?=some (yU y)):w.cell? ⟨q,1,none⟩=some (.int .i64 y.c.map)∧w.cell? ⟨q,2,none⟩=some (.slice y.ka y.c.key.length y.kc)∧w.cell? ⟨q,3,none⟩=some (.slice y.va y.c.val.length y.vc)∧w.cell? ⟨q,4,none⟩=some (.slice y.na y.c.n.length y.nc)∧w.cell? ⟨q,5,none⟩=some (.int .u64 y.c.ret) :=
 ⟨cO h,cO h,cO h,cO h,cO h⟩
theorem yJ {w w':World}{a:Addr}{v:Value}(h:∀ o,w.heap[a.block]?=some o→w'.heap[a.block]?=some o)(c:w.cell? a=some v):w'.cell? a=some v:=by
 unfold World.cell? at c ⊢
 cases hb:w.heap[a.block]? with
 | none=>rw[hb]at c;cases c
 | some o=>rw[h o hb];rw[hb]at c;exact c
def clrN (σ:RS)(k:Nat):RS:={σ with R:=fun j=>if 1≤j∧j≤k then 0 else σ.R j,S:=fun j=>if 1≤j∧j≤k then false else σ.S j}
theorem clr0 (σ:RS):clrN σ 0=σ:=by
 have e1:(fun j=>if 1≤j∧j≤0 then 0 else σ.R j)=σ.R:=by funext j;rw[if_neg (by omega)]
 have e2:(fun j=>if 1≤j∧j≤0 then false else σ.S j)=σ.S:=by funext j;rw[if_neg (by omega)]
 rw[clrN,e1,e2]
theorem clr_step {k:Nat}(h:MRel F0 Z0 wf base w mb (clrN σ k))(hk:k < 5):MRel F0 Z0 wf base ((w.setCell ⟨mb,12+(k+1),none⟩ (.bool false)).setCell ⟨mb,1+(k+1),none⟩ (.int .u64 0)) mb (clrN σ (k+1)):=by
 have a:=h.cell1 (12+(k+1)) _ (fun l=>rset_S (clrN σ k) l (d:=k+1) (by omega) false)
 have b:=a.cell1 (1+(k+1)) _ (fun l=>rset_R _ l (d:=k+1) (by omega) 0)
 have e1:updN (clrN σ k).R (k+1) 0=(clrN σ (k+1)).R:=by
  funext j
  simp only[updN,clrN]
  by_cases e:j=k+1
  ·rw[if_pos e,if_pos (by omega)]
  ·rw[if_neg e]
   by_cases h1:1≤j∧j≤k
   ·rw[if_pos h1,if_pos (by omega)]
   ·rw[if_neg h1,if_neg (by omega)]
 have e2:updN (clrN σ k).S (k+1) false=(clrN σ (k+1)).S:=by
  funext j
  simp only[updN,clrN]
  by_cases e:j=k+1
  ·rw[if_pos e,if_pos (by omega)]
  ·rw[if_neg e]
   by_cases h1:1≤j∧j≤k
   ·rw[if_pos h1,if_pos (by omega)]
   ·rw[if_neg h1,if_neg (by omega)]
 simp only[e1,e2]at b
 exact b
structure CallAt (Q F0 Z0:List Nat)(wf:World)(base mb:Nat)(σ:RS)(p q:Nat)(sv:Value)(id:Int)(w:World)(y:CB):Prop where
 rel:MRelQ Q F0 Z0 wf base w mb σ
 sig:w.heap[p]?=some (jM sv (tells id) (draws id) (most id))
 box:w.heap[q]?=some (yU y)
 c:CAt w 0 y
 hp:p∈Q∧wf.heap.size≤p∧p≠q∧p≠mb
 hq:q∈Q∧wf.heap.size≤q∧q≠mb
 hy:∀ j∈vblk y.kv++(vblk y.vv++vblk y.nv),j∈Q∧wf.heap.size≤j∧j≠q
theorem CallAt.step {Q:List Nat}{p q:Nat}{sv:Value}{id:Int}{y:CB}(h:CallAt Q F0 Z0 wf base mb σ p q sv id w y){σ':RS}{w5:World}(hr:MRelQ Q F0 Z0 wf base w5 mb σ')(hk:∀ j∈Q,∀ o,w.heap[j]?=some o→w5.heap[j]?=some o):CallAt Q F0 Z0 wf base mb σ' p q sv id w5 y:=by
 have hv:∀ {v:Value} {e:TypeId} {sz:Nat} {α:Type} {enc:α→List Value} {xs:List α},Own w 0 e sz enc v xs→(∀ j∈vblk v,j∈Q)→Own w5 0 e sz enc v xs:=fun ho hj=>own_objs ho (fun j o h1 h2=>hk j (hj j (by rw[yR ho];simp[h1])) o h2)
 exact⟨hr,hk p h.hp.1 _ h.sig,hk q h.hq.1 _ h.box,⟨hv h.c.key (fun j hj=>(h.hy j (by simp[hj])).1),hv h.c.val (fun j hj=>(h.hy j (by simp[hj])).1),hv h.c.n (fun j hj=>(h.hy j (by simp[hj])).1)⟩,h.hp,h.hq,h.hy⟩
theorem CallAt.ret {Q:List Nat}{p q:Nat}{sv:Value}{id:Int}{y:CB}(h:CallAt Q F0 Z0 wf base mb σ p q sv id w y)(n:Int):CallAt Q F0 Z0 wf base mb σ p q sv id (w.setCell ⟨q,5,none⟩ (.int .u64 n)) {y with c:={y.c with ret:=n}}:=by
 have k:Keep [q] w (w.setCell ⟨q,5,none⟩ (.int .u64 n)):=(Keep.rfl' _ _).setCell (by simp) _
 have hv:∀ {v:Value} {e:TypeId} {sz:Nat} {α:Type} {enc:α→List Value} {xs:List α},Own w 0 e sz enc v xs→(∀ j∈vblk v,j≠q)→Own (w.setCell ⟨q,5,none⟩ (.int .u64 n)) 0 e sz enc v xs:=fun ho hj=>ho.keep k (fun j h1 h2=>by rw[List.mem_singleton]at h2;exact hj j (by rw[yR ho];simp[h1]) h2)
 refine⟨h.rel.box h.hq.1 h.hq.2.1 5 _,(heap_setCell_other w _ _ _ (show p≠q from h.hp.2.2.1)).trans h.sig,?_,⟨hv h.c.key (fun j hj=>(h.hy j (List.mem_append_left _ hj)).2.2),hv h.c.val (fun j hj=>(h.hy j (List.mem_append_right _ (List.mem_append_left _ hj))).2.2),hv h.c.n (fun j hj=>(h.hy j (List.mem_append_right _ (List.mem_append_right _ hj))).2.2)⟩,h.hp,h.hq,h.hy⟩
 have:=heap_setCell_same w q 5 _ _ (.int .u64 n) h.box
 rw[this]
 rfl
theorem setCell_comm (w:World)(a b:Addr)(u v:Value)(h:a.block≠b.block):(w.setCell a u).setCell b v=(w.setCell b v).setCell a u:=by
 unfold World.setCell
 congr 1
 apply Array.ext_getElem?
 intro i
 simp only[Array.getElem?_modify]
 by_cases h1:a.block=i
 ·have h2:¬ b.block=i:=fun e=>h (h1.trans e.symm)
  simp[h1,h2]
 ·simp[h1]
theorem CallAt.draw {Q:List Nat}{p q:Nat}{sv:Value}{id:Int}{y:CB}(h:CallAt Q F0 Z0 wf base mb σ p q sv id w y){w5:World}(he:Ext w w5){v:Value}{xs:List Int}(hO:Own w5 w.heap.size 29 1 (fun x=>[Value.int .u64 x]) v xs)(n:Int):
  CallAt Q F0 Z0 wf base mb {σ with dr:=xs} p q sv id ((w5.setCell ⟨q,5,none⟩ (.int .u64 n)).setCell ⟨mb,26,none⟩ v) {y with c:={y.c with ret:=n}}:=by
 have hmb:mb ∉ Q:=fun hq=>by
  obtain⟨h0,hl,l,g1,g2,g3,g4⟩:=h.rel
  exact(g4 mb hq).2.1 (by simp[zX])
 rw[setCell_comm _ _ _ _ _ (show q≠mb from h.hq.2.2)]
 refine(h.step (h.rel.setDraw he hO) (fun j hj o ho=>?_)).ret n
 exact(heap_setCell_other w5 ⟨mb,26,none⟩ j v (fun e=>hmb (by have e':j=mb:=e;rw[← e'];exact hj))).trans (he.obj ho)
theorem CallAt.new (h:MRel F0 Z0 wf base w mb σ){w1 w2 w3:World}{B p:Nat}{sv:Value}{id:Int}{y:CB}(h1:Ext w w1)(hp:w.heap.size≤p)(hs:w1.heap[p]?=some (jM sv (tells id) (draws id) (most id)))(hb:w.heap.size≤B)(hc:CAt w2 B y)(h2:Ext w1 w2)(hA:Ext w2 w3)(ho:w3.heap[w2.heap.size]?=some (yU y)):
  ∃ Q,CallAt Q F0 Z0 wf base mb σ p w2.heap.size sv id w3 y:=by
 have hpl:=zE hs
 have hsz:=h2.size
 have hmb:=h.lt
 have hwf:=h.keep.size
 have hS:=zE ho
 have hvb:∀ {v:Value} {e:TypeId} {sz:Nat} {α:Type} {enc:α→List Value} {xs:List α},Own w2 B e sz enc v xs→∀ j∈vblk v,B≤j∧j < w2.heap.size:=fun ho j hj=>ho.lt (by rw[yR ho]at hj;simpa using hj)
 have hy:∀ j∈vblk y.kv++(vblk y.vv++vblk y.nv),B≤j∧j < w2.heap.size:=fun j hj=>by
  rcases List.mem_append.1 hj with hj|hj
  ·exact hvb hc.key j hj
  ·rcases List.mem_append.1 hj with hj|hj
   ·exact hvb hc.val j hj
   ·exact hvb hc.n j hj
 refine⟨p :: w2.heap.size :: (vblk y.kv++(vblk y.vv++vblk y.nv)),h.apart ((h1.trans' h2).trans' hA) (fun q hq=>?_),hA.obj (h2.obj hs),ho,(hc.ext hA).mono (Nat.zero_le _),⟨by simp,by omega,by omega,by omega⟩,⟨by simp,by omega,by omega⟩,fun j hj=>⟨by simp only[List.mem_cons];exact .inr (.inr hj),by have:=hy j hj;omega,by have:=hy j hj;omega⟩⟩
 simp only[List.mem_cons]at hq
 rcases hq with rfl|rfl|hq
 ·omega
 ·have:=h1.size;omega
 ·have:=hy q hq;omega
set_option maxRecDepth 20000 in
set_option maxHeartbeats 4000000 in
theorem m_call (x:Ins)(h:MRel F0 Z0 wf base w mb σ)(ho:σ.Ok)(hS:SlotsOk σ.V)(hdr:U64s σ.dr)(hdl:σ.dr.length≤1000000)(hcl:σ.calls.length≤1000000)(hx:x.Ok):
  Calls Tryz.prog 108 #[.pointer (some ⟨mb,0,none⟩),x.agg] w (MAns F0 Z0 wf base mb (σ.call x).1 (.int .i64 (σ.call x).2)):=by
 obtain⟨op,dst,src,off,imm⟩:=x
 have HX:=η hx.imm
 have HM:=η h
 have HO:=η ho
 have HSO:=η hS
 have HDR:=η hdr
 have HBU:=η h.u8
 have hlt:=h.lt
 obtain⟨res,hres⟩:∃ r,RS.call σ ⟨op,dst,src,off,imm⟩=r:=⟨_,rfl⟩
 rw[hres]
 have HRES:=η hres
 have hwi:wrap64 imm=imm:=by have:=HX.out;simp only at this;unfold wrap64;omega
 have HTOLD:=η (fun W tl mo dw sv (he:Ext w W) (hs:Sl W .u8 sv (zU imm))=>m_told imm tl mo dw sv (HM.out.go he) HO.out hs)
 clear h ho hS hdr hx hres
 go_enter Tryz.func108,Tryz.ntmps108
 go_upto_region 2 with fail
 simp only[hwi]
 clear hwi
 go_cut [6,7] from 17 to 22 (fun v6 v7 wx=>∃ p sv,v6=.pointer (some ⟨p,0,none⟩)∧v7=.bool (xF imm)∧Hid (w.heap.size≤p∧Ext w wx∧wx.heap[p]?=some (jM sv (tells imm) (draws imm) (most imm))∧Sl wx .u8 sv (zU imm)))
 case first =>
  go_wp2_with fail
  refine(rsig _ _).mono ?_
  rintro e w1 ⟨sv,rfl,hv,hE⟩
  obtain⟨sa,sn,sc,rfl,hsn,hSN⟩:=hv.val
  have HV:=η hv
  have hz:w.heap.size≤w1.heap.size:=by have:=hE.size;simp at this;omega
  clear hv
  go_wp2_with fail
  go_meet
  exact⟨_,_,rfl,rfl,η ⟨hz,by (repeat (first|exact xE0 _|assumption|refine xE1 ?_ _|refine xE2 ?_|refine xE3 ?_ _|refine xE4 ?_ (by assumption))),zD _ _ rfl,HV.out.ext (by (repeat (first|exact xE0 _|assumption|refine xE1 ?_ _|refine xE2 ?_|refine xE3 ?_ _|refine xE4 ?_ (by assumption))))⟩⟩
 case rest =>
  obtain⟨p,sv,rfl,rfl,HC⟩:=hcut
  obtain⟨hp,hE1,hsg,hsl⟩:=HC.out
  obtain⟨sa,sn,sc,rfl,hsn,hSN⟩:=hsl.val
  have HE1:=η hE1
  have HSG:=η hsg
  have HSL:=η hsl
  clear hE1 hsg hsl HC
  (obtain⟨s0,s1,s2,s3⟩:=κ4 (HSG.out);have sf:=fun i=>zA (i:=i) (HSG.out);skip)
  cases hh:xF imm
  ·have HH:=η hh
   go_wp2_with fail
   go_returns
   obtain rfl:res=(σ,112):=by rw[← HRES.out,RS.call,if_pos HH.out]
   exact⟨rfl,HM.out.go HE1.out⟩
  ·have HH:=η hh
   go_upto_region 5 with fail
   go_cut [8,9] from 24 to 31 (fun v8 v9 wy=>∃ q er Q y,v8=.pointer (some ⟨q,0,none⟩)∧v9=.int .i64 er∧Hid (y.c=(σ.told imm).1∧er=(σ.told imm).2)∧Hid (CallAt Q F0 Z0 wf base mb σ p q (.slice sa sn sc) imm wy y))
   case first =>
    go_wp2_with fail
    refine(HTOLD.out _ _ _ _ _ HE1.out HSL.out).mono ?_
    rintro e w2 ⟨y,hr,hyc,hca,hE2⟩
    obtain rfl:e=.returned (.tuple #[.agg #[.int .i64 y.c.id,.int .i64 y.c.map,.slice y.ka y.c.key.length y.kc,.slice y.va y.c.val.length y.vc,.slice y.na y.c.n.length y.nc,.int .u64 y.c.ret],.int .i64 (σ.told imm).2]):=hr
    have hEx:Ext w2 (w2.alloc (yU y)):=(Ext.rfl' _).alloc' _
    have hbx:=zD w2 (yU y) rfl
    have HNEW:=η (CallAt.new HM.out HE1.out hp HSG.out HE1.out.size hca hE2 hEx hbx)
    have HYC:=η hyc
    have HE2:=η hE2
    clear hca hyc hE2 hbx hEx
    go_wp2_with fail
    go_meet
    obtain⟨Q,hQ⟩:=HNEW.out
    exact⟨_,_,Q,y,rfl,rfl,η ⟨HYC.out,rfl⟩,η hQ⟩
   case rest =>
    obtain⟨q,er,Q,y,rfl,rfl,HY,HCL⟩:=hcut
    clear s0 s1 s2 s3 sf
    by_cases her:(er != 0)=true
    ·go_wp2_with fail
     go_returns
     obtain rfl:res=(σ,er):=by rw[← HRES.out,RS.call,if_neg (by simp[HH.out]),if_pos (by rw[← HY.out.2];simpa using her),← HY.out.2]
     exact⟨rfl,HCL.out.rel.rel⟩
    ·obtain rfl:er=0:=by simpa using her
     have HTD:=η (told_id HY.out.2.symm)
     have HG:=η (show res=if draws imm=true then (if yH imm σ.dr≠0 then (σ,yH imm σ.dr) else (RS.done {σ with dr:=yD imm σ.dr} {y.c with ret:=drawn imm σ.dr},0))
       else if (σ.acts y.c).2.2≠0 then ({σ with V:=(σ.acts y.c).1},(σ.acts y.c).2.2) else (RS.done {σ with V:=(σ.acts y.c).1} {y.c with ret:=(σ.acts y.c).2.1},0) by
      rw[← HRES.out,RS.call,if_neg (by simp[HH.out]),if_neg (by rw[← HY.out.2];simp)]
      simp only[HY.out.1])
     clear her HRES
     go_upto_block 0 with fail
     go_cut [9] from 34 to 86 (fun v9 wy=>v9=.int .i64 (σ.acts y.c).2.2∧Hid (CallAt Q F0 Z0 wf base mb {σ with V:=(σ.acts y.c).1} p q (.slice sa sn sc) imm wy {y with c:={y.c with ret:=(σ.acts y.c).2.1}}))
     case first =>
      rcases Classical.em (imm=1) with h1|h1
      ·subst h1
       obtain⟨tb,ct,HL,HPD⟩:=HCL.out.rel.tabs
       have hid:y.c.id=1:=by rw[HY.out.1];exact HTD.out.1
       have HACT:Hid (σ.acts y.c=(σ.V,xT σ.V.2 y.c.map y.c.key)):=η (by rw[RS.acts,hid];simp)
       have HS:Hid (∀ w':World,(∀ j,(j∈Q∨j=mb)→∀ o,wc.heap[j]?=some o→w'.heap[j]?=some o)→(w'.cell? ⟨mb,24,none⟩=some (.pointer (some ⟨tb,0,none⟩))∧w'.cell? ⟨q,1,none⟩=some (.int .i64 y.c.map)∧w'.cell? ⟨q,2,none⟩=some (.slice y.ka y.c.key.length y.kc))∧∀ v,((w'.setCell ⟨q,5,none⟩ v).cell? ⟨mb,24,none⟩=some (.pointer (some ⟨tb,0,none⟩))∧(w'.setCell ⟨q,5,none⟩ v).cell? ⟨q,1,none⟩=some (.int .i64 y.c.map)∧(w'.setCell ⟨q,5,none⟩ v).cell? ⟨q,2,none⟩=some (.slice y.ka y.c.key.length y.kc))):=η (fun w' hk=>by
        have c0:=yJ (a:=⟨mb,24,none⟩) (hk mb (.inr rfl)) ct
        have bx:=hk q (.inl HCL.out.hq.1) _ HCL.out.box
        obtain⟨c1,c2,c3,c4,c5⟩:=gE bx
        refine⟨⟨c0,c1,c2⟩,fun v=>?_⟩
        have b2:=heap_setCell_same w' q 5 _ _ v bx
        have d0:=(cell?_setCell_ne_block w' ⟨q,5,none⟩ ⟨mb,24,none⟩ v (show mb≠q from fun e=>HCL.out.hq.2.2 e.symm)).trans c0
        have d1:=cO (i:=1) b2
        have d2:=cO (i:=2) b2
        have d3:=cO (i:=3) b2
        have d4:=cO (i:=4) b2
        simp at d1 d2 d3 d4
        exact⟨d0,d1,d2⟩)
       obtain⟨b1,b2,b3,b4,b5⟩:=gE HCL.out.box
       skip
       go_upto_region 10 with fail
       clear b1 b2 b3 b4 b5 ct
       go_region_held3 (fun w'=>w'.cell? ⟨mb,24,none⟩=some (.pointer (some ⟨tb,0,none⟩))∧w'.cell? ⟨q,1,none⟩=some (.int .i64 y.c.map)∧w'.cell? ⟨q,2,none⟩=some (.slice y.ka y.c.key.length y.kc))
        (first|exact(HS.out _ HK5.out).2 _|exact(HS.out _ HK5.out).1|exact(HS.out _ K5).1|exact(HS.out _ (fun j hj o ho=>Ext.obj (by (repeat (first|exact xE0 _|assumption|refine xE1 ?_ _|refine xE2 ?_|refine xE3 ?_ _|refine xE4 ?_ (by assumption)))) ho)).1)
        ((go_at_call 146;refine(HL.out _ y.c.map (.slice y.ka y.c.key.length y.kc) y.c.key (by (repeat (first|exact xE0 _|assumption|refine xE1 ?_ _|refine xE2 ?_|refine xE3 ?_ _|refine xE4 ?_ (by assumption)))) ((HCL.out.c.key.ext (by (repeat (first|exact xE0 _|assumption|refine xE1 ?_ _|refine xE2 ?_|refine xE3 ?_ _|refine xE4 ?_ (by assumption))))).rd (zG _))).mono ?_;rintro e w5 ⟨rfl,hE5⟩;have hE6:Ext wc w5:=(by (repeat (first|exact xE0 _|assumption|refine xE1 ?_ _|refine xE2 ?_|refine xE3 ?_ _|refine xE4 ?_ (by assumption))));have K5:∀ j,(j∈Q∨j=mb)→∀ o,wc.heap[j]?=some o→w5.heap[j]?=some o:=(fun j _ o ho=>hE6.obj ho);have HR5:=η (HCL.out.rel.go hE6);have hb5:=K5 q (.inl HCL.out.hq.1) _ HCL.out.box;have z5:=cO (i:=5) hb5;have zf:=zA (i:=5) hb5;simp only[gA,gB,gC]at z5;have HK5:=η K5;clear K5 hb5))
       all_goals
        have HD:=η ((HCL.out.step HR5.out (fun j hj=>HK5.out j (.inl hj))).ret (σ.acts y.c).2.1)
        go_wp2_with fail
        go_meet
        rw[HACT.out]at HD ⊢
        exact⟨rfl,HD⟩
      rcases Classical.em (imm=2) with h2|h2
      ·subst h2
       obtain⟨tb,ct,HL,HPD⟩:=HCL.out.rel.tabs
       have hid:y.c.id=2:=by rw[HY.out.1];exact HTD.out.1
       have hn:y.c.n=[σ.R 4]:=by rw[HY.out.1];exact told2_n HY.out.2.symm
       have hnl:y.c.n.length=1:=by rw[hn];rfl
       have hnr:=HCL.out.c.n.rd (zG .u64)
       rw[show y.nv=.slice y.na 1 y.nc by simp only[CB.nv,hnl],hn]at hnr
       have ixn:=fun W=>hnr.run_at (P:=Tryz.prog) el_u64.under el_u64.size .i64 0 (by omega) (by omega) W
       have cn:=hnr.cell (i:=0) (x:=σ.R 4) rfl (j:=0) rfl
       simp only[Nat.mul_one,Nat.add_zero,Int.toNat_zero]at ixn cn
       have hnb:(elt (.slice y.na 1 y.nc) 0).block∈Q∧(elt (.slice y.na 1 y.nc) 0).block≠q:=by
        have hvb:vblk y.nv=y.nv.ownBlock.toList:=yR HCL.out.c.n
        cases hna:y.na with
        | none=>rw[hna]at hnr;have:=hnr.of_isNil;omega
        | some a =>
         have e1:(elt (.slice (some a) 1 y.nc) 0).block=a.block:=by simp only[elt,Addr.add];split<;>rfl
         rw[e1]
         have:=HCL.out.hy a.block (by simp[CB.nv,hna,vblk])
         exact⟨this.1,this.2.2⟩
       have HNB:=η hnb
       clear hnr hnb
       have HACT:Hid (σ.acts y.c=rput σ.V y.c.map y.c.key y.c.val (σ.R 4)):=η (by rw[RS.acts,hid];simp[hn])
       have HS:Hid (∀ w':World,(∀ j,(j∈Q∨j=mb)→∀ o,wc.heap[j]?=some o→w'.heap[j]?=some o)→(w'.cell? ⟨mb,24,none⟩=some (.pointer (some ⟨tb,0,none⟩))∧w'.cell? ⟨q,1,none⟩=some (.int .i64 y.c.map)∧w'.cell? ⟨q,2,none⟩=some (.slice y.ka y.c.key.length y.kc)∧w'.cell? ⟨q,3,none⟩=some (.slice y.va y.c.val.length y.vc)∧w'.cell? ⟨q,4,none⟩=some (.slice y.na 1 y.nc)∧w'.cell? (elt (.slice y.na 1 y.nc) 0)=some (.int .u64 (σ.R 4)))∧∀ v,((w'.setCell ⟨q,5,none⟩ v).cell? ⟨mb,24,none⟩=some (.pointer (some ⟨tb,0,none⟩))∧(w'.setCell ⟨q,5,none⟩ v).cell? ⟨q,1,none⟩=some (.int .i64 y.c.map)∧(w'.setCell ⟨q,5,none⟩ v).cell? ⟨q,2,none⟩=some (.slice y.ka y.c.key.length y.kc)∧(w'.setCell ⟨q,5,none⟩ v).cell? ⟨q,3,none⟩=some (.slice y.va y.c.val.length y.vc)∧(w'.setCell ⟨q,5,none⟩ v).cell? ⟨q,4,none⟩=some (.slice y.na 1 y.nc)∧(w'.setCell ⟨q,5,none⟩ v).cell? (elt (.slice y.na 1 y.nc) 0)=some (.int .u64 (σ.R 4)))):=η (fun w' hk=>by
        have c0:=yJ (a:=⟨mb,24,none⟩) (hk mb (.inr rfl)) ct
        have bx:=hk q (.inl HCL.out.hq.1) _ HCL.out.box
        obtain⟨c1,c2,c3,c4,c5⟩:=gE bx
        rw[hnl]at c4
        have cn':=yJ (a:=elt (.slice y.na 1 y.nc) 0) (hk _ (.inl HNB.out.1)) cn
        refine⟨⟨c0,c1,c2,c3,c4,cn'⟩,fun v=>?_⟩
        have b2:=heap_setCell_same w' q 5 _ _ v bx
        have d0:=(cell?_setCell_ne_block w' ⟨q,5,none⟩ ⟨mb,24,none⟩ v (show mb≠q from fun e=>HCL.out.hq.2.2 e.symm)).trans c0
        have d1:=cO (i:=1) b2
        have d2:=cO (i:=2) b2
        have d3:=cO (i:=3) b2
        have d4:=cO (i:=4) b2
        simp at d1 d2 d3 d4
        rw[hnl]at d4
        have d5:=(cell?_setCell_ne_block w' ⟨q,5,none⟩ (elt (.slice y.na 1 y.nc) 0) v (show (elt (.slice y.na 1 y.nc) 0).block≠q from HNB.out.2)).trans cn'
        exact⟨d0,d1,d2,d3,d4,d5⟩)
       have HVB:Hid (∀ q∈y.c.val,0≤q∧q≤255):=η (by rw[HY.out.1];exact told_val HBU.out 2)
       have HQB:Hid (∀ j∈(Value.slice y.ka y.c.key.length y.kc).ownBlock.toList++(Value.slice y.va y.c.val.length y.vc).ownBlock.toList,j∈Q):=η (fun j hj=>by
        have e1:vblk y.kv=y.kv.ownBlock.toList:=yR HCL.out.c.key
        have e2:vblk y.vv=y.vv.ownBlock.toList:=yR HCL.out.c.val
        refine(HCL.out.hy j ?_).1
        rw[e1,e2]
        rcases List.mem_append.1 hj with h|h
        ·exact List.mem_append_left _ h
        ·exact List.mem_append_right _ (List.mem_append_left _ h))
       obtain⟨b1,b2,b3,b4,b5⟩:=gE HCL.out.box
       rw[hnl]at b4
       go_upto_region 12 with fail
       clear b1 b2 b3 b4 b5 ct cn
       go_region_held3 (fun w'=>w'.cell? ⟨mb,24,none⟩=some (.pointer (some ⟨tb,0,none⟩))∧w'.cell? ⟨q,1,none⟩=some (.int .i64 y.c.map)∧w'.cell? ⟨q,2,none⟩=some (.slice y.ka y.c.key.length y.kc)∧w'.cell? ⟨q,3,none⟩=some (.slice y.va y.c.val.length y.vc)∧w'.cell? ⟨q,4,none⟩=some (.slice y.na 1 y.nc)∧w'.cell? (elt (.slice y.na 1 y.nc) 0)=some (.int .u64 (σ.R 4)))
        (first|exact(HS.out _ HK5.out).2 _|exact(HS.out _ HK5.out).1|exact(HS.out _ K5).1|exact(HS.out _ (fun j hj o ho=>Ext.obj (by (repeat (first|exact xE0 _|assumption|refine xE1 ?_ _|refine xE2 ?_|refine xE3 ?_ _|refine xE4 ?_ (by assumption)))) ho)).1)
        ((go_at_call 35;refine((HPD HSO.out).1.out _ 0 y.c.map (.slice y.ka y.c.key.length y.kc) y.c.key (.slice y.va y.c.val.length y.vc) y.c.val (σ.R 4) (by (repeat (first|exact xE0 _|assumption|refine xE1 ?_ _|refine xE2 ?_|refine xE3 ?_ _|refine xE4 ?_ (by assumption)))) HQB.out (HCL.out.c.key.ext (by (repeat (first|exact xE0 _|assumption|refine xE1 ?_ _|refine xE2 ?_|refine xE3 ?_ _|refine xE4 ?_ (by assumption))))) (HCL.out.c.val.ext (by (repeat (first|exact xE0 _|assumption|refine xE1 ?_ _|refine xE2 ?_|refine xE3 ?_ _|refine xE4 ?_ (by assumption))))) HVB.out (HO.out 4 (by decide))).mono ?_;rintro e w5 ⟨rfl,hR5,hK5⟩;have K5:∀ j,(j∈Q∨j=mb)→∀ o,wc.heap[j]?=some o→w5.heap[j]?=some o:=(fun j hj o ho=>hK5 j hj o (Ext.obj (by (repeat (first|exact xE0 _|assumption|refine xE1 ?_ _|refine xE2 ?_|refine xE3 ?_ _|refine xE4 ?_ (by assumption)))) ho));have HR5:=η hR5;clear hR5 hK5;have hb5:=K5 q (.inl HCL.out.hq.1) _ HCL.out.box;have z5:=cO (i:=5) hb5;have zf:=zA (i:=5) hb5;simp only[gA,gB,gC]at z5;have HK5:=η K5;clear K5 hb5))
       all_goals
        have HD:=η ((HCL.out.step HR5.out (fun j hj=>HK5.out j (.inl hj))).ret (σ.acts y.c).2.1)
        go_wp2_with fail
        go_meet
        rw[HACT.out]at HD ⊢
        exact⟨rfl,HD⟩
      rcases Classical.em (imm=3) with h3|h3
      ·subst h3
       obtain⟨tb,ct,HL,HPD⟩:=HCL.out.rel.tabs
       have hid:y.c.id=3:=by rw[HY.out.1];exact HTD.out.1
       have HACT:Hid (σ.acts y.c=((σ.V.1,(xR σ.V.2 y.c.map y.c.key).1),(xR σ.V.2 y.c.map y.c.key).2)):=η (by rw[RS.acts,hid];simp)
       have HS:Hid (∀ w':World,(∀ j,(j∈Q∨j=mb)→∀ o,wc.heap[j]?=some o→w'.heap[j]?=some o)→(w'.cell? ⟨mb,24,none⟩=some (.pointer (some ⟨tb,0,none⟩))∧w'.cell? ⟨q,1,none⟩=some (.int .i64 y.c.map)∧w'.cell? ⟨q,2,none⟩=some (.slice y.ka y.c.key.length y.kc))∧∀ v,((w'.setCell ⟨q,5,none⟩ v).cell? ⟨mb,24,none⟩=some (.pointer (some ⟨tb,0,none⟩))∧(w'.setCell ⟨q,5,none⟩ v).cell? ⟨q,1,none⟩=some (.int .i64 y.c.map)∧(w'.setCell ⟨q,5,none⟩ v).cell? ⟨q,2,none⟩=some (.slice y.ka y.c.key.length y.kc))):=η (fun w' hk=>by
        have c0:=yJ (a:=⟨mb,24,none⟩) (hk mb (.inr rfl)) ct
        have bx:=hk q (.inl HCL.out.hq.1) _ HCL.out.box
        obtain⟨c1,c2,c3,c4,c5⟩:=gE bx
        refine⟨⟨c0,c1,c2⟩,fun v=>?_⟩
        have b2:=heap_setCell_same w' q 5 _ _ v bx
        have d0:=(cell?_setCell_ne_block w' ⟨q,5,none⟩ ⟨mb,24,none⟩ v (show mb≠q from fun e=>HCL.out.hq.2.2 e.symm)).trans c0
        have d1:=cO (i:=1) b2
        have d2:=cO (i:=2) b2
        have d3:=cO (i:=3) b2
        have d4:=cO (i:=4) b2
        simp at d1 d2 d3 d4
        exact⟨d0,d1,d2⟩)
       obtain⟨b1,b2,b3,b4,b5⟩:=gE HCL.out.box
       skip
       go_upto_region 14 with fail
       clear b1 b2 b3 b4 b5 ct
       go_region_held3 (fun w'=>w'.cell? ⟨mb,24,none⟩=some (.pointer (some ⟨tb,0,none⟩))∧w'.cell? ⟨q,1,none⟩=some (.int .i64 y.c.map)∧w'.cell? ⟨q,2,none⟩=some (.slice y.ka y.c.key.length y.kc))
        (first|exact(HS.out _ HK5.out).2 _|exact(HS.out _ HK5.out).1|exact(HS.out _ K5).1|exact(HS.out _ (fun j hj o ho=>Ext.obj (by (repeat (first|exact xE0 _|assumption|refine xE1 ?_ _|refine xE2 ?_|refine xE3 ?_ _|refine xE4 ?_ (by assumption)))) ho)).1)
        ((go_at_call 147;refine((HPD HSO.out).2.out _ y.c.map (.slice y.ka y.c.key.length y.kc) y.c.key (by (repeat (first|exact xE0 _|assumption|refine xE1 ?_ _|refine xE2 ?_|refine xE3 ?_ _|refine xE4 ?_ (by assumption)))) ((HCL.out.c.key.ext (by (repeat (first|exact xE0 _|assumption|refine xE1 ?_ _|refine xE2 ?_|refine xE3 ?_ _|refine xE4 ?_ (by assumption))))).rd (zG _))).mono ?_;rintro e w5 ⟨rfl,hR5,hK5⟩;have K5:∀ j,(j∈Q∨j=mb)→∀ o,wc.heap[j]?=some o→w5.heap[j]?=some o:=(fun j hj o ho=>hK5 j hj o (Ext.obj (by (repeat (first|exact xE0 _|assumption|refine xE1 ?_ _|refine xE2 ?_|refine xE3 ?_ _|refine xE4 ?_ (by assumption)))) ho));have HR5:=η hR5;clear hR5 hK5;have hb5:=K5 q (.inl HCL.out.hq.1) _ HCL.out.box;have z5:=cO (i:=5) hb5;have zf:=zA (i:=5) hb5;simp only[gA,gB,gC]at z5;have HK5:=η K5;clear K5 hb5))
       all_goals
        have HD:=η ((HCL.out.step HR5.out (fun j hj=>HK5.out j (.inl hj))).ret (σ.acts y.c).2.1)
        go_wp2_with fail
        go_meet
        rw[HACT.out]at HD ⊢
        exact⟨rfl,HD⟩
      have e1:(imm == 1)=false:=by simpa using h1
      have e2:(imm == 2)=false:=by simpa using h2
      have e3:(imm == 3)=false:=by simpa using h3
      have hid:y.c.id=imm∧y.c.ret=0:=by rw[HY.out.1];exact HTD.out
      have HACT:Hid (σ.acts y.c=(σ.V,0,0)):=η (by rw[RS.acts,hid.1,if_neg h1,if_neg h2,if_neg h3])
      have hy0:({y with c:={y.c with ret:=0}}:CB)=y:=by
       have:=hid.2
       obtain⟨⟨i,m,kk,vv,nn,r⟩,a1,a2,a3,a4,a5,a6⟩:=y
       simp only at this
       subst this
       rfl
      have HY0:=η hy0
      clear hid hy0
      go_wp2_with fail
      go_meet
      rw[HACT.out]
      exact⟨rfl,η (by rw[HY0.out];exact HCL.out)⟩
     case rest =>
      obtain⟨rfl,HC2⟩:=hcut
      have HCLN:=η hcl
      cases hd:draws imm
      ·obtain⟨V2,r2,e2,hac⟩:∃ V2 r2 e2,σ.acts y.c=(V2,r2,e2):=⟨_,_,_,rfl⟩
       rw[hd,hac]at HG
       rw[hac]at HC2 ⊢
       have hg:=HG.out
       simp only[Bool.false_eq_true,if_false]at hg
       have HGG:=η hg
       have HDD:=η hd
       clear hac hg HG
       have q2:wc.cell? ⟨p,2,none⟩=some (.bool (draws imm)):=cO HC2.out.sig
       rw[hd]at q2
       clear hd
       by_cases her:(e2 != 0)=true
       ·go_wp2_with fail
        go_returns
        obtain rfl:res=({σ with V:=V2},e2):=by rw[HGG.out,if_pos (by simpa using her)]
        exact⟨rfl,HC2.out.rel.rel⟩
       ·obtain rfl:e2=0:=by simpa using her
        have HRS:Hid (res=(RS.done {σ with V:=V2} {y.c with ret:=r2},0)):=η (by rw[HGG.out];simp)
        have HRS2:Hid (({σ with V:=V2}:RS).calls.length≤1000000):=HCLN
        clear her HGG HCLN
        obtain⟨st,hst⟩:∃ s,({σ with V:=V2}:RS)=s:=⟨_,rfl⟩
        obtain⟨yt,hyt⟩:∃ s,({y with c:={y.c with ret:=r2}}:CB)=s:=⟨_,rfl⟩
        have hyc:({y.c with ret:=r2}:Cl)=yt.c:=by rw[← hyt]
        rw[hst,hyc]at HRS
        rw[hst]at HRS2
        rw[hst,hyt]at HC2
        have HT:=HC2
        have HCLN:=HRS2
        clear HC2 HRS2
        go_upto_region 21 with fail
        go_cut [108] from 107 to 109 (fun v wx=>v=.bool false∧Hid (CallAt Q F0 Z0 wf base mb st p q (.slice sa sn sc) imm wx yt))
        case first =>
         go_wp2_with fail
         go_meet
         exact⟨rfl,HT⟩
        case rest =>
         obtain⟨rfl,HT⟩:=hcut
         obtain⟨h0,hl,l,g1,g2,g3,g4⟩:=HT.out.rel
         obtain⟨ca,cn,cc,hcv,hcn,hCN⟩:=(g1.calls.rd xK).val
         have hcl2:l.cs.length≤1000000:=by have:=congrArg List.length g1.cls;rw[List.length_map]at this;rw[this];exact HCLN.out
         have hnod:=List.nodup_cons.1 g1.apart
         have hown0:=g1.calls
         rw[hcv]at hown0
         have hmbn:mb ∉ (Value.slice ca cn cc).ownBlock.toList:=fun hb=>hnod.1 (List.mem_append_left _ (by rw[hcv];exact hb))
         have hqn:q ∉ (Value.slice ca cn cc).ownBlock.toList:=fun hb=>(g4 q HT.out.hq.1).2.1 (by simp only[zX,List.mem_cons,List.mem_append];exact .inr (.inl (by rw[hcv];exact hb)))
         have hlow:base≤wc.heap.size:=Nat.le_trans hl h0.size
         have HOWN:=η hown0
         have HMB:=η g1.head
         have hbb:wc.cell? ⟨mb,31,none⟩=some (.slice ca cn cc):=by have:=g1.cell 31 rfl;rw[hcv]at this;exact this
         have hbz:=hbb
         have HBX:=η HT.out.box
         have HY1:Hid (Rd (wc.alloc (.cells #[.int .i64 yt.c.id,.int .i64 yt.c.map,.slice yt.ka yt.c.key.length yt.kc,.slice yt.va yt.c.val.length yt.vc,.slice yt.na yt.c.n.length yt.nc,.int .u64 yt.c.ret] 76)) 6 CB.enc (.slice (some ⟨wc.heap.size,0,none⟩) 1 1) [yt]):=η ((Own.lit xK (base:=0) (w:=wc) [yt] rfl rfl (Nat.zero_le _) (by simp[maxLen])).rd xK)
         have HF5:Hid (∀ u':World,(wc.alloc (.cells #[.int .i64 yt.c.id,.int .i64 yt.c.map,.slice yt.ka yt.c.key.length yt.kc,.slice yt.va yt.c.val.length yt.vc,.slice yt.na yt.c.n.length yt.nc,.int .u64 yt.c.ret] 76)).grownBy u' (Value.slice ca cn cc).ownBlock→Keep (Value.slice ca cn cc).ownBlock.toList wc u'∧u'.cell? ⟨mb,31,none⟩=some (.slice ca cn cc)∧u'.frozen? ⟨mb,31,none⟩=false∧u'.heap[q]?=some (yU yt)):=η fun u' hg=>by
          have hk:Keep (Value.slice ca cn cc).ownBlock.toList wc u':=(Keep.of_ext ((Ext.rfl' wc).alloc' _)).trans (yB hg)
          exact⟨hk,yJ (a:=⟨mb,31,none⟩) (fun o ho=>hk.obj ho hmbn) hbz,zA (hk.obj HMB.out hmbn),hk.obj HBX.out hqn⟩
         have hfz:=zA (i:=31) g1.head
         have hfz2:(wc.alloc (.cells #[.int .i64 yt.c.id,.int .i64 yt.c.map,.slice yt.ka yt.c.key.length yt.kc,.slice yt.va yt.c.val.length yt.vc,.slice yt.na yt.c.n.length yt.nc,.int .u64 yt.c.ret] 76)).drew.frozen? ⟨mb,31,none⟩=false:=zA (i:=31) (zB (.cells #[.int .i64 yt.c.id,.int .i64 yt.c.map,.slice yt.ka yt.c.key.length yt.kc,.slice yt.va yt.c.val.length yt.vc,.slice yt.na yt.c.n.length yt.nc,.int .u64 yt.c.ret] 76) g1.head)
         have hbw4:(wc.alloc (.cells #[.int .i64 yt.c.id,.int .i64 yt.c.map,.slice yt.ka yt.c.key.length yt.kc,.slice yt.va yt.c.val.length yt.vc,.slice yt.na yt.c.n.length yt.nc,.int .u64 yt.c.ret] 76)).drew.cell? ⟨mb,31,none⟩=some (.slice ca cn cc):=yJ (w:=wc) (a:=⟨mb,31,none⟩) (fun o ho=>zB _ ho) hbb
         have hqmb:q≠mb:=HT.out.hq.2.2
         (obtain⟨b0,b1,b2,b3,b4,b5⟩:=κ6 (HBX.out);have bf:=fun i=>zA (i:=i) (HBX.out);skip)
         have HL:=η (And.intro h0 (And.intro hl (And.intro g1 (And.intro g2 (And.intro g3 (And.intro g4 hcv))))))
         clear h0 hl g1 g2 g3 g4 hcv hnod hown0 hbz
         go_upto_region 23 with fail
         go_region_law
          ((apply qT el_called xK (xs:=l.cs) (ys:=[yt]) (base:=base);(case hw=>rfl);(case ho=>rfl);(case hs=>rfl);(case hown=>exact(HOWN.out.alloc _).drew);(case hx=>rfl);(case hy=>exact HY1.out.ext (Ext.drew' (Ext.rfl' _)));(case hbytes=>simp;omega);(case hbase=>simp;omega);intro lv w5 hown5 hgrow5 hmv5;obtain⟨hk5,d0,d1,d2⟩:=HF5.out w5 ⟨hgrow5.os,hgrow5.tape,hgrow5.output,hgrow5.size,hgrow5.block⟩;have HO5:=η hown5;have HK5:=η hk5;have HB5:=η d2;have HMV5:Hid (∀ k,lv.ownBlock=some k→(Value.slice ca cn cc).ownBlock=some k∨wc.heap.size≤k):=η (fun k hk=>(hmv5 k hk).imp id (fun h=>by simp at h;omega));clear hown5 hgrow5 hmv5 hk5 d2;obtain⟨la,ln,lc,rfl,hln,hLN⟩:=(HO5.out.rd xK).val))
         all_goals
          obtain⟨h0,hl,g1,g2,g3,g4,hcv⟩:=HL.out
          have hpu:=MRelQ.push (x:=yt) (v:=.slice la ln lc) h0 hl g1 g2 g3 g4 (fun j hj=>⟨(HT.out.hy j hj).1,(HT.out.hy j hj).2.1⟩) ⟨HT.out.c.key.rd (zG _),HT.out.c.val.rd (zG _),HT.out.c.n.rd (zG _)⟩ (by rw[hcv];exact HK5.out) HO5.out (by rw[hcv];exact HMV5.out)
          have HM6:=η hpu.1
          have HB6:=η (hpu.2 q HT.out.hq.1 _ HBX.out)
          clear hpu h0 hl g1 g2 g3 g4 hcv b0 b1 b2 b3 b4 b5 bf hbb hfz hfz2 hbw4 HL HF5 HY1 d0 d1
          generalize hw6:(World.setCell w5 ⟨mb,31,none⟩ (.slice la ln lc))=w6 at *
          clear hw6
          go_wp2_with fail
          go_loopw [13] (fun q13 wr=>∃ k:Nat,k≤5∧q13=.int .i64 ((k+1:Nat):Int)∧Hid (MRel F0 Z0 wf base wr mb (clrN {st with calls:=st.calls++[yt.c]} k))∧Hid (wr.heap[q]?=some (yU yt))) (fun q13 _=>6 - (intOf q13).toNat)
          case atStart=>exact⟨0,by decide,rfl,η (by rw[clr0];exact HM6.out),HB6⟩
          case round =>
           obtain⟨k,hk,rfl,HMk,HBk⟩:=hrel
           obtain⟨h0,hl,l2,g1,g2,g3⟩:=HMk.out
           have hlm:=zE g1.head
           by_cases hk5:k < 5
           ·have c1:=g1.cell (1+(k+1)) (qM _ l2 (by omega))
            have c2:=g1.cell (12+(k+1)) (jT _ l2 (by omega))
            have mf:=fun i=>zA (i:=i) g1.head
            have HNX:=η (clr_step HMk.out hk5)
            have HBN:=η ((heap_setCell_other (wr.setCell ⟨mb,12+(k+1),none⟩ (.bool false)) ⟨mb,1+(k+1),none⟩ q (.int .u64 0) hqmb).trans ((heap_setCell_other wr ⟨mb,12+(k+1),none⟩ q (.bool false) hqmb).trans HBk.out))
            have hle:((k+1:Nat):Int)≤5:=by omega
            have hd3:((k+1:Nat):Int) < 11:=by omega
            clear h0 hl g1 g2 g3
            go_wp2_with fail
            go_roundw
            case rel=>exact⟨k+1,by omega,by go_num,HNX,HBN⟩
            case measure=>simp[intOf];omega
           ·obtain rfl:k=5:=by omega
            clear h0 hl g1 g2 g3
            (obtain⟨b0,b1,b2,b3,b4,b5⟩:=κ6 (HBk.out);have bf:=fun i=>zA (i:=i) (HBk.out);skip)
            go_wp2_with fail
            refine(tA HMk.out 0 (by decide) yt.c.ret).mono ?_
            rintro e w7 ⟨rfl,hM7⟩
            go_wp2_with fail
            go_returns
            obtain rfl:=HRS.out
            exact⟨rfl,hM7⟩
      ·have hids:imm=5∨imm=7∨imm=8:=by simp[draws]at hd;omega
       have hyid:y.c.id=imm:=by rw[HY.out.1];exact HTD.out.1
       have hac:σ.acts y.c=(σ.V,0,0):=by rw[RS.acts,if_neg (by omega),if_neg (by omega),if_neg (by omega)]
       rw[hd]at HG
       rw[hac]at HC2 ⊢
       have HC3:Hid (CallAt Q F0 Z0 wf base mb σ p q (.slice sa sn sc) imm wc {y with c:={y.c with ret:=0}}):=HC2
       have HGG:Hid (res=if yH imm σ.dr≠0 then (σ,yH imm σ.dr) else (RS.done {σ with dr:=yD imm σ.dr} {y.c with ret:=drawn imm σ.dr},0)):=η (by have:=HG.out;simpa using this)
       have HDD:=η hd
       clear hac HG HC2 hyid
       have q2:wc.cell? ⟨p,2,none⟩=some (.bool (draws imm)):=cO HC3.out.sig
       rw[hd]at q2
       clear hd
       obtain⟨h0,hl,l,g1,g2,g3,g4⟩:=HC3.out.rel
       obtain⟨da,dn,dc,hdv,hdn,hDN⟩:=g1.draws.val
       have cdr:wc.cell? ⟨mb,26,none⟩=some (.slice da dn dc):=by have:=g1.cell 26 rfl;rw[hdv]at this;exact this
       have hdsl:=g1.draws
       rw[hdv]at hdsl
       have HDSL:=η hdsl
       have hmh:=g1.head
       have HMH:=η hmh
       clear h0 hl g1 g2 g3 g4 hdv hdsl hmh
       go_upto_region 16 with fail
       go_wp2_with fail
       refine(rdraw imm _ σ.dr _ (HDSL.out.ext (by (repeat (first|exact xE0 _|assumption|refine xE1 ?_ _|refine xE2 ?_|refine xE3 ?_ _|refine xE4 ?_ (by assumption))))) (by omega) HDR.out).mono ?_
       rintro e w5 ⟨v5,rfl,hO5,hE5⟩
       obtain⟨va,vn,vc,rfl,hvn,hVN⟩:=(hO5.rd (zG .u64)).val
       have HO5:=η hO5
       have HE5:Hid (Ext wc w5):=η (by (repeat (first|exact xE0 _|assumption|refine xE1 ?_ _|refine xE2 ?_|refine xE3 ?_ _|refine xE4 ?_ (by assumption))))
       have hmf:=fun i=>zA (i:=i) (HE5.out.obj HMH.out)
       have hmc:=HE5.out.cellOf cdr
       clear hO5 hE5 cdr
       by_cases her:(yH imm σ.dr != 0)=true
       ·go_wp2_with fail
        go_returns
        obtain rfl:res=(σ,yH imm σ.dr):=by rw[HGG.out,if_pos (by simpa using her)]
        exact⟨rfl,HC3.out.rel.rel.go HE5.out⟩
       ·have her0:(yH imm σ.dr != 0)=false:=by simpa using her
        have HRS:Hid (res=(RS.done {σ with dr:=yD imm σ.dr} {y.c with ret:=drawn imm σ.dr},0)):=η (by rw[HGG.out,if_neg (by simpa using her)])
        have HRS2:Hid (({σ with dr:=yD imm σ.dr}:RS).calls.length≤1000000):=HCLN
        have HT:Hid (CallAt Q F0 Z0 wf base mb {σ with dr:=yD imm σ.dr} p q (.slice sa sn sc) imm ((w5.setCell ⟨q,5,none⟩ (.int .u64 (drawn imm σ.dr))).setCell ⟨mb,26,none⟩ (.slice va vn vc)) {y with c:={y.c with ret:=drawn imm σ.dr}}):=η (HC3.out.draw HE5.out HO5.out (drawn imm σ.dr))
        have hbx:=HE5.out.obj HC3.out.box
        have z5:w5.cell? ⟨q,5,none⟩=some (.int .u64 0):=cO hbx
        have zf:=zA (i:=5) hbx
        have hqm:q≠mb:=HC3.out.hq.2.2
        clear her HGG HCLN hbx
        obtain⟨st,hst⟩:∃ s,({σ with dr:=yD imm σ.dr}:RS)=s:=⟨_,rfl⟩
        obtain⟨yt,hyt⟩:∃ s,({y with c:={y.c with ret:=drawn imm σ.dr}}:CB)=s:=⟨_,rfl⟩
        have hyc:({y.c with ret:=drawn imm σ.dr}:Cl)=yt.c:=by rw[← hyt]
        rw[hst,hyc]at HRS
        rw[hst]at HRS2
        rw[hst,hyt]at HT
        have HCLN:=HRS2
        clear HRS2
        go_upto_region 21 with fail
        go_cut [108] from 107 to 109 (fun v wx=>v=.bool false∧Hid (CallAt Q F0 Z0 wf base mb st p q (.slice sa sn sc) imm wx yt))
        case first =>
         go_wp2_with fail
         go_meet
         exact⟨rfl,HT⟩
        case rest =>
         obtain⟨rfl,HT⟩:=hcut
         obtain⟨h0,hl,l,g1,g2,g3,g4⟩:=HT.out.rel
         obtain⟨ca,cn,cc,hcv,hcn,hCN⟩:=(g1.calls.rd xK).val
         have hcl2:l.cs.length≤1000000:=by have:=congrArg List.length g1.cls;rw[List.length_map]at this;rw[this];exact HCLN.out
         have hnod:=List.nodup_cons.1 g1.apart
         have hown0:=g1.calls
         rw[hcv]at hown0
         have hmbn:mb ∉ (Value.slice ca cn cc).ownBlock.toList:=fun hb=>hnod.1 (List.mem_append_left _ (by rw[hcv];exact hb))
         have hqn:q ∉ (Value.slice ca cn cc).ownBlock.toList:=fun hb=>(g4 q HT.out.hq.1).2.1 (by simp only[zX,List.mem_cons,List.mem_append];exact .inr (.inl (by rw[hcv];exact hb)))
         have hlow:base≤wc.heap.size:=Nat.le_trans hl h0.size
         have HOWN:=η hown0
         have HMB:=η g1.head
         have hbb:wc.cell? ⟨mb,31,none⟩=some (.slice ca cn cc):=by have:=g1.cell 31 rfl;rw[hcv]at this;exact this
         have hbz:=hbb
         have HBX:=η HT.out.box
         have HY1:Hid (Rd (wc.alloc (.cells #[.int .i64 yt.c.id,.int .i64 yt.c.map,.slice yt.ka yt.c.key.length yt.kc,.slice yt.va yt.c.val.length yt.vc,.slice yt.na yt.c.n.length yt.nc,.int .u64 yt.c.ret] 76)) 6 CB.enc (.slice (some ⟨wc.heap.size,0,none⟩) 1 1) [yt]):=η ((Own.lit xK (base:=0) (w:=wc) [yt] rfl rfl (Nat.zero_le _) (by simp[maxLen])).rd xK)
         have HF5:Hid (∀ u':World,(wc.alloc (.cells #[.int .i64 yt.c.id,.int .i64 yt.c.map,.slice yt.ka yt.c.key.length yt.kc,.slice yt.va yt.c.val.length yt.vc,.slice yt.na yt.c.n.length yt.nc,.int .u64 yt.c.ret] 76)).grownBy u' (Value.slice ca cn cc).ownBlock→Keep (Value.slice ca cn cc).ownBlock.toList wc u'∧u'.cell? ⟨mb,31,none⟩=some (.slice ca cn cc)∧u'.frozen? ⟨mb,31,none⟩=false∧u'.heap[q]?=some (yU yt)):=η fun u' hg=>by
          have hk:Keep (Value.slice ca cn cc).ownBlock.toList wc u':=(Keep.of_ext ((Ext.rfl' wc).alloc' _)).trans (yB hg)
          exact⟨hk,yJ (a:=⟨mb,31,none⟩) (fun o ho=>hk.obj ho hmbn) hbz,zA (hk.obj HMB.out hmbn),hk.obj HBX.out hqn⟩
         have hfz:=zA (i:=31) g1.head
         have hfz2:(wc.alloc (.cells #[.int .i64 yt.c.id,.int .i64 yt.c.map,.slice yt.ka yt.c.key.length yt.kc,.slice yt.va yt.c.val.length yt.vc,.slice yt.na yt.c.n.length yt.nc,.int .u64 yt.c.ret] 76)).drew.frozen? ⟨mb,31,none⟩=false:=zA (i:=31) (zB (.cells #[.int .i64 yt.c.id,.int .i64 yt.c.map,.slice yt.ka yt.c.key.length yt.kc,.slice yt.va yt.c.val.length yt.vc,.slice yt.na yt.c.n.length yt.nc,.int .u64 yt.c.ret] 76) g1.head)
         have hbw4:(wc.alloc (.cells #[.int .i64 yt.c.id,.int .i64 yt.c.map,.slice yt.ka yt.c.key.length yt.kc,.slice yt.va yt.c.val.length yt.vc,.slice yt.na yt.c.n.length yt.nc,.int .u64 yt.c.ret] 76)).drew.cell? ⟨mb,31,none⟩=some (.slice ca cn cc):=yJ (w:=wc) (a:=⟨mb,31,none⟩) (fun o ho=>zB _ ho) hbb
         have hqmb:q≠mb:=HT.out.hq.2.2
         (obtain⟨b0,b1,b2,b3,b4,b5⟩:=κ6 (HBX.out);have bf:=fun i=>zA (i:=i) (HBX.out);skip)
         have HL:=η (And.intro h0 (And.intro hl (And.intro g1 (And.intro g2 (And.intro g3 (And.intro g4 hcv))))))
         clear h0 hl g1 g2 g3 g4 hcv hnod hown0 hbz
         go_upto_region 23 with fail
         go_region_law
          ((apply qT el_called xK (xs:=l.cs) (ys:=[yt]) (base:=base);(case hw=>rfl);(case ho=>rfl);(case hs=>rfl);(case hown=>exact(HOWN.out.alloc _).drew);(case hx=>rfl);(case hy=>exact HY1.out.ext (Ext.drew' (Ext.rfl' _)));(case hbytes=>simp;omega);(case hbase=>simp;omega);intro lv w5 hown5 hgrow5 hmv5;obtain⟨hk5,d0,d1,d2⟩:=HF5.out w5 ⟨hgrow5.os,hgrow5.tape,hgrow5.output,hgrow5.size,hgrow5.block⟩;have HO5:=η hown5;have HK5:=η hk5;have HB5:=η d2;have HMV5:Hid (∀ k,lv.ownBlock=some k→(Value.slice ca cn cc).ownBlock=some k∨wc.heap.size≤k):=η (fun k hk=>(hmv5 k hk).imp id (fun h=>by simp at h;omega));clear hown5 hgrow5 hmv5 hk5 d2;obtain⟨la,ln,lc,rfl,hln,hLN⟩:=(HO5.out.rd xK).val))
         all_goals
          obtain⟨h0,hl,g1,g2,g3,g4,hcv⟩:=HL.out
          have hpu:=MRelQ.push (x:=yt) (v:=.slice la ln lc) h0 hl g1 g2 g3 g4 (fun j hj=>⟨(HT.out.hy j hj).1,(HT.out.hy j hj).2.1⟩) ⟨HT.out.c.key.rd (zG _),HT.out.c.val.rd (zG _),HT.out.c.n.rd (zG _)⟩ (by rw[hcv];exact HK5.out) HO5.out (by rw[hcv];exact HMV5.out)
          have HM6:=η hpu.1
          have HB6:=η (hpu.2 q HT.out.hq.1 _ HBX.out)
          clear hpu h0 hl g1 g2 g3 g4 hcv b0 b1 b2 b3 b4 b5 bf hbb hfz hfz2 hbw4 HL HF5 HY1 d0 d1
          generalize hw6:(World.setCell w5 ⟨mb,31,none⟩ (.slice la ln lc))=w6 at *
          clear hw6
          go_wp2_with fail
          go_loopw [13] (fun q13 wr=>∃ k:Nat,k≤5∧q13=.int .i64 ((k+1:Nat):Int)∧Hid (MRel F0 Z0 wf base wr mb (clrN {st with calls:=st.calls++[yt.c]} k))∧Hid (wr.heap[q]?=some (yU yt))) (fun q13 _=>6 - (intOf q13).toNat)
          case atStart=>exact⟨0,by decide,rfl,η (by rw[clr0];exact HM6.out),HB6⟩
          case round =>
           obtain⟨k,hk,rfl,HMk,HBk⟩:=hrel
           obtain⟨h0,hl,l2,g1,g2,g3⟩:=HMk.out
           have hlm:=zE g1.head
           by_cases hk5:k < 5
           ·have c1:=g1.cell (1+(k+1)) (qM _ l2 (by omega))
            have c2:=g1.cell (12+(k+1)) (jT _ l2 (by omega))
            have mf:=fun i=>zA (i:=i) g1.head
            have HNX:=η (clr_step HMk.out hk5)
            have HBN:=η ((heap_setCell_other (wr.setCell ⟨mb,12+(k+1),none⟩ (.bool false)) ⟨mb,1+(k+1),none⟩ q (.int .u64 0) hqmb).trans ((heap_setCell_other wr ⟨mb,12+(k+1),none⟩ q (.bool false) hqmb).trans HBk.out))
            have hle:((k+1:Nat):Int)≤5:=by omega
            have hd3:((k+1:Nat):Int) < 11:=by omega
            clear h0 hl g1 g2 g3
            go_wp2_with fail
            go_roundw
            case rel=>exact⟨k+1,by omega,by go_num,HNX,HBN⟩
            case measure=>simp[intOf];omega
           ·obtain rfl:k=5:=by omega
            clear h0 hl g1 g2 g3
            (obtain⟨b0,b1,b2,b3,b4,b5⟩:=κ6 (HBk.out);have bf:=fun i=>zA (i:=i) (HBk.out);skip)
            go_wp2_with fail
            refine(tA HMk.out 0 (by decide) yt.c.ret).mono ?_
            rintro e w7 ⟨rfl,hM7⟩
            go_wp2_with fail
            go_returns
            obtain rfl:=HRS.out
            exact⟨rfl,hM7⟩
end
def RS.vt (σ:RS)(T:List TM):RS:={σ with V:=(σ.V.1,T)}
section
variable {σ:RS} {T:List TM}
theorem vt_tell (c:Cl)(i:Nat)(t:Int):(σ.vt T).tell c i t=σ.tell c i t:=rfl
theorem vt_tells:∀ (ts:List Int) (c:Cl) (i:Nat),(σ.vt T).tells c i ts=σ.tells c i ts
 | [],c,i=>rfl
 | t :: ts,c,i=>by
  unfold RS.tells
  rw[vt_tell]
  split
  ·rfl
  ·exact vt_tells ts _ _
theorem vt_told (id:Int):(σ.vt T).told id=σ.told id:=by
 unfold RS.told
 rw[vt_tells]
def vt2 {α:Type}(T:List TM)(a:RS×α):RS×α:=(a.1.vt T,a.2)
theorem uB {α:Type}{c:Prop}[Decidable c](a b:RS×α):vt2 T (if c then a else b)=if c then vt2 T a else vt2 T b:=by split<;>rfl
theorem vt_arith (x:Ins)(k:Wh):(σ.vt T).arith x k=vt2 T (σ.arith x k):=by
 unfold RS.arith
 rw[uB]
 rfl
theorem vt_load (x:Ins)(k:Wh):(σ.vt T).load x k=vt2 T (σ.load x k):=by
 unfold RS.load
 rw[uB,uB]
 rfl
theorem vt_store (x:Ins)(k:Wh):(σ.vt T).store x k=vt2 T (σ.store x k):=by
 unfold RS.store
 rw[uB,uB,uB]
 rfl
theorem vt_does (x:Ins)(k:Wh)(h11:k.kind≠11):(σ.vt T).does x k=vt2 T (σ.does x k):=by
 unfold RS.does
 rw[if_neg (c:=k.kind=11) h11,if_neg (c:=k.kind=11) h11]
 rw[vt_arith,vt_load,vt_store]
 cases hy:σ.L[σ.place.toNat+1]? with
 | none =>
  have hy':(σ.vt T).L[(σ.vt T).place.toNat+1]?=none:=hy
  simp only[hy',uB]
  rfl
 | some y =>
  have hy':(σ.vt T).L[(σ.vt T).place.toNat+1]?=some y:=hy
  simp only[hy',uB]
  rfl
theorem gF {c:Prop}[Decidable c]{a b:RS×Int×Int}{n:List TM}(ha:a.1.V.2=n)(hb:b.1.V.2=n):(if c then a else b).1.V.2=n:=by split<;>assumption
theorem ite_v2 {c:Prop}[Decidable c]{a b:RS×Int}{n:List TM}(ha:a.1.V.2=n)(hb:b.1.V.2=n):(if c then a else b).1.V.2=n:=by split<;>assumption
theorem does_v (x:Ins)(k:Wh)(h11:k.kind≠11):(σ.does x k).1.V.2=σ.V.2:=by
 unfold RS.does
 rw[if_neg (c:=k.kind=11) h11]
 refine gF (ite_v2 rfl rfl) (gF (gF rfl rfl) (gF ?_ (gF (gF rfl rfl) (gF (ite_v2 rfl (ite_v2 rfl rfl)) (gF (ite_v2 rfl (ite_v2 (ite_v2 rfl rfl) rfl)) (gF rfl (gF (gF rfl rfl) (gF (gF rfl rfl) rfl))))))))
 cases σ.L[σ.place.toNat+1]?<;>rfl
end
def PS (F0 Z0:List Nat)(wf:World)(base:Nat)(w:World)(mb:Nat)(σ:RS):Prop:=∃ T,VRel (σ.V.1,T) σ.V∧PRel F0 Z0 wf base w mb (σ.vt T)
def PSAns (F0 Z0:List Nat)(wf:World)(base mb:Nat)(σ:RS)(v:Value)(e:Ending)(w':World):Prop:=e=.returned v∧PS F0 Z0 wf base w' mb σ
section
variable {F0 Z0:List Nat} {wf w w':World} {base mb:Nat} {σ:RS}
theorem PS.go (h:PS F0 Z0 wf base w mb σ)(k:Ext w w'):PS F0 Z0 wf base w' mb σ:=by
 obtain⟨T,r,h⟩:=h
 exact⟨T,r,h.go k⟩
theorem PS.lt (h:PS F0 Z0 wf base w mb σ):mb < w.heap.size:=by
 obtain⟨T,r,h⟩:=h
 exact h.lt
theorem PS.u8 (h:PS F0 Z0 wf base w mb σ):BytesOk σ.V.1:=by
 obtain⟨T,r,h⟩:=h
 exact h.u8
theorem PS.keep (h:PS F0 Z0 wf base w mb σ):Keep F0 wf w:=by
 obtain⟨T,r,h⟩:=h
 exact h.keep
theorem PS.of {T:List TM}(r:VRel (σ.V.1,T) σ.V){σ':RS}(hv:σ'.V.2=σ.V.2)(h:PRel F0 Z0 wf base w mb (σ'.vt T)):PS F0 Z0 wf base w mb σ':=by
 refine⟨T,?_,h⟩
 have:=r.areas σ'.V.1
 rw[← hv]at this
 exact this
end
end Go.Proofs.YtppefchjoodgnaaGreat
