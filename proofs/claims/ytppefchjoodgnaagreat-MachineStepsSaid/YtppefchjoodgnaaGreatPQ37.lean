import Derived.Test.YtppefchjoodgnaaGreatPQ36
import Derived.Test.YtppefchjoodgnaaGreatPQ31
import Derived.Test.YtppefchjoodgnaaGreatPQ35
set_option linter.unusedSimpArgs false
set_option linter.unusedVariables false
namespace Go.Proofs.YtppefchjoodgnaaGreat
open Go.RowKit
theorem may_tab {d:TDef}(h:mayD d=true):d.max≤16∧d.key≤16∧1≤d.max:=by
 have:=(pV d).1 h
 rcases this.1 with h1|h1<;>omega
theorem tm_tab {d:TDef}(h:mayD d=true):TabOk d.tm:=by
 have:=may_tab h
 exact⟨by simp[TDef.tm];omega,this.1,this.2.1,fun p hp=>by simp[TDef.tm]at hp⟩
theorem full_tab {d:TDef}(h:mayD d=true):TabOk d.full:=by
 have:=may_tab h
 refine⟨by simp only[TDef.full,nums_len];show ((d.max.toNat:Nat):Int)≤d.max;omega,this.1,this.2.1,fun p hp=>?_⟩
 have:=nums_mem (show p∈nums d.max.toNat from hp)
 rw[this.2]
 have:=numKey_size (p.2:Int)
 omega
theorem rnews_tab {M:Areas}{ds:List TDef}(h:∀ d∈ds,mayD d=true):∀ (k:Nat) {V:Areas×List TM},kW M ds k=some V→(∀ t∈V.2,TabOk t)
 | 0,V,hV=>by
  have:(M,[])=V:=by simpa[kW]using hV
  subst this
  intro t ht;cases ht
 | k+1,V,hV=>by
  rw[kW,Option.bind_eq_some_iff]at hV
  obtain⟨V1,h1,h2⟩:=hV
  rw[Option.bind_eq_some_iff]at h2
  obtain⟨d,h3,h4⟩:=h2
  have hd:=h d (List.mem_of_getElem? h3)
  have ih:=rnews_tab h k h1
  unfold rnew1 at h4
  split at h4
  ·have:(V1.1,V1.2++[d.tm])=V:=by simpa using h4
   subst this
   intro t ht
   rcases List.mem_append.1 ht with ht|ht
   ·exact ih t ht
   ·rw[List.mem_singleton]at ht;subst ht;exact tm_tab hd
  ·rw[Option.map_eq_some_iff]at h4
   obtain⟨M1,_,h6⟩:=h4
   subst h6
   intro t ht
   rcases List.mem_append.1 ht with ht|ht
   ·exact ih t ht
   ·rw[List.mem_singleton]at ht;subst ht;exact full_tab hd
theorem rnew_tab {M:Areas}{ds:List TDef}{V:Areas×List TM}(h:rnew M ds=some V):(∀ t∈V.2,TabOk t)∧ds.length≤8:=by
 unfold rnew at h
 split at h
 ·rename_i hr
  unfold xC at hr
  simp only[Bool.and_eq_true,decide_eq_true_eq,List.all_eq_true]at hr
  exact⟨rnews_tab hr.2 _ h,hr.1⟩
 ·cases h
theorem putIts_tab {i:Nat}:∀ (l:List (List Int×List Int)) {V V':Areas×List TM},(∀ t∈V.2,TabOk t)→xG V i l=some V'→∀ t∈V'.2,TabOk t
 | [],V,V',h,e=>by
  have:V=V':=by simpa[xG]using e
  subst this;exact h
 | p :: l,V,V',h,e=>by
  rw[xG]at e
  split at e
  ·exact putIts_tab l (rput_tab h) e
  ·cases e
theorem putAll_tab:∀ (ls:List (List (List Int×List Int))) (i:Nat) {V V':Areas×List TM},(∀ t∈V.2,TabOk t)→yW V i ls=some V'→∀ t∈V'.2,TabOk t
 | [],i,V,V',h,e=>by
  have:V=V':=by simpa[yW]using e
  subst this;exact h
 | l :: ls,i,V,V',h,e=>by
  rw[yW,Option.bind_eq_some_iff]at e
  obtain⟨V1,h1,h2⟩:=e
  exact putAll_tab ls (i+1) (putIts_tab l h h1) h2
theorem new_inv {L:List Ins}{e:EnvD}{σ:RS}(h:RS.new L e=some σ)(hok:InsOk L)(hd:U64s e.draws)(hl:e.draws.length≤1000000):σ.Inv∧σ.L=L∧σ.D=e.defs∧e.defs.length≤8∧σ.over=false∧σ.steps=0∧σ.place=0∧σ.calls=[]∧σ.code=0:=by
 unfold RS.new at h
 split at h
 ·cases h
 ·rename_i hg
  rw[Option.bind_eq_some_iff]at h
  obtain⟨V,h1,h2⟩:=h
  rw[Option.map_eq_some_iff]at h2
  obtain⟨V',h3,h4⟩:=h2
  subst h4
  have hp:yX L=true:=by cases hq:yX L;exact absurd (.inl hq) hg;rfl
  have ht:=rnew_tab h1
  have hc:(RS.zero L e.defs e.draws V').Core:=⟨fun d hd=>(show u64R 0 from ⟨by decide,by decide⟩),putAll_tab _ _ ht.1 h3,hd,hl⟩
  have hc2:=(hc.setR (n:=4294967296) ⟨by decide,by decide⟩ 1).setR (n:=8589935104) ⟨by decide,by decide⟩ 10
  refine⟨⟨hc2,hp,hok,Int.le_refl _,Int.le_refl _,?_⟩,rfl,rfl,ht.2,rfl,rfl,rfl,rfl,rfl⟩
  show (stF false L)[0]?=some true
  have hlen:=(ProgF.of hp).len.1
  cases L with
  | nil=>simp at hlen
  | cons x xs=>simp[stF]
theorem new_put {Q Z0:List Nat}{w0 w:World}{B tb:Nat}{σ:RS}(h:MRelQ Q [] Z0 w0 w0.heap.size w B σ)(hs:∀ t∈σ.V.2,TabOk t)(hc:w.cell? ⟨B,24,none⟩=some (.pointer (some ⟨tb,0,none⟩)))(i:Int){kv vv:Value}{ks vs:List Int}(hk:Sl w0 .u8 kv ks)(hv:Sl w0 .u8 vv vs)(hu:∀ q∈vs,0≤q∧q≤255):
  Calls Tryz.prog 35 #[.pointer (some ⟨tb,0,none⟩),.int .i64 i,kv,vv,.int .u64 0] w
   (fun e w'=>e=.returned (.tuple #[.int .u64 (rput σ.V i ks vs 0).2.1,.int .i64 (rput σ.V i ks vs 0).2.2])∧MRelQ Q [] Z0 w0 w0.heap.size w' B {σ with V:=(rput σ.V i ks vs 0).1}∧∀ q,(q∈Q∨q=B)→∀ o,w.heap[q]?=some o→w'.heap[q]?=some o):=by
 obtain⟨h0,hl,l,h1,h2,h3,h4⟩:=h
 have hw:=h1.view
 have htb:l.tb=tb:=by
  have:=h1.cell 24 rfl
  rw[hc]at this
  have:=Option.some.inj this
  injection this with this
  have:=Option.some.inj this
  injection this with this
  exact this.symm
 subst htb
 have hge:∀ j∈zH l.tb l.T,w0.heap.size≤j:=fun j hj=>(h1.tab.lt j hj).1
 have hE:Ext w0 w:=h0.ext (fun k hk=>by cases hk)
 have hSL:∀ x∈l.T.R,x.T.slots.length≤1000:=fun x hx=>by
  have hT:=hs x.T (by rw[← hw];exact List.mem_map.2 ⟨x,hx,rfl⟩)
  have:=hT.few
  have:=hT.max
  omega
 refine(rtab_put w0.heap.size l.tb l.T i kv vv ks vs 0 w h1.tab hE.size (η hSL) (hk.ext hE) (hv.ext hE) hu (by decide) (η (by decide)) (η fun w' k=>hv.ext (k.below hE hE.size hge)) (η fun w' k=>hk.ext (k.below hE hE.size hge))).mono ?_
 rintro e w' ⟨h,hk5,S',hT,hV,hfo,hrb⟩
 rw[hw]at h hV
 have:=MRelQ.tabStep (Q:=Q) h0 hl h1 h2 h3 h4 hk5 hT hrb hfo
 rw[hV]at this
 exact⟨h,this⟩
abbrev yL (cv dv iv rv:Value):Obj:=.cells #[cv,dv,iv,rv] 28 (0,0)
def NewA (r:Option RS)(Z0:List Nat)(w:World)(e:Ending)(w':World):Prop :=
 match r with
 | none=>e=.returned (.tuple #[.pointer none,.int .i64 1])∧Ext w w'
 | some σ=>∃ mb,e=.returned (.tuple #[.pointer (some ⟨mb,0,none⟩),.int .i64 0])∧MRel [] Z0 w w.heap.size w' mb σ
structure NewU (w0:World)(B b:Nat)(M:Areas)(mo eo:Obj)(xv:Value)(ds:List Int)(w:World):Prop where
 n:NewR (w0.heap.size :: B :: xv.ownBlock.toList) w0 b M w
 obj:w.heap[B]?=some mo
 env:w.heap[w0.heap.size]?=some eo
 dr:Own w w0.heap.size 29 1 (fun x=>[Value.int .u64 x]) xv ds
theorem NewU.go {w0 w w':World}{B b:Nat}{M:Areas}{mo eo:Obj}{xv:Value}{ds:List Int}(h:NewU w0 B b M mo eo xv ds w)(k:Ext w w'):NewU w0 B b M mo eo xv ds w' :=
 ⟨h.n.go k,k.obj h.obj,k.obj h.env,h.dr.ext k⟩
theorem NewU.step {w0 w w':World}{B b:Nat}{M M':Areas}{mo eo:Obj}{xv:Value}{ds:List Int}(h:NewU w0 B b M mo eo xv ds w)(hn:NewR (w0.heap.size :: B :: xv.ownBlock.toList) w0 b M' w')(hk:∀ q∈w0.heap.size :: B :: xv.ownBlock.toList,∀ o,w.heap[q]?=some o→w'.heap[q]?=some o):NewU w0 B b M' mo eo xv ds w' :=
 ⟨hn,hk B (by simp) _ h.obj,hk _ (by simp) _ h.env,own_objs h.dr (fun j o h1 h2=>hk j (by simp[h1]) o h2)⟩
def NewTA (w0:World)(B b:Nat)(M:Areas)(ds:List TDef)(mo eo:Obj)(xv:Value)(dr:List Int)(e:Ending)(w':World):Prop :=
 match rnew M ds with
 | none=>e=.returned (.tuple #[.pointer none,.int .i64 1])∧Ext w0 w'
 | some V=>∃ tb S,e=.returned (.tuple #[.pointer (some ⟨tb,0,none⟩),.int .i64 0])∧yC S=V∧RTabAt w' w0.heap.size tb S∧S.rb=b∧Ext w0 w'∧w'.heap[B]?=some mo∧w'.heap[w0.heap.size]?=some eo∧Own w' w0.heap.size 29 1 (fun x=>[Value.int .u64 x]) xv dr∧∀ q∈w0.heap.size :: B :: xv.ownBlock.toList,q ∉ zH tb S∧q < w'.heap.size
theorem new_tab {w0 w:World}{B b:Nat}{M:Areas}{mo eo:Obj}{xv dv:Value}{dr:List Int}{ds:List TDef}(h:NewU w0 B b M mo eo xv dr w)(hd:Rd w0 4 TDef.enc dv ds):Calls Tryz.prog 34 #[.pointer (some ⟨b,0,none⟩),dv] w (NewTA w0 B b M ds mo eo xv dr):=by
 obtain⟨hE,lv,L,hR,hV,hQ⟩:=h.n
 have hlt:=hR.lt
 refine(rtab_new w0.heap.size b lv L dv ds w hR hE.size (η fun w' k=>hd.ext (k.below hE hE.size (fun q hq=>(hlt q hq).1)))).mono ?_
 rintro e w' ⟨hk,hA⟩
 rw[hV]at hA
 have hE':Ext w0 w':=hk.below hE hE.size (fun q hq=>(hlt q hq).1)
 unfold NewTA
 rcases hA with ⟨h1,h2⟩|⟨tb,S,h1,h2,h3,h4,h5⟩
 ·rw[h1];exact⟨h2,hE'⟩
 ·rw[h1]
  refine⟨tb,S,h2,rfl,h3,h4,hE',hk.obj h.obj (hQ B (by simp)).1,hk.obj h.env (hQ _ (by simp)).1,h.dr.keep hk (fun j hj=>(hQ j (by simp[hj])).1),fun q hq=>⟨fun hm=>?_,Nat.lt_of_lt_of_le (hQ q hq).2 hk.size⟩⟩
  rcases h5 q hm with h6|h6
  ·exact(hQ q hq).1 h6
  ·have:=(hQ q hq).2;omega
theorem new_mach {w0 w':World}{B b tb:Nat}{S:RTabs}{V:Areas×List TM}{lv dv xv:Value}{L:List Ins}{ds:List TDef}{dr:List Int}(hl:Rd w0 5 Ins.enc lv L)(hd:Rd w0 4 TDef.enc dv ds)(h2:yC S=V)(h3:RTabAt w' w0.heap.size tb S)(h4:S.rb=b)(h5:Ext w0 w')
  (h6:w'.heap[B]?=some (mz lv dv xv (.pointer none) b)) (h8:Own w' w0.heap.size 29 1 (fun x=>[Value.int .u64 x]) xv dr) (h9:∀ q∈w0.heap.size :: B :: xv.ownBlock.toList,q ∉ zH tb S∧q < w'.heap.size) (hB:w0.heap.size < B) (hxB:∀ j,xv.ownBlock=some j→j≠B∧j≠w0.heap.size) :
  MRelQ [w0.heap.size] [] (fblk lv++fblk dv) w0 w0.heap.size (w'.setCell ⟨B,24,none⟩ (.pointer (some ⟨tb,0,none⟩))) B (RS.zero L ds dr V):=by
 have k:Keep [B] w' (w'.setCell ⟨B,24,none⟩ (.pointer (some ⟨tb,0,none⟩))):=(Keep.rfl' _ _).setCell (by simp) _
 have hE:Ext w0 (w'.setCell ⟨B,24,none⟩ (.pointer (some ⟨tb,0,none⟩))):=h5.setCell (Nat.le_of_lt hB) _
 have hBt:B ∉ zH tb S:=(h9 B (by simp)).1
 have hs5:=h5.size
 have hge:∀ j∈zH tb S,w0.heap.size≤j:=fun j hj=>(h3.lt j hj).1
 have hfz:∀ j∈fblk lv++fblk dv,j < w0.heap.size:=fun j hj=>(List.mem_append.1 hj).elim (hl.fblk_lt (fun x=>⟨_,rfl⟩) j) (hd.fblk_lt (fun x=>⟨_,rfl⟩) j)
 have hfz2:∀ j∈fblk lv++fblk dv,j ∉ B :: zH tb S:=fun j hj hm=>by
  have:=hfz j hj
  rcases List.mem_cons.1 hm with rfl|hm
  ·omega
  ·have:=hge j hm;omega
 have hxv:∀ j∈vblk xv,xv.ownBlock=some j:=fun j hj=>by rw[yR h8]at hj;simpa using hj
 refine⟨Keep.of_ext hE,Nat.le_refl _,⟨lv,tb,S,dv,xv,.slice none 0 0,[]⟩,⟨?_,Nat.le_of_lt hB,h3.keep k (fun j hj e=>hBt (by rw[List.mem_singleton]at e;rwa[← e])),h2,Own.nil _ _ _ _ _,rfl,(fun c hc=>by cases hc),hl.ext hE,hd.ext hE,(h8.keep k (fun j hj e=>by rw[List.mem_singleton]at e;exact(hxB j hj).1 e)).rd (zG _),?_,?_⟩,?_,?_,?_⟩
 ·have:=heap_setCell_same w' B 24 _ _ (.pointer (some ⟨tb,0,none⟩)) h6
  rw[this]
  simp only[xY,RS.zero,h4]
  rfl
 ·simp only[zX,Value.ownBlock,Option.toList_none,List.nil_append]
  exact List.nodup_cons.2 ⟨hBt,h3.apart⟩
 ·intro j hj
  simp only[mfrz,List.flatMap_nil,List.append_nil,List.mem_append]at hj
  simp only[zX,Value.ownBlock,Option.toList_none,List.nil_append]
  have hsz:=k.size
  rcases hj with hj|hj|hj
  ·exact⟨hfz2 j (List.mem_append_left _ hj),by have:=hfz j (List.mem_append_left _ hj);omega⟩
  ·exact⟨hfz2 j (List.mem_append_right _ hj),by have:=hfz j (List.mem_append_right _ hj);omega⟩
  ·have hx:=hxv j hj
   have h10:=h9 j (by simp[hx])
   exact⟨fun hm=>(List.mem_cons.1 hm).elim (hxB j hx).1 h10.1,by omega⟩
 ·intro j hj
  simp only[zX,Value.ownBlock,Option.toList_none,List.nil_append]at hj
  rcases List.mem_cons.1 hj with rfl|hj
  ·exact .inr (Nat.le_of_lt hB)
  ·exact .inr (hge j hj)
 ·intro j hj
  simp only[mfrz,List.flatMap_nil,List.append_nil,List.mem_append]at hj
  rcases hj with hj|hj|hj
  ·exact .inl (List.mem_append_left _ hj)
  ·exact .inl (List.mem_append_right _ hj)
  ·exact .inr (h8.lt (hxv j hj)).1
 ·intro q hq
  rw[List.mem_singleton]at hq
  subst hq
  have h10:=h9 w0.heap.size (by simp)
  refine⟨Nat.lt_of_lt_of_le h10.2 k.size,fun hm=>?_,fun hm=>?_⟩
  ·simp only[zX,Value.ownBlock,Option.toList_none,List.nil_append]at hm
   rcases List.mem_cons.1 hm with e|hm
   ·omega
   ·exact h10.1 hm
  ·simp only[mfrz,List.flatMap_nil,List.append_nil,List.mem_append]at hm
   rcases hm with hm|hm|hm
   ·have:=hfz _ (List.mem_append_left _ hm);omega
   ·have:=hfz _ (List.mem_append_right _ hm);omega
   ·exact(hxB _ (hxv _ hm)).2 rfl
set_option maxRecDepth 20000 in
set_option maxHeartbeats 8000000 in
theorem m_New (lv cv dv iv rv:Value)(rows:List SV)(L:List Ins)(e:EnvD)(w:World)(h:Rd w 5 Ins.enc lv L)(hl:L.length≤1000000)(hok:InsOk L)(he:EnvR w e cv dv iv rv rows)(hd:e.draws.length≤1000000):
  Calls Tryz.prog 12 #[lv,.agg #[cv,dv,iv,rv]] w (NewA (RS.new L e) (fblk lv++fblk dv) w):=by
 have HD:=η h
 have HL:=η hl
 have HOK:=η hok
 have HE:=η he
 obtain⟨ca,cn,cc,rfl,hcn,hCN⟩:=he.ctx.val
 obtain⟨da,dn,dc,rfl,hdn,hDN⟩:=he.defs.val
 obtain⟨ia,inn,ic,rfl,hin,hIN⟩:=he.rowsR.val
 obtain⟨ra,rn,rc,rfl,hrn,hRN⟩:=he.draws.val
 obtain⟨la,ln,lc,rfl,hln,hLN⟩:=h.val
 have hlen:=η he.len
 clear h hl hok he
 obtain⟨res,hres⟩:∃ r,RS.new L e=r:=⟨_,rfl⟩
 rw[hres]
 have HRES:=η hres
 clear hres
 go_enter Tryz.func12,Tryz.ntmps12
 go_upto_region 1 with fail
 go_cut [7] from 15 to 20 (fun v wx=>∃ er:Int,v=.int .i64 er∧Hid (decide (er=0)=yX L∧Ext w wx∧wx.heap[w.heap.size]?=some (yL (.slice ca cn cc) (.slice da dn dc) (.slice ia inn ic) (.slice ra rn rc))))
 case first =>
  go_wp2_with fail
  refine(r_Check _ L _ (HD.out.ext (by (repeat (first|exact xE0 _|assumption|refine xE1 ?_ _|refine xE2 ?_|refine xE3 ?_ _|refine xE4 ?_ (by assumption))))) HL.out HOK.out).mono ?_
  rintro e1 w5 ⟨at_,er,rfl,her,hE⟩
  have HER:=η her
  clear her
  go_wp2_with fail
  go_meet
  exact⟨er,rfl,η ⟨HER.out,Ext.trans' ((Ext.rfl' _).alloc' _) hE,hE.obj (zD w _ rfl)⟩⟩
 case rest =>
  obtain⟨er,rfl,HC⟩:=hcut
  have HE1:=η HC.out.2.1
  have HBX:=η HC.out.2.2
  have HER:=η HC.out.1
  clear HC
  (obtain⟨x0,x1,x2,x3⟩:=κ4 (HBX.out);have xf:=fun i=>zA (i:=i) (HBX.out);skip)
  by_cases hbad:yX L=false∨64 < e.ctx.length∨e.defs.length < e.items.length
  ·have HN:Hid (res=none):=η (by rw[← HRES.out,RS.new,if_pos hbad])
   obtain⟨z1,hz1⟩:∃ b,(er != 0)=b:=⟨_,rfl⟩
   have HB3:Hid ((er != 0)=true∨(cn:Int) > 64∨(inn:Int) > dn):=η (by
    rcases hbad with h1|h1|h1
    ·left;have:=HER.out;rw[h1]at this;simpa using this
    ·right;left;rw[hCN.out];omega
    ·right;right;have:=hlen.out;rw[hIN.out,hDN.out];omega)
   have hret:NewA res (fblk (.slice la ln lc)++fblk (.slice da dn dc)) w (.returned (.tuple #[.pointer none,.int .i64 1])) wc:=by rw[HN.out];exact⟨rfl,HE1.out⟩
   have HRET:=η hret
   clear hbad hret HN HRES
   cases z1
   ·by_cases hc:(cn:Int) > 64
    ·go_wp2_with fail
     go_returns
     exact HRET.out
    ·have hi:(inn:Int) > dn:=by
      rcases HB3.out with h1|h1|h1
      ·rw[hz1]at h1;cases h1
      ·exact absurd h1 hc
      ·exact h1
     go_wp2_with fail
     go_returns
     exact HRET.out
   ·go_wp2_with fail
    go_returns
    exact HRET.out
  ·have hp:yX L=true:=by cases hq:yX L;exact absurd (.inl hq) hbad;rfl
   have hc:(cn:Int)≤64:=by rw[hCN.out];have:=fun h=>hbad (.inr (.inl h));omega
   have hi:(inn:Int)≤dn:=by have:=hlen.out;rw[hIN.out,hDN.out];have:=fun h=>hbad (.inr (.inr h));omega
   obtain rfl:er=0:=by have:=HER.out;rw[hp]at this;simpa using this
   have HG:Hid (res=(rnew (xS e.ctx) e.defs).bind fun V=>(yW V 0 e.items).map fun V'=>((RS.zero L e.defs e.draws V').setR 1 4294967296).setR 10 8589935104):=η (by rw[← HRES.out,RS.new,if_neg hbad])
   have HP:=η hp
   clear hbad hp HRES HER
   have e1:decide ((64:Int) < (cn:Int))=false:=by simp;omega
   have e2:decide (dn < inn)=false:=by simp;omega
   have e3:decide ((dn:Int) < (inn:Int))=false:=by simp;omega
   have HSS:Hid (∀ w',Ext wc w'→w'.cell? ⟨w.heap.size,1,none⟩=some (.slice da dn dc)∧w'.cell? ⟨w.heap.size,3,none⟩=some (.slice ra rn rc)):=η (fun w' he=>⟨he.cellOf x1,he.cellOf x3⟩)
   go_upto_region 4 with fail
   go_cut [8] from 37 to 48 (fun v8 wx=>∃ (B b:Nat) (xa:Option Addr) (xn xc:Nat),v8=.pointer (some ⟨B,0,none⟩)∧Hid (Ext wc wx∧wx.heap[B]?=some (mz (.slice la ln lc) (.slice da dn dc) (.slice xa xn xc) (.pointer none) b)∧wc.heap.size≤B∧wc.heap.size≤b∧b < B∧wx.heap[b]?=some (.cells #[.slice none 0 0] 83 (0,0))∧Own wx wc.heap.size 29 1 (fun x=>[Value.int .u64 x]) (.slice xa xn xc) e.draws∧∀ j,(Value.slice xa xn xc).ownBlock=some j→j < B))
   case first =>
    go_region_held3 (fun w'=>w'.cell? ⟨w.heap.size,1,none⟩=some (.slice da dn dc)∧w'.cell? ⟨w.heap.size,3,none⟩=some (.slice ra rn rc))
     ((refine HSS.out _ ?_;(repeat (first|exact xE0 _|assumption|refine xE1 ?_ _|refine xE2 ?_|refine xE3 ?_ _|refine xE4 ?_ (by assumption)))))
     (first
      | (apply app_step el_u64 (zG .u64) (xs:=[]) (ys:=e.draws) (base:=wc.heap.size);(case hw=>rfl);(case ho=>rfl);(case hs=>rfl);(case hown=>(first|exact Own.drew (Own.made wc wc.heap.size _ _ _ rfl (Nat.le_refl _))|exact Own.drew ((Own.made wc wc.heap.size _ _ _ rfl (Nat.le_refl _)).alloc _)|exact Own.drew (Own.made (wc.alloc _) wc.heap.size _ _ _ (by simp) (by simp))|exact Own.made wc.drew wc.heap.size _ _ _ (by simp) (by simp)|exact(Own.made wc.drew wc.heap.size _ _ _ (by simp) (by simp)).alloc _|exact Own.made (wc.drew.alloc _) wc.heap.size _ _ _ (by simp) (by simp)));(case hx=>rfl);(case hy=>exact HE.out.draws.ext (HE1.out.trans' (by (repeat (first|exact xE0 _|assumption|refine xE1 ?_ _|refine xE2 ?_|refine xE3 ?_ _|refine xE4 ?_ (by assumption))))));(case hbytes=>simp;omega);(case hbase=>simp<;>omega);intro v8 w8 hown8 hg8 hb8;have h8:Ext wc w8:=hb8 _ _ (show Ext wc _ by (repeat (first|exact xE0 _|assumption|refine xE1 ?_ _|refine xE2 ?_|refine xE3 ?_ _|refine xE4 ?_ (by assumption)))) (Nat.le_refl _);simp only[List.nil_append]at hown8;obtain⟨a8,n8,c8,rfl,hn8,hN8⟩:=(hown8.rd (zG .u64)).val;have O8:=η hown8;have K8:=η (yB hg8);clear hown8 hg8 hb8))
    all_goals
     have hs8:=h8.size
     go_wp2_with fail
     go_meet
     have hwd:Ext wc w8:=h8
     have hk8:=K8.out.size
     have hso:=fun j (hj:(Value.slice a8 n8 c8).ownBlock=some j)=>(O8.out.lt hj).2
     first
     | exact⟨w8.heap.size+1,w8.heap.size,a8,n8,c8,by simp,η ⟨(hwd.alloc' _).alloc' _,zD _ _ (by simp),Nat.le_succ_of_le hs8,hs8,Nat.lt_succ_self _,zB _ (zD _ _ rfl),(O8.out.alloc _).alloc _,fun j hj=>Nat.lt_succ_of_lt (hso j hj)⟩⟩
     | exact⟨w8.heap.size,wc.heap.size,a8,n8,c8,rfl,η ⟨hwd.alloc' _,zD _ _ rfl,hs8,Nat.le_refl _,(by simp at hk8;omega),zB _ (K8.out.obj (show (World.heap _)[wc.heap.size]?=_ from zB _ (zD _ _ rfl)) (fun h=>absurd (show wc.heap.size∈(Value.slice (some ⟨wc.heap.size+1,0,none⟩) 0 0).ownBlock.toList from h) (by simp[Value.ownBlock]))),O8.out.alloc _,hso⟩⟩
     | exact⟨w8.heap.size,wc.heap.size+1,a8,n8,c8,rfl,η ⟨hwd.alloc' _,zD _ _ rfl,hs8,Nat.le_succ _,(by simp at hk8;omega),zB _ (K8.out.obj (show (World.heap _)[wc.heap.size+1]?=_ from zD _ _ (by simp)) (fun h=>absurd (show wc.heap.size+1∈(Value.slice (some ⟨wc.heap.size,0,none⟩) 0 0).ownBlock.toList from h) (by simp[Value.ownBlock]))),O8.out.alloc _,hso⟩⟩
   case rest =>
    obtain⟨B,b,xa,xn,xc,rfl,HI⟩:=hcut
    obtain⟨i1,i2,i3,i4,i5,i6,i7,i8⟩:=HI.out
    have hw1:=HE1.out.size
    have hlb:=zE i2
    have hlw:=zE HBX.out
    have HN:=η (show NewU w B b [] (mz (.slice la ln lc) (.slice da dn dc) (.slice xa xn xc) (.pointer none) b) (yL (.slice ca cn cc) (.slice da dn dc) (.slice ia inn ic) (.slice ra rn rc)) (.slice xa xn xc) e.draws wc from
     ⟨⟨HE1.out.trans' i1,.slice none 0 0,[],⟨i6,by omega,Own.nil _ _ _ _ _,fun x hx=>by simp at hx,fun x hx=>by simp at hx,by simp[Value.ownBlock],fun x hx=>by simp at hx,by simp⟩,rfl,fun q hq=>by
      simp only[List.mem_cons]at hq
      simp only[yA,Value.ownBlock,Option.toList_none,List.flatMap_nil,List.append_nil,List.mem_singleton]
      rcases hq with rfl|rfl|hq
      ·exact⟨by omega,by omega⟩
      ·exact⟨by omega,hlb⟩
      ·have hj:(Value.slice xa xn xc).ownBlock=some q:=by simpa using hq
       refine⟨fun e=>?_,Nat.lt_trans (i8 q hj) hlb⟩
       subst e
       rcases i7.2 with ⟨h0,_⟩|⟨g,cap,cur,hv,_,hg,_⟩
       ·rw[h0]at hj;cases hj
       ·rw[hv]at hj
        cases hj
        rw[i6]at hg
        simp at hg⟩,i2,i1.obj HBX.out,i7.mono (by omega)⟩)
    have HBW:Hid (w.heap.size < B):=η (by omega)
    have HXB:Hid (∀ j,(Value.slice xa xn xc).ownBlock=some j→j≠B∧j≠w.heap.size):=η (fun j hj=>⟨by have:=i8 j hj;omega,by have:=(i7.lt hj).1;omega⟩)
    have hEW:=HE1.out.trans' i1
    have HEW:=η hEW
    clear i1 i2 i3 i4 i5 i6 i7 i8 HI HSS e1 e2 e3 x0 x1 x2 x3 xf hEW
    have c23:=cO (i:=23) HN.out.obj
    have c0:=cO (i:=0) HN.out.env
    simp only[gA,gB,gC]at c23 c0
    go_upto_region 5 with fail
    go_cut [54] from 48 to 55 (fun _ wx=>Hid (NewU w B b (yG [] 1 e.ctx false true).1 (mz (.slice la ln lc) (.slice da dn dc) (.slice xa xn xc) (.pointer none) b) (yL (.slice ca cn cc) (.slice da dn dc) (.slice ia inn ic) (.slice ra rn rc)) (.slice xa xn xc) e.draws wx))
    case first =>
     have y0:=Grow.cell c23
     have y1:=Grow.cell c0
     clear c23 c0
     (refine zR 6 (by kernel_rfl) (by kernel_rfl) ?_;simp only[List.take_succ_cons,List.take_zero];(repeat (go_big_quiet_step ((fail))));refine wpQuiet_nil ?_;rintro wz ⟨nz,hz⟩;have hwq:=nz.ext;rw[← hz]at hwq;simp only[List.drop_succ_cons,List.drop_zero];clear hz)
     go_wp2_with fail
     refine(new_make (HN.out.go hwq).n 1 _ e.ctx false true (HE.out.ctx.ext (HN.out.n.ext.trans' hwq)) HE.out.u8).mono ?_
     rintro e1 w7 ⟨⟨er,rfl⟩,hN,hK⟩
     have HN7:=η ((HN.out.go hwq).step hN hK)
     clear hN hK
     go_wp2_with fail
     go_meet
     exact HN7
    case rest =>
     clear HN c23 c0
     have HN:=hcut
     have m23:=cO (i:=23) HN.out.obj
     have mo23:=fun o=>cO (i:=23) (zB o HN.out.obj)
     simp only[gA,gB,gC]at m23 mo23
     have hlB:=zE HN.out.obj
     have hmk:=run_make512
     go_upto_region 6 with fail
     go_cut [60] from 55 to 61 (fun _ wx=>Hid (NewU w B b (xS e.ctx) (mz (.slice la ln lc) (.slice da dn dc) (.slice xa xn xc) (.pointer none) b) (yL (.slice ca cn cc) (.slice da dn dc) (.slice ia inn ic) (.slice ra rn rc)) (.slice xa xn xc) e.draws wx))
     case first =>
      go_region_law ((go_simp;go_at_call 33;refine(new_make (HN.out.go (by (repeat (first|exact xE0 _|assumption|refine xE1 ?_ _|refine xE2 ?_|refine xE3 ?_ _|refine xE4 ?_ (by assumption))))).n 2 _ (List.replicate 512 0) true false (rd_512 _) small_512).mono ?_;rintro e1 w7 ⟨⟨er,rfl⟩,hN,hK⟩;have HN7:=η ((HN.out.go (by (repeat (first|exact xE0 _|assumption|refine xE1 ?_ _|refine xE2 ?_|refine xE3 ?_ _|refine xE4 ?_ (by assumption))))).step hN hK);clear hN hK))
      all_goals
       go_wp2_with fail
       go_meet
       exact HN7
     case rest =>
      clear HN m23 mo23 hlB hmk
      have HN:=hcut
      have m23:=cO (i:=23) HN.out.obj
      have q1:=cO (i:=1) HN.out.env
      simp only[gA,gB,gC]at m23 q1
      have hlB:=zE HN.out.obj
      have hlW:=zE HN.out.env
      clear hcut
      have HTN:Hid (∀ W,Ext wc W→Calls Tryz.prog 34 #[.pointer (some ⟨b,0,none⟩),.slice da dn dc] W (NewTA w B b (xS e.ctx) e.defs (mz (.slice la ln lc) (.slice da dn dc) (.slice xa xn xc) (.pointer none) b) (yL (.slice ca cn cc) (.slice da dn dc) (.slice ia inn ic) (.slice ra rn rc)) (.slice xa xn xc) e.draws)):=η (fun W hW=>new_tab (HN.out.go hW) HE.out.defs)
      cases hrn:rnew (xS e.ctx) e.defs with
      | none =>
       have HTN2:Hid (∀ W,Ext wc W→Calls Tryz.prog 34 #[.pointer (some ⟨b,0,none⟩),.slice da dn dc] W (fun e1 w'=>e1=.returned (.tuple #[.pointer none,.int .i64 1])∧Ext w w')):=η (fun W hW=>(HTN.out W hW).mono (fun e1 w' h=>by unfold NewTA at h;rw[hrn]at h;exact h))
       obtain rfl:res=none:=by rw[HG.out,hrn];rfl
       clear HTN hrn
       go_upto_region 7 with fail
       go_cut [9,10] from 61 to 71 (fun v9 v10 wx=>v10=.int .i64 1∧Hid (Ext w wx))
       case first =>
        go_region_law ((go_simp;go_at_call 34;refine(HTN2.out _ (by (repeat (first|exact xE0 _|assumption|refine xE1 ?_ _|refine xE2 ?_|refine xE3 ?_ _|refine xE4 ?_ (by assumption))))).mono ?_;rintro e1 w7 ⟨rfl,hE7⟩;have HE7:=η hE7;clear hE7))
        all_goals
         go_wp2_with fail
         go_meet
         exact⟨rfl,HE7⟩
       case rest =>
        obtain⟨rfl,HE7⟩:=hcut
        go_wp2_with fail
        go_returns
        exact⟨rfl,HE7.out⟩
      | some V =>
       have HTN2:Hid (∀ W,Ext wc W→Calls Tryz.prog 34 #[.pointer (some ⟨b,0,none⟩),.slice da dn dc] W (fun e1 w'=>∃ tb,e1=.returned (.tuple #[.pointer (some ⟨tb,0,none⟩),.int .i64 0])∧Hid (w'.heap[B]?=some (mz (.slice la ln lc) (.slice da dn dc) (.slice xa xn xc) (.pointer none) b)∧w'.heap[w.heap.size]?=some (yL (.slice ca cn cc) (.slice da dn dc) (.slice ia inn ic) (.slice ra rn rc))∧MRelQ [w.heap.size] [] (fblk (.slice la ln lc)++fblk (.slice da dn dc)) w w.heap.size (w'.setCell ⟨B,24,none⟩ (.pointer (some ⟨tb,0,none⟩))) B (RS.zero L e.defs e.draws V)))):=η (fun W hW=>(HTN.out W hW).mono (fun e1 w' h=>by
        unfold NewTA at h
        rw[hrn]at h
        obtain⟨tb,S,h1,h2,h3,h4,h5,h6,h7,h8,h9⟩:=h
        exact⟨tb,h1,η ⟨h6,h7,new_mach HD.out HE.out.defs h2 h3 h4 h5 h6 h8 h9 HBW.out HXB.out⟩⟩))
       have hrn0:=η hrn
       have HG2:Hid (res=(yW V 0 e.items).map fun V'=>((RS.zero L e.defs e.draws V').setR 1 4294967296).setR 10 8589935104):=η (by rw[HG.out,hrn];rfl)
       clear HTN hrn HG
       go_upto_region 7 with fail
       go_cut [9,10] from 61 to 71 (fun v9 v10 wx=>∃ tb,v9=.pointer (some ⟨tb,0,none⟩)∧v10=.int .i64 0∧Hid (wx.heap[B]?=some (mz (.slice la ln lc) (.slice da dn dc) (.slice xa xn xc) (.pointer none) b)∧wx.heap[w.heap.size]?=some (yL (.slice ca cn cc) (.slice da dn dc) (.slice ia inn ic) (.slice ra rn rc))∧MRelQ [w.heap.size] [] (fblk (.slice la ln lc)++fblk (.slice da dn dc)) w w.heap.size (wx.setCell ⟨B,24,none⟩ (.pointer (some ⟨tb,0,none⟩))) B (RS.zero L e.defs e.draws V)))
       case first =>
        go_region_law ((go_simp;go_at_call 34;refine(HTN2.out _ (by (repeat (first|exact xE0 _|assumption|refine xE1 ?_ _|refine xE2 ?_|refine xE3 ?_ _|refine xE4 ?_ (by assumption))))).mono ?_;rintro e1 w7 ⟨tb,rfl,HE7⟩))
        all_goals
         go_wp2_with fail
         go_meet
         exact⟨_,rfl,rfl,HE7⟩
       case rest =>
        obtain⟨tb,rfl,rfl,HT⟩:=hcut
        have hcb:wc.cell? ⟨B,24,none⟩=some (.pointer none):=cO HT.out.1
        have hfb:=zA (i:=24) HT.out.1
        have hBw:w.heap.size≠B:=by have:=HBW.out;omega
        have HE9:=η ((heap_setCell_other wc ⟨B,24,none⟩ w.heap.size (.pointer (some ⟨tb,0,none⟩)) hBw).trans HT.out.2.1)
        have HC9:Hid ((wc.setCell ⟨B,24,none⟩ (.pointer (some ⟨tb,0,none⟩))).cell? ⟨B,24,none⟩=some (.pointer (some ⟨tb,0,none⟩))):=η (cO (heap_setCell_same wc B 24 _ _ _ HT.out.1))
        have HM9:=η HT.out.2.2
        have HTB:=η (rnew_tab hrn0.out)
        go_wp2_with fail
        clear hcb hfb HT m23 q1 hlB hlW
        go_loopw [11] (fun q wr=>∃ (k:Nat) (V':Areas×List TM),k≤inn∧q=.int .i64 k∧Hid (MRelQ [w.heap.size] [] (fblk (.slice la ln lc)++fblk (.slice da dn dc)) w w.heap.size wr B (RS.zero L e.defs e.draws V')∧wr.heap[w.heap.size]?=some (yL (.slice ca cn cc) (.slice da dn dc) (.slice ia inn ic) (.slice ra rn rc))∧wr.cell? ⟨B,24,none⟩=some (.pointer (some ⟨tb,0,none⟩))∧yW V' k (e.items.drop k)=yW V 0 e.items∧∀ t∈V'.2,TabOk t)) (fun q _=>inn - (intOf q).toNat)
        case atStart=>exact⟨0,V,Nat.zero_le _,rfl,η ⟨HM9.out,HE9.out,HC9.out,rfl,HTB.out.1⟩⟩
        case round =>
         obtain⟨k,V1,hk,rfl,HI⟩:=hrel
         have hEW:Ext w wr:=HI.out.1.keep.ext (fun k hk=>by cases hk)
         have HEW2:=η hEW
         have y2:wr.cell? ⟨w.heap.size,2,none⟩=some (.slice ia inn ic):=cO HI.out.2.1
         have hlw2:=zE HI.out.2.1
         by_cases hlt:(k:Int) < inn
         ·obtain⟨row,hrow⟩:∃ row,rows[k]?=some row:=⟨_,List.getElem?_eq_getElem (by have:=hIN.out;omega)⟩
          obtain⟨l,hl⟩:∃ l,e.items[k]?=some l:=⟨_,List.getElem?_eq_getElem (by have:=hIN.out;have:=hlen.out;omega)⟩
          obtain⟨I,hI,hIs,hIm⟩:=HE.out.items k row l hrow hl
          have HIR:=η hI
          have HIS:=η hIs
          have HIM:=η hIm
          have HLL:=η hl
          have ixr:=fun W=>(HE.out.rowsR).run_at (P:=Tryz.prog) el_itemrows.under el_itemrows.size .i64 (k:Int) (by omega) (by omega) W
          simp only[Nat.mul_one,Int.toNat_natCast]at ixr
          have HCR:Hid (∀ W,Ext w W→W.cell? (elt (.slice ia inn ic) k)=some (.slice row.a row.n row.c)):=η (fun W hW=>by
           have:=(HE.out.rowsR.ext hW).cell hrow (j:=0) rfl
           simpa[SV.v]using this)
          have hrn2:row.n=I.length:=by obtain⟨a',n',c',hv,_,hn⟩:=HIR.out.val;have h1:=hn.out;simp only[SV.v]at hv;cases hv;exact h1
          have hrb:row.n≤9223372036854775807:=by obtain⟨a',n',c',hv,hle,hn⟩:=HIR.out.val;simp only[SV.v]at hv;cases hv;exact hle
          have HRN:=η hrn2
          have yr:=HCR.out wr hEW
          clear hI hIs hIm hrow hl hrn2
          go_wp2_with fail
          obtain⟨wo,rfl⟩:∃ u,u=wr:=⟨_,rfl⟩
          go_loopw [12] (fun q wr2=>∃ (m:Nat) (V2:Areas×List TM),m≤row.n∧q=.int .i64 m∧Hid (MRelQ [w.heap.size] [] (fblk (.slice la ln lc)++fblk (.slice da dn dc)) w w.heap.size wr2 B (RS.zero L e.defs e.draws V2)∧wr2.heap[w.heap.size]?=some (yL (.slice ca cn cc) (.slice da dn dc) (.slice ia inn ic) (.slice ra rn rc))∧wr2.cell? ⟨B,24,none⟩=some (.pointer (some ⟨tb,0,none⟩))∧xG V2 k (l.drop m)=xG V1 k l∧∀ t∈V2.2,TabOk t)) (fun q _=>row.n - (intOf q).toNat)
          case atStart=>exact⟨0,V1,Nat.zero_le _,rfl,η ⟨HI.out.1,HI.out.2.1,HI.out.2.2.1,rfl,HI.out.2.2.2.2⟩⟩
          case round =>
           obtain⟨m,V2,hm,rfl,HJ⟩:=hrel
           have hEW3:Ext w wr:=HJ.out.1.keep.ext (fun k hk=>by cases hk)
           have HEW3:=η hEW3
           have y3:wr.cell? ⟨w.heap.size,2,none⟩=some (.slice ia inn ic):=cO HJ.out.2.1
           have hlw3:=zE HJ.out.2.1
           have yr3:=HCR.out wr hEW3
           clear y2 yr hlw2
           by_cases hlt2:(m:Int) < row.n
           ·have HLT:Hid (m < row.n):=η (by omega)
            obtain⟨y,hy⟩:∃ y,I[m]?=some y:=⟨_,List.getElem?_eq_getElem (by have:=HRN.out;omega)⟩
            have hlm:l[m]?=some (y.key,y.val):=by rw[← HIM.out,List.getElem?_map,hy];rfl
            have HLM:=η hlm
            have hys:=HIS.out y (List.mem_of_getElem? hy)
            have HYS:=η hys
            have HYB:=η (HE.out.ib l (List.mem_of_getElem? HLL.out) (y.key,y.val) (List.mem_of_getElem? hlm))
            have hIR:=HIR.out
            simp only[SV.v]at hIR
            have hrn3:row.n=I.length:=HRN.out
            have ixm:=fun W=>hIR.run_at (P:=Tryz.prog) el_item.under el_item.size .i64 (m:Int) (by omega) (by omega) W
            simp only[Int.toNat_natCast]at ixm
            have HCM:Hid (∀ W,Ext w W→W.cell? (elt (.slice row.a row.n row.c) (m * 2))=some (.slice y.ka y.key.length y.kc)∧W.cell? ⟨(elt (.slice row.a row.n row.c) (m * 2)).block,(elt (.slice row.a row.n row.c) (m * 2)).off+1,none⟩=some (.slice y.va y.val.length y.vc)):=η (fun W hW=>by
             have E:=(hIR.ext hW).elt_add hy
             have F:∀ (p:Addr) (j:Nat),j≠0→(⟨p.block,p.off+j,none⟩:Addr)=p.add j:=fun p j h=>by simp[Addr.add,h]
             rw[F _ 1 (by decide),E]
             exact⟨by have:=(hIR.ext hW).cell hy (j:=0) rfl;simpa[IT.kv]using this,(hIR.ext hW).cell hy (j:=1) rfl⟩)
            obtain⟨k0,k1⟩:=HCM.out wr hEW3
            obtain⟨Vn,nn,hh,hput⟩:∃ a b c,rput V2 k y.key y.val 0=(a,b,c):=⟨_,_,_,rfl⟩
            have HPT:Hid (∀ W,Ext wr W→Calls Tryz.prog 35 #[.pointer (some ⟨tb,0,none⟩),.int .i64 (k:Int),.slice y.ka y.key.length y.kc,.slice y.va y.val.length y.vc,.int .u64 0] W (fun e1 w'=>e1=.returned (.tuple #[.int .u64 nn,.int .i64 hh])∧MRelQ [w.heap.size] [] (fblk (.slice la ln lc)++fblk (.slice da dn dc)) w w.heap.size w' B (RS.zero L e.defs e.draws Vn)∧w'.heap[w.heap.size]?=some (yL (.slice ca cn cc) (.slice da dn dc) (.slice ia inn ic) (.slice ra rn rc))∧w'.cell? ⟨B,24,none⟩=some (.pointer (some ⟨tb,0,none⟩)))):=η (fun W hW=>(new_put (HJ.out.1.go hW) HJ.out.2.2.2.2 (hW.cellOf HJ.out.2.2.1) k HYS.out.1 HYS.out.2 HYB.out).mono (fun e1 w' h=>by
             obtain⟨h1,h2,h3⟩:=h
             have hp2:rput (RS.zero L e.defs e.draws V2).V k y.key y.val 0=(Vn,nn,hh):=hput
             rw[hp2]at h1 h2
             exact⟨h1,h2,h3 _ (.inl (by simp)) _ (hW.obj HJ.out.2.1),yJ (a:=⟨B,24,none⟩) (h3 B (.inr rfl)) (hW.cellOf HJ.out.2.2.1)⟩))
            have HTV:Hid (∀ t∈Vn.2,TabOk t):=η (by have:=rput_tab (i:=(k:Int)) (ks:=y.key) (vs:=y.val) (fl:=0) HJ.out.2.2.2.2;rw[hput]at this;exact this)
            have HPU:=η hput
            clear hy hlm hys hIR hput hrn3
            have HSW:Hid (∀ W,Ext w W→W.heap[w.heap.size]?=some (yL (.slice ca cn cc) (.slice da dn dc) (.slice ia inn ic) (.slice ra rn rc))→W.cell? ⟨w.heap.size,2,none⟩=some (.slice ia inn ic)∧W.cell? (elt (.slice ia inn ic) k)=some (.slice row.a row.n row.c)∧W.cell? (elt (.slice row.a row.n row.c) (m * 2))=some (.slice y.ka y.key.length y.kc)∧W.cell? ⟨(elt (.slice row.a row.n row.c) (m * 2)).block,(elt (.slice row.a row.n row.c) (m * 2)).off+1,none⟩=some (.slice y.va y.val.length y.vc)):=η (fun W hW hb=>⟨cO hb,HCR.out W hW,(HCM.out W hW).1,(HCM.out W hW).2⟩)
            go_upto_region 17 with fail
            go_cut [13,14] from 94 to 118 (fun v13 v14 wx=>v13=.int .u64 nn∧v14=.int .i64 hh∧Hid (MRelQ [w.heap.size] [] (fblk (.slice la ln lc)++fblk (.slice da dn dc)) w w.heap.size wx B (RS.zero L e.defs e.draws Vn)∧wx.heap[w.heap.size]?=some (yL (.slice ca cn cc) (.slice da dn dc) (.slice ia inn ic) (.slice ra rn rc))∧wx.cell? ⟨B,24,none⟩=some (.pointer (some ⟨tb,0,none⟩))))
            case first =>
             go_region_held3 (fun w'=>w'.cell? ⟨w.heap.size,2,none⟩=some (.slice ia inn ic)∧w'.cell? (elt (.slice ia inn ic) k)=some (.slice row.a row.n row.c)∧w'.cell? (elt (.slice row.a row.n row.c) (m * 2))=some (.slice y.ka y.key.length y.kc)∧w'.cell? ⟨(elt (.slice row.a row.n row.c) (m * 2)).block,(elt (.slice row.a row.n row.c) (m * 2)).off+1,none⟩=some (.slice y.va y.val.length y.vc))
              (first|exact HSW.out _ (HM7.out.1.keep.ext (fun k hk=>by cases hk)) HM7.out.2.1|exact HSW.out _ (HEW3.out.trans' (by (repeat (first|exact xE0 _|assumption|refine xE1 ?_ _|refine xE2 ?_|refine xE3 ?_ _|refine xE4 ?_ (by assumption))))) (Ext.obj (w:=wr) (by (repeat (first|exact xE0 _|assumption|refine xE1 ?_ _|refine xE2 ?_|refine xE3 ?_ _|refine xE4 ?_ (by assumption)))) HJ.out.2.1))
              ((go_at_call 35;refine(HPT.out _ (by (repeat (first|exact xE0 _|assumption|refine xE1 ?_ _|refine xE2 ?_|refine xE3 ?_ _|refine xE4 ?_ (by assumption))))).mono ?_;rintro e1 w7 ⟨rfl,hM7⟩;have HM7:=η hM7;clear hM7))
             all_goals
              go_wp2_with fail
              go_meet
              exact⟨rfl,rfl,HM7⟩
            case rest =>
             obtain⟨rfl,rfl,HM7⟩:=hcut
             have HSTEP:Hid (xG V2 k (l.drop m)=if nn=0∧hh=0 then xG Vn k (l.drop (m+1)) else none):=η (by
              rw[qL HLM.out,xG]
              simp only[HPU.out])
             cases hz1:(nn != 0)<;>cases hz2:(hh != 0)
             ·have n0:nn=0:=by simpa using hz1
              have h0:hh=0:=by simpa using hz2
              have HNX:Hid (xG Vn k (l.drop (m+1))=xG V1 k l):=η (by rw[← HJ.out.2.2.2.1,HSTEP.out,if_pos ⟨n0,h0⟩])
              clear n0 h0
              have hltx:m < row.n:=HLT.out
              go_wp2_with fail
              go_roundw
              case rel=>exact⟨m+1,Vn,HLT.out,by go_num,η ⟨HM7.out.1,HM7.out.2.1,HM7.out.2.2,HNX.out,HTV.out⟩⟩
              case measure=>have:=HLT.out;simp[intOf];omega
             all_goals
              have hno:¬ (nn=0∧hh=0):=fun h=>by
               have a1:=h.1
               have a2:=h.2
               simp[a1]at hz1
               try simp[a2]at hz2
              have HNO:Hid (res=none):=η (by
               have h1:=HJ.out.2.2.2.1
               rw[HSTEP.out,if_neg hno]at h1
               have h2:=HI.out.2.2.2.1
               rw[qL HLL.out,yW,← h1]at h2
               rw[HG2.out,← h2]
               rfl)
              have HXX:Hid (Ext w wc):=η (HM7.out.1.keep.ext (fun k hk=>by cases hk))
              clear hno
              go_wp2_with fail
              go_returns
              obtain rfl:=HNO.out
              exact⟨rfl,HXX.out⟩
           ·have hll:l.length=I.length:=by have:=congrArg List.length HIM.out;simpa using this.symm
            have HNX:Hid (yW V2 (k+1) (e.items.drop (k+1))=yW V 0 e.items):=η (by
             have h1:=HJ.out.2.2.2.1
             rw[List.drop_eq_nil_of_le (by have:=HRN.out;omega),xG]at h1
             have h2:=HI.out.2.2.2.1
             rw[qL HLL.out,yW,← h1]at h2
             exact h2)
            go_wp2_with fail
            go_roundw
            case rel=>exact⟨k+1,V2,by omega,by go_num,η ⟨HJ.out.1,HJ.out.2.1,HJ.out.2.2.1,HNX.out,HJ.out.2.2.2.2⟩⟩
            case measure=>simp[intOf];omega
         ·have hfin:yW V 0 e.items=some V1:=by
           have h1:=HI.out.2.2.2.1
           rw[← h1,List.drop_eq_nil_of_le (by have:=hIN.out;have:=hlen.out;omega),yW]
          have HFIN:Hid (res=some (((RS.zero L e.defs e.draws V1).setR 1 4294967296).setR 10 8589935104)):=η (by rw[HG2.out,hfin];rfl)
          clear hfin
          go_wp2_with fail
          refine(ref_at 1 0 _).mono ?_
          rintro e1 w5 ⟨rfl,rfl⟩
          rw[show mat 1 0=4294967296 by simp[mat]]
          go_wp2_with fail
          refine(tA HI.out.1.rel 1 (by decide) 4294967296).mono ?_
          rintro e1 w6 ⟨rfl,hM6⟩
          have HM6:=η hM6
          clear hM6
          go_wp2_with fail
          refine(ref_at 2 512 _).mono ?_
          rintro e1 w7 ⟨rfl,rfl⟩
          rw[show mat 2 512=8589935104 by simp[mat]]
          go_wp2_with fail
          refine(tA HM6.out 10 (by decide) 8589935104).mono ?_
          rintro e1 w8 ⟨rfl,hM8⟩
          have HM8:=η hM8
          clear hM8
          go_wp2_with fail
          go_returns
          obtain rfl:=HFIN.out
          exact⟨B,rfl,HM8.out⟩
set_option maxHeartbeats 400000 in
theorem clone_ins (v:Value)(xs:List Ins)(w:World)(h:Rd w 5 Ins.enc v xs)(hb:xs.length * 12≤140737488355328):
  Calls Tryz.prog 48 #[v] w (CloneAns 58 5 Ins.enc xs w):=by
 obtain⟨a,n,c,rfl,hn,hN⟩:=h.val
 have hnil:=fun W=>h.run_nil (P:=Tryz.prog) Tryz.underlying22 W
 have HS:=η h
 cases a with
 | none =>
  obtain⟨rfl,rfl,rfl⟩:=h.of_isNil
  clear h
  go_enter Tryz.func48,Tryz.ntmps48
  go_wp2
  go_ret
  exact⟨_,rfl,Own.nil _ _ _ _ _,Below.refl _ _⟩
 | some a =>
  clear h
  simp only[isNilV]at hnil
  go_enter Tryz.func48,Tryz.ntmps48
  go_wp2_with (at_builtin;refine xM el_ins gJ rfl _ _ rfl rfl (Own.made w w.heap.size _ _ _ rfl (Nat.le_refl _)) rfl (ys:=xs) ?q1 ?q2 ?q3 ?q4)
  case q1=>exact HS.out.ext (by go_grown)
  case q2=>exact⟨by simpa using hb,by simp;omega⟩
  case q3=>simp
  intro v' w1 hown hgrow hbel
  go_wp2
  go_ret
  exact⟨v',rfl,by simpa using hown,hbel _ _ (by go_grown) (Nat.le_refl _)⟩
set_option maxHeartbeats 400000 in
theorem clone_def (v:Value)(xs:List TDef)(w:World)(h:Rd w 4 TDef.enc v xs)(hb:xs.length * 32≤140737488355328):
  Calls Tryz.prog 50 #[v] w (CloneAns 102 4 TDef.enc xs w):=by
 obtain⟨a,n,c,rfl,hn,hN⟩:=h.val
 have hnil:=fun W=>h.run_nil (P:=Tryz.prog) Tryz.underlying24 W
 have HS:=η h
 cases a with
 | none =>
  obtain⟨rfl,rfl,rfl⟩:=h.of_isNil
  clear h
  go_enter Tryz.func50,Tryz.ntmps50
  go_wp2
  go_ret
  exact⟨_,rfl,Own.nil _ _ _ _ _,Below.refl _ _⟩
 | some a =>
  clear h
  simp only[isNilV]at hnil
  go_enter Tryz.func50,Tryz.ntmps50
  go_wp2_with (at_builtin;refine xM el_def enc_def rfl _ _ rfl rfl (Own.made w w.heap.size _ _ _ rfl (Nat.le_refl _)) rfl (ys:=xs) ?q1 ?q2 ?q3 ?q4)
  case q1=>exact HS.out.ext (by go_grown)
  case q2=>exact⟨by simpa using hb,by simp;omega⟩
  case q3=>simp
  intro v' w1 hown hgrow hbel
  go_wp2
  go_ret
  exact⟨v',rfl,by simpa using hown,hbel _ _ (by go_grown) (Nat.le_refl _)⟩
abbrev mzP (lv dv drv tp:Value)(b:Nat):Obj:=.cells #[lv,.int .u64 0,.bool false,.int .u64 0,.bool false,.int .u64 0,.bool false,.int .u64 0,.bool false,.int .u64 0,.bool false,.int .u64 0,.bool false,.int .u64 0,.bool false,.int .u64 0,.bool false,.int .u64 0,.bool false,.int .u64 0,.bool false,.int .u64 0,.bool false,.pointer (some ⟨b,0,none⟩),tp,dv,drv,.int .i64 0,.bool false,.int .i64 0,.int .i64 0,.slice none 0 0] 109 (0,0)
def NewPA (r:Option RS)(w:World)(e:Ending)(w':World):Prop :=
 match r with
 | none=>e=.returned (.tuple #[.pointer none,.int .i64 1])∧Ext w w'
 | some σ=>∃ mb,e=.returned (.tuple #[.pointer (some ⟨mb,0,none⟩),.int .i64 0])∧PS [] [] w w.heap.size w' mb σ
theorem fblk_sub {v:Value}:∀ j∈fblk v,j∈vblk v:=by
 intro j hj
 match v,hj with
 | .slice (some a) (n+1) c,hj=>simpa[fblk,vblk]using hj
def nblk (w0:World)(B:Nat)(lv dv xv:Value):List Nat:=w0.heap.size :: B :: (lv.ownBlock.toList++(dv.ownBlock.toList++xv.ownBlock.toList))
structure NewUP (w0:World)(B b:Nat)(M:Areas)(mo eo:Obj)(lv dv xv:Value)(L:List Ins)(D:List TDef)(ds:List Int)(w:World):Prop where
 ext:Ext w0 w
 mem:∃ r A,MemAt w b r A∧view A=M∧(∀ j∈foot b r A,w0.heap.size≤j)∧∀ q∈nblk w0 B lv dv xv,q ∉ foot b r A∧q < w.heap.size
 obj:w.heap[B]?=some mo
 env:w.heap[w0.heap.size]?=some eo
 code:Own w (w0.heap.size+1) 58 5 Ins.enc lv L
 defs:Own w (w0.heap.size+1) 102 4 TDef.enc dv D
 dr:Own w (w0.heap.size+1) 29 1 (fun x=>[Value.int .u64 x]) xv ds
section
variable {w0 w w':World} {B b:Nat} {M:Areas} {mo eo:Obj} {lv dv xv:Value} {L:List Ins} {D:List TDef} {ds:List Int}
theorem NewUP.go (h:NewUP w0 B b M mo eo lv dv xv L D ds w)(k:Ext w w'):NewUP w0 B b M mo eo lv dv xv L D ds w':=by
 obtain⟨r,A,h1,h2,h3,h4⟩:=h.mem
 exact⟨h.ext.trans' k,⟨r,A,h1.ext k,h2,h3,fun q hq=>⟨(h4 q hq).1,Nat.lt_of_lt_of_le (h4 q hq).2 k.size⟩⟩,k.obj h.obj,k.obj h.env,h.code.ext k,h.defs.ext k,h.dr.ext k⟩
theorem NewUP.make (h:NewUP w0 B b M mo eo lv dv xv L D ds w)(n:Int)(v:Value)(xs:List Int)(blank fixed:Bool)(hv:Sl w .u8 v xs)(hu:∀ x∈xs,0≤x∧x≤255):
  Calls Tryz.prog 52 #[.pointer (some ⟨b,0,none⟩),.int .i64 n,v,.bool blank,.bool fixed] w fun e w'=>(∃ er:Int,e=.returned (.int .i64 er))∧NewUP w0 B b (yG M n xs blank fixed).1 mo eo lv dv xv L D ds w':=by
 obtain⟨r,A,h1,h2,h3,h4⟩:=h.mem
 refine(mem_make b r A n v xs blank fixed w h1 hv hu).mono ?_
 rintro e w' ⟨rfl,hk,A2,g1,g2,g3⟩
 rw[h2]at g2
 have hs:=h.ext.size
 have hB:∀ q∈nblk w0 B lv dv xv,q ∉ foot b r A:=fun q hq=>(h4 q hq).1
 refine⟨⟨_,rfl⟩,hk.below h.ext h.ext.size h3,⟨r,A2,g1,g2,fun j hj=>(g3 j hj).elim (h3 j) (fun h=>by omega),fun q hq=>⟨fun hm=>?_,Nat.lt_of_lt_of_le (h4 q hq).2 hk.size⟩⟩,hk.obj h.obj (hB B (by simp[nblk])),hk.obj h.env (hB _ (by simp[nblk])),h.code.keep hk (fun j hj=>hB j (by simp[nblk,hj])),h.defs.keep hk (fun j hj=>hB j (by simp[nblk,hj])),h.dr.keep hk (fun j hj=>hB j (by simp[nblk,hj]))⟩
 rcases g3 q hm with h5|h5
 ·exact hB q hq h5
 ·have:=(h4 q hq).2;omega
def NewTP (w0:World)(B b:Nat)(M:Areas)(D:List TDef)(mo eo:Obj)(lv dv xv:Value)(L:List Ins)(ds:List Int)(e:Ending)(w':World):Prop :=
 match rnew M D with
 | none=>e=.returned (.tuple #[.pointer none,.int .i64 1])∧Ext w0 w'
 | some V=>∃ tb S,e=.returned (.tuple #[.pointer (some ⟨tb,0,none⟩),.int .i64 0])∧zN S=V∧TabAt w' w0.heap.size tb S∧S.b=b∧(∀ j∈zM tb S,w0.heap.size≤j)∧Ext w0 w'∧w'.heap[B]?=some mo∧w'.heap[w0.heap.size]?=some eo ∧
   Own w' (w0.heap.size+1) 58 5 Ins.enc lv L∧Own w' (w0.heap.size+1) 102 4 TDef.enc dv D∧Own w' (w0.heap.size+1) 29 1 (fun x=>[Value.int .u64 x]) xv ds∧∀ q∈nblk w0 B lv dv xv,q ∉ zM tb S∧q < w'.heap.size
theorem NewUP.tab (h:NewUP w0 B b M mo eo lv dv xv L D ds w){ev:Value}(hd:Rd w0 4 TDef.enc ev D):Calls Tryz.prog 53 #[.pointer (some ⟨b,0,none⟩),ev] w (NewTP w0 B b M D mo eo lv dv xv L ds):=by
 obtain⟨r,A,h1,h2,h3,h4⟩:=h.mem
 have hE:=h.ext
 refine(tab_new w0.heap.size b r A ev D w h1 hE.size (η fun w' k=>hd.ext (k.below hE hE.size h3))).mono ?_
 rintro e w' ⟨hk,hA⟩
 rw[h2,new_both]at hA
 have hs:=hE.size
 have hE':Ext w0 w':=hk.below hE hE.size h3
 have hB:∀ q∈nblk w0 B lv dv xv,q ∉ foot b r A:=fun q hq=>(h4 q hq).1
 unfold NewTP
 rcases hA with ⟨g1,g2⟩|⟨tb,S,g1,g2,g3,g4,g5⟩
 ·rw[g1];exact⟨g2,hE'⟩
 ·rw[g1]
  refine⟨tb,S,g2,rfl,g3,g4,fun j hj=>(g5 j hj).elim (h3 j) (fun h=>by omega),hE',hk.obj h.obj (hB B (by simp[nblk])),hk.obj h.env (hB _ (by simp[nblk])),h.code.keep hk (fun j hj=>hB j (by simp[nblk,hj])),h.defs.keep hk (fun j hj=>hB j (by simp[nblk,hj])),h.dr.keep hk (fun j hj=>hB j (by simp[nblk,hj])),fun q hq=>⟨fun hm=>?_,Nat.lt_of_lt_of_le (h4 q hq).2 hk.size⟩⟩
  rcases g5 q hm with h6|h6
  ·exact hB q hq h6
  ·have:=(h4 q hq).2;omega
theorem mach_new {tb:Nat}{S:Tabs}{V:Areas×List TM}(h2:zN S=V)(h3:TabAt w' w0.heap.size tb S)(h4:S.b=b)(hge:∀ j∈zM tb S,w0.heap.size≤j)(h5:Ext w0 w')
  (h6:w'.heap[B]?=some (mzP lv dv xv (.pointer none) b)) (hl:Own w' (w0.heap.size+1) 58 5 Ins.enc lv L) (hd:Own w' (w0.heap.size+1) 102 4 TDef.enc dv D) (h8:Own w' (w0.heap.size+1) 29 1 (fun x=>[Value.int .u64 x]) xv ds) (h9:∀ q∈nblk w0 B lv dv xv,q ∉ zM tb S∧q < w'.heap.size) (hB:w0.heap.size < B)
  (hxB:∀ j∈lv.ownBlock.toList++(dv.ownBlock.toList++xv.ownBlock.toList),j≠B) :
  PRelQ [w0.heap.size] [] [] w0 w0.heap.size (w'.setCell ⟨B,24,none⟩ (.pointer (some ⟨tb,0,none⟩))) B (RS.zero L D ds V):=by
 have k:Keep [B] w' (w'.setCell ⟨B,24,none⟩ (.pointer (some ⟨tb,0,none⟩))):=(Keep.rfl' _ _).setCell (by simp) _
 have hE:Ext w0 (w'.setCell ⟨B,24,none⟩ (.pointer (some ⟨tb,0,none⟩))):=h5.setCell (Nat.le_of_lt hB) _
 have hBt:B ∉ zM tb S:=(h9 B (by simp[nblk])).1
 have hs5:=h5.size
 have hkb:∀ {α:Type} {e:TypeId} {sz:Nat} {enc:α→List Value} {v:Value} {xs:List α},Own w' (w0.heap.size+1) e sz enc v xs→(∀ j∈v.ownBlock.toList,j≠B)→Own (w'.setCell ⟨B,24,none⟩ (.pointer (some ⟨tb,0,none⟩))) (w0.heap.size+1) e sz enc v xs:=fun ho hj=>ho.keep k (fun j h1 h2=>by rw[List.mem_singleton]at h2;exact hj j (by simpa using h1) h2)
 have hlB:∀ j∈lv.ownBlock.toList,j≠B:=fun j hj=>hxB j (by simp[hj])
 have hdB:∀ j∈dv.ownBlock.toList,j≠B:=fun j hj=>hxB j (by simp[hj])
 have hrB:∀ j∈xv.ownBlock.toList,j≠B:=fun j hj=>hxB j (by simp[hj])
 have hz:∀ j∈fblk lv++(fblk dv++vblk xv),j∈lv.ownBlock.toList++(dv.ownBlock.toList++xv.ownBlock.toList):=fun j hj=>by
  rw[← yR hl,← yR hd,← yR h8]
  simp only[List.mem_append]at hj ⊢
  exact hj.imp (fblk_sub j) (fun h=>h.imp (fblk_sub j) id)
 have hlt:∀ j∈lv.ownBlock.toList++(dv.ownBlock.toList++xv.ownBlock.toList),w0.heap.size+1≤j:=fun j hj=>by
  simp only[List.mem_append]at hj
  rcases hj with h|h|h
  ·exact(hl.lt (by simpa using h)).1
  ·exact(hd.lt (by simpa using h)).1
  ·exact(h8.lt (by simpa using h)).1
 refine⟨Keep.of_ext hE,Nat.le_refl _,⟨lv,tb,S,dv,xv,.slice none 0 0,[]⟩,⟨?_,Nat.le_of_lt hB,h3.keep k (fun j hj e=>hBt (by rw[List.mem_singleton]at e;rwa[← e])),h2,Own.nil _ _ _ _ _,rfl,(fun c hc=>by cases hc),(hkb hl hlB).rd gJ,(hkb hd hdB).rd enc_def,(hkb h8 hrB).rd (zG _),?_,?_⟩,?_,?_,?_⟩
 ·have:=heap_setCell_same w' B 24 _ _ (.pointer (some ⟨tb,0,none⟩)) h6
  rw[this]
  simp only[xZ,RS.zero,h4]
  rfl
 ·simp only[zW,Value.ownBlock,Option.toList_none,List.nil_append]
  exact List.nodup_cons.2 ⟨hBt,h3.apart⟩
 ·intro j hj
  simp only[pfrz,List.flatMap_nil,List.append_nil]at hj
  simp only[zW,Value.ownBlock,Option.toList_none,List.nil_append]
  have hj2:=hz j hj
  have h10:=h9 j (by simp only[nblk,List.mem_cons];exact .inr (.inr hj2))
  have hsz:=k.size
  exact⟨fun hm=>(List.mem_cons.1 hm).elim (hxB j hj2) h10.1,by omega⟩
 ·intro j hj
  simp only[zW,Value.ownBlock,Option.toList_none,List.nil_append]at hj
  rcases List.mem_cons.1 hj with rfl|hj
  ·exact .inr (Nat.le_of_lt hB)
  ·exact .inr (hge j hj)
 ·intro j hj
  simp only[pfrz,List.flatMap_nil,List.append_nil]at hj
  have:=hlt j (hz j hj)
  exact .inr (by omega)
 ·intro q hq
  rw[List.mem_singleton]at hq
  subst hq
  have h10:=h9 w0.heap.size (by simp[nblk])
  refine⟨Nat.lt_of_lt_of_le h10.2 k.size,fun hm=>?_,fun hm=>?_⟩
  ·simp only[zW,Value.ownBlock,Option.toList_none,List.nil_append]at hm
   rcases List.mem_cons.1 hm with e|hm
   ·omega
   ·exact h10.1 hm
  ·simp only[pfrz,List.flatMap_nil,List.append_nil]at hm
   have:=hlt _ (hz _ hm)
   omega
theorem newp_put {Q:List Nat}{tb:Nat}{σ:RS}(h:PRelQ Q [] [] w0 w0.heap.size w B σ)(hc:w.cell? ⟨B,24,none⟩=some (.pointer (some ⟨tb,0,none⟩)))(i:Int){kv vv:Value}{ks vs:List Int}(hk:Sl w0 .u8 kv ks)(hv:Sl w0 .u8 vv vs)(hu:∀ q∈vs,0≤q∧q≤255):
  Calls Tryz.prog 54 #[.pointer (some ⟨tb,0,none⟩),.int .i64 i,kv,vv,.int .u64 0] w
   (fun e w'=>e=.returned (.tuple #[.int .u64 (tput σ.V i ks vs 0).2.1,.int .i64 (tput σ.V i ks vs 0).2.2])∧PRelQ Q [] [] w0 w0.heap.size w' B {σ with V:=(tput σ.V i ks vs 0).1}∧∀ q,(q∈Q∨q=B)→∀ o,w.heap[q]?=some o→w'.heap[q]?=some o):=by
 obtain⟨h0,hl,l,h1,h2,h3,h4⟩:=h
 have hw:=h1.view
 have htb:l.tb=tb:=by
  have:=h1.cell 24 rfl
  rw[hc]at this
  have:=Option.some.inj this
  injection this with this
  have:=Option.some.inj this
  injection this with this
  exact this.symm
 subst htb
 have hge:∀ j∈zM l.tb l.T,w0.heap.size≤j:=fun j hj=>(h2 j (by simp[zW,hj])).resolve_left (by simp)
 have hE:Ext w0 w:=h0.ext (fun k hk=>by cases hk)
 refine(tab_put w0.heap.size l.tb l.T i kv vv ks vs 0 w h1.tab (hk.ext hE) (hv.ext hE) hu (by decide) (η (by decide)) (η fun w' k=>hv.ext (k.below hE hE.size hge))).mono ?_
 rintro e w' ⟨h,hk5,S',hT,hV,hfo,hrb⟩
 rw[hw]at h hV
 have:=PRelQ.tabStep (Q:=Q) h0 hl h1 h2 h3 h4 hk5 hT hrb hfo
 rw[hV]at this
 exact⟨h,this⟩
end
end Go.Proofs.YtppefchjoodgnaaGreat
