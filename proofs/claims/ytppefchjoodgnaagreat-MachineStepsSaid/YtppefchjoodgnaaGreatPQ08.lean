import Derived.Test.YtppefchjoodgnaaGreatPQ05
import Derived.Test.YtppefchjoodgnaaGreatPQ06
import Derived.Test.YtppefchjoodgnaaGreatPQ07
set_option linter.unusedSimpArgs false
set_option linter.unusedVariables false
namespace Go.Proofs.YtppefchjoodgnaaGreat
open Go.RowKit
theorem RTabAt.push {w wr w5:World}{base tb:Nat}{S:RTabs}{lv:Value}{x:RM}(h:RTabAt w base tb S)(he:Ext w wr)(hx:Own w base 129 2 qH x.lv x.T.slots)(hxf:∀ j,x.lv.ownBlock=some j→j ∉ zH tb S)
  (hmade:x.T.made≤1024∧∀ p∈x.T.slots,p.2≤1024) (hk:Keep S.mv.ownBlock.toList wr w5) (hmv:∀ k,lv.ownBlock=some k→S.mv.ownBlock=some k∨wr.heap.size≤k) (hl:Own w5 base 126 6 RM.enc lv (S.R++[x])) (hfew:S.R.length < 8) :
  RTabAt (w5.setCell ⟨tb,1,none⟩ lv) base tb {S with mv:=lv,R:=S.R++[x]}∧Keep (zH tb S) w (w5.setCell ⟨tb,1,none⟩ lv)∧∀ j∈zH tb {S with mv:=lv,R:=S.R++[x]},j∈zH tb S∨x.lv.ownBlock=some j∨w.heap.size≤j:=by
 have n0:=List.nodup_cons.1 h.apart
 have n1:=List.nodup_append.1 n0.2
 have n2:=List.nodup_append.1 n1.2.1
 have hlt:=fun j hj=>(h.lt j hj).2
 have hsz:=he.size
 have htlt:=zE h.head
 have hxlt:∀ j,x.lv.ownBlock=some j→j < w.heap.size:=fun j hj=>(hx.lt hj).2
 have hF:∀ j∈S.mv.ownBlock.toList,j∈zH tb S:=fun j hj=>by simp only[zH,List.mem_cons,List.mem_append];exact .inr (.inl hj)
 have hFlt:∀ j∈S.mv.ownBlock.toList,j < w.heap.size:=fun j hj=>hlt j (hF j hj)
 have htF:tb ∉ S.mv.ownBlock.toList:=fun hj=>n0.1 (List.mem_append_left _ hj)
 have hin:∀ y∈S.R,∀ j,y.lv.ownBlock=some j→j∈S.R.flatMap (fun x=>x.lv.ownBlock.toList):=fun y hy j hj=>List.mem_flatMap.2 ⟨y,hy,by simpa using hj⟩
 have hrt:∀ y∈S.R,∀ j,y.lv.ownBlock=some j→j∈zH tb S:=fun y hy j hj=>by simp only[zH,List.mem_cons,List.mem_append];exact .inr (.inr (.inl (hin y hy j hj)))
 have hrec:∀ y∈S.R,∀ j,y.lv.ownBlock=some j→j ∉ S.mv.ownBlock.toList:=fun y hy j hj hj'=>n1.2.2 j hj' j (List.mem_append_left _ (hin y hy j hj)) rfl
 have hmem:∀ j∈yA S.rb S.lv S.L,j ∉ S.mv.ownBlock.toList:=fun j hj hj'=>n1.2.2 j hj' j (List.mem_append_right _ hj) rfl
 have htx:∀ j,x.lv.ownBlock=some j→j≠tb∧j ∉ S.mv.ownBlock.toList∧j ∉ S.R.flatMap (fun x=>x.lv.ownBlock.toList)∧j ∉ yA S.rb S.lv S.L:=fun j hj=>by
  have:=hxf j hj
  simp only[zH,List.mem_cons,List.mem_append,not_or]at this
  exact⟨this.1,this.2.1,this.2.2.1,this.2.2.2⟩
 have hlv:∀ k,lv.ownBlock=some k→k≠tb∧(∀ y∈S.R++[x],y.lv.ownBlock≠some k)∧k ∉ yA S.rb S.lv S.L:=by
  intro k hk'
  rcases hmv k hk' with h1|h1
  ·have hin:k∈S.mv.ownBlock.toList:=by simpa using h1
   refine⟨fun e=>htF (by rw[← e];exact hin),fun y hy hy'=>?_,fun hj=>hmem k hj hin⟩
   rcases List.mem_append.1 hy with hy|hy
   ·exact hrec y hy k hy' hin
   ·rw[List.mem_singleton]at hy
    subst hy
    exact(htx k hy').2.1 hin
  ·refine⟨by omega,fun y hy hy'=>?_,fun hj=>by have:=hlt k (kG tb S k hj);omega⟩
   rcases List.mem_append.1 hy with hy|hy
   ·have:=hlt k (hrt y hy k hy');omega
   ·rw[List.mem_singleton]at hy
    subst hy
    have:=hxlt k hy';omega
 have kk:Keep [tb] w5 (w5.setCell ⟨tb,1,none⟩ lv):=(Keep.rfl' [tb] w5).setCell (by simp) _
 have o5:=hk.obj (he.obj h.head) htF
 have hone:∀ y∈S.R++[x],Own w5 base 129 2 qH y.lv y.T.slots∧∀ j,y.lv.ownBlock=some j→j≠tb:=by
  intro y hy
  rcases List.mem_append.1 hy with hy|hy
  ·exact⟨((h.keys y hy).ext he).keep hk (hrec y hy),fun j hj e=>n0.1 (List.mem_append_right _ (List.mem_append_left _ (by rw[← e];exact hin y hy j hj)))⟩
  ·rw[List.mem_singleton]at hy
   subst hy
   exact⟨(hx.ext he).keep hk (fun j hj=>(htx j hj).2.1),fun j hj=>(htx j hj).1⟩
 refine⟨⟨?_,h.low,hl.keep kk (fun j hj=>by simpa using (hlv j hj).1),fun y hy=>(hone y hy).1.keep kk (fun j hj=>by simpa using (hone y hy).2 j hj),?_,?_,by simp;omega,?_⟩,?_,?_⟩
 ·have:=heap_setCell_same w5 tb 1 _ _ lv o5
  simpa using this
 ·refine((h.mem.ext he).keep hk hmem).keep kk (fun j hj=>?_)
  simp only[List.mem_singleton]
  intro e
  subst e
  exact n0.1 (List.mem_append_right _ (List.mem_append_right _ hj))
 ·have hb:(S.R++[x]).flatMap (fun x=>x.lv.ownBlock.toList)=S.R.flatMap (fun x=>x.lv.ownBlock.toList)++x.lv.ownBlock.toList:=by simp
  simp only[zH]
  rw[hb,List.nodup_cons,List.nodup_append,List.nodup_append,List.nodup_append]
  refine⟨?_,gX _,⟨⟨n2.1,gX _,?_⟩,n2.2.1,?_⟩,?_⟩
  ·intro hj
   simp only[List.mem_append]at hj
   rcases hj with hj|(hj|hj)|hj
   ·exact(hlv tb (by simpa using hj)).1 rfl
   ·exact n0.1 (List.mem_append_right _ (List.mem_append_left _ hj))
   ·exact(htx tb (by simpa using hj)).1 rfl
   ·exact n0.1 (List.mem_append_right _ (List.mem_append_right _ hj))
  ·intro a ha b hb' e
   subst e
   exact(htx a (by simpa using hb')).2.2.1 ha
  ·intro a ha b hb' e
   subst e
   rcases List.mem_append.1 ha with ha|ha
   ·exact n2.2.2 a ha a hb' rfl
   ·exact(htx a (by simpa using ha)).2.2.2 hb'
  ·intro a ha b hb' e
   subst e
   have h2:=hlv a (by simpa using ha)
   rcases List.mem_append.1 hb' with hb'|hb'
   ·rcases List.mem_append.1 hb' with hb'|hb'
    ·obtain⟨y,hy,hya⟩:=List.mem_flatMap.1 hb'
     exact h2.2.1 y (List.mem_append_left _ hy) (by simpa using hya)
    ·exact h2.2.1 x (by simp) (by simpa using hb')
   ·exact h2.2.2 hb'
 ·intro y hy
  rcases List.mem_append.1 hy with hy|hy
  ·exact h.made y hy
  ·rw[List.mem_singleton]at hy
   subst hy
   exact hmade
 ·exact(((Keep.of_ext he).trans (hk.mono fun j hj=>.inl hj)).mono fun j hj=>.inl (hF j hj)).setCell (by simp[zH]) _
 ·intro j hj
  simp only[zH,List.mem_cons,List.mem_append,List.flatMap_append,List.flatMap_cons,List.flatMap_nil,List.append_nil]at hj ⊢
  rcases hj with hj|hj|(hj|hj)|hj
  ·exact .inl (.inl hj)
  ·rcases hmv j (by simpa using hj) with h1|h1
   ·exact .inl (.inr (.inl (by simpa using h1)))
   ·exact .inr (.inr (by omega))
  ·exact .inl (.inr (.inr (.inl hj)))
  ·exact .inr (.inl (by simpa using hj))
  ·exact .inl (.inr (.inr (.inr hj)))
def qA (M:Areas)(i:Int)(val:Nat):Nat→Option Areas
 | 0=>some M
 | k+1=>(qA M i val k).bind fun M'=>if (yG M' (zS i k) (List.replicate val 0) false false).2=0 then some (yG M' (zS i k) (List.replicate val 0) false false).1 else none
def TDef.full (d:TDef):TM:={d.tm with slots:=nums d.max.toNat,made:=d.max.toNat}
def rnew1 (V:Areas×List TM)(d:TDef):Option (Areas×List TM) :=
 if d.hash then some (V.1,V.2++[d.tm]) else (qA V.1 V.2.length d.val.toNat d.max.toNat).map fun M=>(M,V.2++[d.full])
def kW (M:Areas)(ds:List TDef):Nat→Option (Areas×List TM)
 | 0=>some (M,[])
 | k+1=>(kW M ds k).bind fun V=>(ds[k]?).bind (rnew1 V)
def rnew (M:Areas)(ds:List TDef):Option (Areas×List TM):=if xC ds then kW M ds ds.length else none
theorem rnew_le {M:Areas}{ds:List TDef}:∀ {j k:Nat},j≤k→kW M ds j=none→kW M ds k=none
 | j,0,h,hn=>by simpa[Nat.le_zero.1 h]using hn
 | j,k+1,h,hn=>by
  by_cases e:j=k+1
  ·rw[← e];exact hn
  ·rw[kW,rnew_le (by omega:j≤k) hn];rfl
theorem rfill_le {M:Areas}{i:Int}{val:Nat}:∀ {j k:Nat},j≤k→qA M i val j=none→qA M i val k=none
 | j,0,h,hn=>by simpa[Nat.le_zero.1 h]using hn
 | j,k+1,h,hn=>by
  by_cases e:j=k+1
  ·rw[← e];exact hn
  ·rw[qA,rfill_le (by omega:j≤k) hn];rfl
def ltK (s:ByteArray)(p:ByteArray×Nat):Bool:=Op.bytesLess p.1.toList s.toList
def addR (t:TM)(s:ByteArray):TM:={t with slots:=t.slots.takeWhile (ltK s)++[(s,t.made)]++t.slots.dropWhile (ltK s),made:=t.made+1}
def rput (V:Areas×List TM)(i:Int)(ks vs:List Int)(flags:Int):(Areas×List TM)×Int×Int :=
 match xE V.2 i ks.length with
 | none=>(V,0,1)
 | some t =>
  if (vs.length:Int)≠t.val then (V,0,1)
  else if 2 < flags then (V,18446744073709551594,0)
  else match t.slots.lookup (strOfNums ks) with
   | some n=>if flags=1 then (V,18446744073709551599,0) else ((pH V.1 (zS i n) vs vs.length,V.2),0,0)
   | none=>if t.hash=false then (V,18446744073709551609,0) else if flags=2 then (V,18446744073709551614,0) else if t.max≤t.slots.length then (V,18446744073709551609,0) else
    if 1024≤t.made then (V,18446744073709551604,0) else
    if (yG V.1 (zS i t.made) vs false false).2=0 then (((yG V.1 (zS i t.made) vs false false).1,V.2.set i.toNat (addR t (strOfNums ks))),0,0) else (V,18446744073709551604,0)
def RPutT (base tb:Nat)(S:RTabs)(i:Int)(ks vs:List Int)(flags:Int)(w:World)(e:Ending)(w':World):Prop :=
 e=.returned (.tuple #[.int .u64 (rput (yC S) i ks vs flags).2.1,.int .i64 (rput (yC S) i ks vs flags).2.2])∧Keep (zH tb S) w w'∧∃ S',RTabAt w' base tb S'∧yC S'=(rput (yC S) i ks vs flags).1∧(∀ j∈zH tb S',j∈zH tb S∨w.heap.size≤j)∧S'.rb=S.rb
theorem jJ {base tb:Nat}{S:RTabs}{i:Int}{ks vs:List Int}{flags a b:Int}{w w':World}(h:RTabAt w base tb S)(he:Ext w w')(e:rput (yC S) i ks vs flags=(yC S,a,b)):RPutT base tb S i ks vs flags w (.returned (.tuple #[.int .u64 a,.int .i64 b])) w' :=
 ⟨by rw[e],Keep.of_ext he,S,h.ext he,by rw[e],fun j hj=>.inl hj,rfl⟩
theorem tw_lt {α:Type}(f:α→Bool):∀ (L:List α) (q:Nat) (p:α),q < (L.takeWhile f).length→L[q]?=some p→f p=true
 | [],q,p,h,hp=>by simp at hp
 | a :: L,q,p,h,hp=>by
  by_cases ha:f a=true
  ·rw[List.takeWhile_cons_of_pos ha]at h
   cases q with
   | zero=>simp at hp;subst hp;exact ha
   | succ q=>exact tw_lt f L q p (by simpa using h) (by simpa using hp)
  ·rw[List.takeWhile_cons_of_neg ha]at h;simp at h
theorem tw_at {α:Type}(f:α→Bool):∀ (L:List α) (p:α),L[(L.takeWhile f).length]?=some p→f p=false
 | [],p,hp=>by simp at hp
 | a :: L,p,hp=>by
  by_cases ha:f a=true
  ·rw[List.takeWhile_cons_of_pos ha]at hp;exact tw_at f L p (by simpa using hp)
  ·rw[List.takeWhile_cons_of_neg ha]at hp;simp at hp;subst hp;simpa using ha
theorem tw_take {α:Type}(f:α→Bool):∀ (L:List α),L.take (L.takeWhile f).length=L.takeWhile f∧L.drop (L.takeWhile f).length=L.dropWhile f∧(L.takeWhile f).length≤L.length
 | []=>by simp
 | a :: L=>by
  obtain⟨h1,h2,h3⟩:=tw_take f L
  by_cases ha:f a=true
  ·rw[List.takeWhile_cons_of_pos ha,List.dropWhile_cons_of_pos ha]
   simp[h1,h2,h3]
  ·rw[List.takeWhile_cons_of_neg ha,List.dropWhile_cons_of_neg ha]
   simp
theorem rm_field {w:World}{base:Nat}{v:Value}{xs:List RM}(h:Own w base 126 6 RM.enc v xs){i:Nat}{x:RM}(hx:xs[i]?=some x)(j:Nat)(hj0:j≠0)(hj:j < 6):
  w.cell? ⟨(elt v (i * 6)).block,(elt v (i * 6)).off+j,none⟩=(RM.enc x)[j]?∧w.frozen? ⟨(elt v (i * 6)).block,(elt v (i * 6)).off+j,none⟩=false∧v.ownBlock=some (elt v (i * 6)).block∧(elt v (i * 6)).block < w.heap.size ∧
  ∀ (y:RM) (u:Value),RM.enc y=(RM.enc x).set j u→Own (w.setCell ⟨(elt v (i * 6)).block,(elt v (i * 6)).off+j,none⟩ u) base 126 6 RM.enc v (xs.set i y):=by
 have E:=(h.rd vB).elt_add hx (j:=j)
 have F:(⟨(elt v (i * 6)).block,(elt v (i * 6)).off+j,none⟩:Addr)=(elt v (i * 6)).add j:=by simp[Addr.add,hj0]
 have hb:(elt v (i * 6+j)).block=(elt v (i * 6)).block:=by rw[← E,← F]
 obtain⟨q1,q2,q3,q4,q5⟩:=h.field vB hx hj
 rw[F,E]
 rw[hb]at q3 q4
 exact⟨q1,q2,q3,q4,q5⟩
theorem mv_ne {w:World}{base tb:Nat}{S:RTabs}(h:RTabAt w base tb S){b:Nat}(hb:S.mv.ownBlock=some b):tb≠b:=fun e=>by
 have n0:=List.nodup_cons.1 h.apart
 exact n0.1 (List.mem_append_left _ (by rw[hb,e];simp))
theorem cell?_setCell_ne_block (w:World)(p q:Addr)(u:Value)(h:q.block≠p.block):(w.setCell p u).cell? q=w.cell? q:=by
 exact World.cell?_of_block (heap_setCell_other w p q.block u h)
abbrev keyObj (s:ByteArray)(m:Nat):Obj:=.cells #[.string s,.int .i64 m] 129
theorem key_lit (w:World)(s:ByteArray)(m q:Nat)(hq:q=w.heap.size):Rd (w.alloc (keyObj s m)) 2 qH (.slice (some ⟨q,0,none⟩) 1 1) [(s,m)] :=
 (Own.lit xQ (base:=0) (w:=w) (e:=129) [(s,m)] hq rfl (Nat.zero_le _) (by simp[maxLen])).rd xQ
theorem lit_keep1 {w7 w8:World}{s:ByteArray}{m:Nat}(hg:((w7.alloc (.cells #[] 129)).alloc (keyObj s m)).drew.grownBy w8 (some w7.heap.size)):Rd w8 2 qH (.slice (some ⟨w7.heap.size+1,0,none⟩) 1 1) [(s,m)] :=
 ((key_lit (w7.alloc (.cells #[] 129)) s m (w7.heap.size+1) (by simp)).ext (Ext.rfl' _).drew').keep (yB hg) (fun a n c e=>by injection e with e;injection e with e;subst e;simp)
theorem lit_keep2 {w7 w8:World}{s:ByteArray}{m:Nat}(hg:((w7.alloc (keyObj s m)).alloc (.cells #[] 129)).drew.grownBy w8 (some (w7.heap.size+1))):Rd w8 2 qH (.slice (some ⟨w7.heap.size,0,none⟩) 1 1) [(s,m)] :=
 ((key_lit w7 s m w7.heap.size rfl).ext ((Ext.rfl' _).alloc' (.cells #[] 129)).drew').keep (yB hg) (fun a n c e=>by injection e with e;injection e with e;subst e;simp)
set_option maxRecDepth 20000 in
set_option maxHeartbeats 16000000 in
theorem rtab_put (base tb:Nat)(S:RTabs)(i:Int)(kv vv:Value)(ks vs:List Int)(flags:Int)(w:World)(h:RTabAt w base tb S)(hbase:base≤w.heap.size)(HLB:Hid (∀ x∈S.R,x.T.slots.length≤1000))(hk:Sl w .u8 kv ks)(hv:Sl w .u8 vv vs)(hu:∀ q∈vs,0≤q∧q≤255)(hf0:0≤flags)(HF:Hid (flags≤18446744073709551615))(HST:Hid (∀ w',Keep (zH tb S) w w'→Sl w' .u8 vv vs))(HKT:Hid (∀ w',Keep (zH tb S) w w'→Sl w' .u8 kv ks)):
  Calls Tryz.prog 35 #[.pointer (some ⟨tb,0,none⟩),.int .i64 i,kv,vv,.int .u64 flags] w (RPutT base tb S i ks vs flags w):=by
 have HT:=η h
 obtain⟨ka,kn,kc,rfl,hkn,hKN⟩:=hk.val
 obtain⟨va,vn,vc,rfl,hvn,hVN⟩:=hv.val
 have HK:=η hk
 have HV:=η hv
 have HU:=η hu
 clear h hk hv hu
 rcases qQ (S.R.map (·.T)) i ks.length with h0|⟨j,t,rfl,hp,hkk⟩
 ·have H0:=η h0
  clear h0
  go_enter Tryz.func35,Tryz.ntmps35
  go_wp2_with fail
  refine(uP base tb S i _ ks w HT.out HK.out).mono ?_
  rintro e w1 ⟨rfl,rfl⟩
  rw[H0.out]
  go_wp2_with fail
  go_returns
  exact jJ HT.out (Ext.rfl' _) (by simp only[rput,yC,H0.out])
 ·obtain⟨x,hx,hxt,hxm⟩:=rpick S j t hp
  have hf:xE (S.R.map (·.T)) j ks.length=some x.T:=by rw[hxt];exact pW hp hkk
  clear hp hkk hxt
  have hj8:j < S.R.length:=(List.getElem?_eq_some_iff.1 hx).1
  have h8:=HT.out.few
  have hmd:=HT.out.made x hxm
  have HMD:=η hmd
  have HX:=η hf
  have HXI:=η hx
  have HM:=η hxm
  have hb1:=cO (i:=1) HT.out.head
  simp only[gA,gB,gC]at hb1
  have RMM:=η (HT.out.maps.rd vB)
  obtain⟨ma,mn,mc,hmv,hmn,hMN⟩:=RMM.out.val
  have HMV:=η hmv
  rw[hmv]at hb1 RMM
  have hi1:((j:Nat):Int) < (mn:Int):=by have:=hMN.out;omega
  obtain⟨la,ln,lc,hlv,hln,hLN⟩:=((HT.out.keys x hxm).rd xQ).val
  have HLV:=η hlv
  have ix:=fun W=>RMM.out.run_at (P:=Tryz.prog) el_rm.under el_rm.size .i64 (j:Int) (by omega) (by omega) W
  obtain⟨c0,c1,c2,c3,c4,c5⟩:=rm_cells RMM.out hx
  simp only[Int.toNat_natCast]at ix
  rw[hlv]at c4
  clear hf hx hxm hmd hmv hlv
  have hslots:(ln:Int)=(x.T.slots.length:Int):=by have:=hLN.out;omega
  have HSL:=η hslots
  clear hslots
  go_enter Tryz.func35,Tryz.ntmps35
  go_wp2_with fail
  refine(uP base tb S j _ ks w HT.out HK.out).mono ?_
  rintro e w1 ⟨rfl,rfl⟩
  rw[HX.out]
  by_cases hval:(vn:Int)=x.T.val
  case neg =>
   have HVAL:Hid ((vs.length:Int)≠x.T.val):=η (by have:=hVN.out;omega)
   have d1:((vn:Int) != x.T.val)=true:=by simpa using hval
   clear hval
   go_wp2_with fail
   go_returns
   exact jJ HT.out (Ext.rfl' _) (by simp only[rput,yC,HX.out];rw[if_pos HVAL.out])
  have HVAL:Hid (¬ (vs.length:Int)≠x.T.val):=η (by have:=hVN.out;omega)
  have d1:((vn:Int) != x.T.val)=false:=by simpa using hval
  clear hval
  go_wp2_with fail
  refine(rtab_find base tb S j x _ ks _ HT.out HK.out HXI.out).mono ?_
  rintro e w2 ⟨rfl,he⟩
  have HE:=η he
  have hb1:=he.cellOf hb1
  have c0:=he.cellOf c0
  have c1:=he.cellOf c1
  have c2:=he.cellOf c2
  have c3:=he.cellOf c3
  have c4:=he.cellOf c4
  have c5:=he.cellOf c5
  have HT2:=η (HT.out.ext he)
  have HAL:Hid (Ext w1 (w2.alloc (.cells #[.bool x.T.hash,.int .i64 x.T.key,.int .i64 x.T.val,.int .i64 x.T.max,.slice la ln lc,.int .i64 (x.T.made:Nat)] 126))):=η (he.alloc' _)
  clear he
  by_cases hfl:2 < flags
  ·have HFL:=η hfl
   go_wp2_with fail
   refine(kA 22 _ (by decide) (by decide)).mono ?_
   rintro e w3 ⟨rfl,rfl⟩
   go_wp2_with fail
   go_returns
   exact jJ HT.out HAL.out (by simp only[rput,yC,HX.out];rw[if_neg HVAL.out,if_pos HFL.out])
  have HFL:=η hfl
  have d2:decide (2 < flags)=false:=by simpa using hfl
  clear hfl
  cases hlk:x.T.slots.lookup (strOfNums ks) with
  | some n =>
   have HLK:=η hlk
   have hn:=HMD.out.2 _ (yZ hlk)
   simp only at hn
   simp only[slotOf]
   clear hlk
   by_cases h1:flags=1
   ·subst h1
    go_wp2_with fail
    refine(kA 17 _ (by decide) (by decide)).mono ?_
    rintro e w3 ⟨rfl,rfl⟩
    go_wp2_with fail
    go_returns
    exact jJ HT.out HAL.out (by simp only[rput,yC,HX.out];rw[if_neg HVAL.out,if_neg (show ¬ (2:Int) < _ by have:=HFL.out;omega)];simp only[HLK.out,if_true])
   ·have d3:(flags == 1)=false:=by simpa using h1
    have H1:=η h1
    clear h1
    have hput:rput (yC S) j ks vs flags=((pH (zV S.L) (zS j n) vs vs.length,(yC S).2),0,0):=by
     simp only[rput,yC,HX.out]
     rw[if_neg HVAL.out,if_neg (show ¬ (2:Int) < _ by have:=HFL.out;omega)]
     simp only[HLK.out]
     rw[if_neg H1.out]
    have HPUT:=η hput
    clear hput
    go_wp2_with fail
    refine(rtab_fill base tb S j n _ vs _ (HT.out.ext HAL.out) (by omega) (by omega) (HV.out.ext HAL.out) HU.out (η fun w' k=>HST.out w' ((Keep.of_ext HAL.out).trans (k.mono fun q hq=>.inl (kG tb S q hq))))).mono ?_
    rintro e w3 ⟨rfl,hk3,L',hT3,hv3,hf3⟩
    have HT3:=η hT3
    have HV3:=η hv3
    have HF3:=η hf3
    have HK3:Hid (Keep (zH tb S) w1 w3):=η ((Keep.of_ext HAL.out).trans (hk3.mono fun q hq=>.inl (kG tb S q hq)))
    clear hk3 hT3 hv3 hf3
    go_wp2_with fail
    go_returns
    exact⟨by rw[HPUT.out];rfl,HK3.out,_,HT3.out,by rw[HPUT.out];simp only[yC,HV3.out],fun q hq=>.inl (by simp only[zH,HF3.out]at hq;exact hq),rfl⟩
  | none =>
   have HLK:=η hlk
   clear hlk
   simp only[slotOf]
   cases hh:x.T.hash with
   | false =>
    have HH:=η hh
    rw[hh]at c0 HAL
    clear hh
    go_wp2_with fail
    refine(kA 7 _ (by decide) (by decide)).mono ?_
    rintro e w3 ⟨rfl,rfl⟩
    go_wp2_with fail
    go_returns
    exact jJ HT.out HAL.out (by simp only[rput,yC,HX.out];rw[if_neg HVAL.out,if_neg (show ¬ (2:Int) < _ by have:=HFL.out;omega)];simp only[HLK.out,HH.out,if_true])
   | true =>
    have HH:=η hh
    rw[hh]at c0 HAL
    clear hh
    by_cases h2:flags=2
    ·subst h2
     go_wp2_with fail
     refine(kA 2 _ (by decide) (by decide)).mono ?_
     rintro e w3 ⟨rfl,rfl⟩
     go_wp2_with fail
     go_returns
     exact jJ HT.out HAL.out (by simp only[rput,yC,HX.out];rw[if_neg HVAL.out,if_neg (show ¬ (2:Int) < _ by have:=HFL.out;omega)];simp only[HLK.out,HH.out,Bool.true_eq_false,if_false,if_true])
    ·have d3:(flags == 2)=false:=by simpa using h2
     have H2:=η h2
     clear h2
     by_cases hfull:x.T.max≤(ln:Int)
     ·have HFULL:Hid (x.T.max≤(x.T.slots.length:Int)):=η (by have:=HSL.out;omega)
      go_wp2_with fail
      refine(kA 7 _ (by decide) (by decide)).mono ?_
      rintro e w3 ⟨rfl,rfl⟩
      go_wp2_with fail
      go_returns
      exact jJ HT.out HAL.out (by simp only[rput,yC,HX.out];rw[if_neg HVAL.out,if_neg (show ¬ (2:Int) < _ by have:=HFL.out;omega)];simp only[HLK.out,HH.out,Bool.true_eq_false,if_false];rw[if_neg H2.out,if_pos HFULL.out])
     ·have HFULL:Hid (¬ x.T.max≤(x.T.slots.length:Int)):=η (by have:=HSL.out;omega)
      have d4:decide (x.T.max≤(ln:Int))=false:=by simpa using hfull
      clear hfull
      by_cases hmd:1024≤(x.T.made:Int)
      ·have HMADE:Hid (1024≤x.T.made):=η (by omega)
       go_wp2_with fail
       refine(kA 12 _ (by decide) (by decide)).mono ?_
       rintro e w3 ⟨rfl,rfl⟩
       go_wp2_with fail
       go_returns
       exact jJ HT.out HAL.out (by simp only[rput,yC,HX.out];rw[if_neg HVAL.out,if_neg (show ¬ (2:Int) < _ by have:=HFL.out;omega)];simp only[HLK.out,HH.out,Bool.true_eq_false,if_false];rw[if_neg H2.out,if_neg (show ¬ x.T.max≤(x.T.slots.length:Int) by have:=HFULL.out;omega),if_pos HMADE.out])
      ·have HMADE:Hid (¬ 1024≤x.T.made):=η (by omega)
       have hput:rput (yC S) j ks vs flags=if (yG (zV S.L) (zS j x.T.made) vs false false).2=0 then (((yG (zV S.L) (zS j x.T.made) vs false false).1,(S.R.map (·.T)).set j (addR x.T (strOfNums ks))),0,0) else (yC S,18446744073709551604,0):=by
        simp only[rput,yC,HX.out]
        rw[if_neg HVAL.out,if_neg (show ¬ (2:Int) < _ by have:=HFL.out;omega)]
        simp only[HLK.out,HH.out,Bool.true_eq_false,if_false]
        rw[if_neg H2.out,if_neg (show ¬ x.T.max≤(x.T.slots.length:Int) by have:=HFULL.out;omega),if_neg (show ¬ 1024≤x.T.made by have:=HMADE.out;omega),Int.toNat_natCast]
        rfl
       have HPUT:=η hput
       have d5:decide (1024≤(x.T.made:Int))=false:=by simpa using hmd
       clear hput hmd
       go_wp2_with fail
       have hobj:=zD w2 (.cells #[.bool true,.int .i64 x.T.key,.int .i64 x.T.val,.int .i64 x.T.max,.slice la ln lc,.int .i64 (x.T.made:Nat)] 126) rfl
       have hE2:Ext w2 (w2.alloc (.cells #[.bool true,.int .i64 x.T.key,.int .i64 x.T.val,.int .i64 x.T.max,.slice la ln lc,.int .i64 (x.T.made:Nat)] 126)):=(Ext.rfl' _).alloc' _
       have hXlt:w2.heap.size < (w2.alloc (.cells #[.bool true,.int .i64 x.T.key,.int .i64 x.T.val,.int .i64 x.T.max,.slice la ln lc,.int .i64 (x.T.made:Nat)] 126)).heap.size:=by simp
       have hXf:∀ q∈zH tb S,q < w2.heap.size:=fun q hq=>(HT2.out.lt q hq).2
       generalize w2.alloc (.cells #[.bool true,.int .i64 x.T.key,.int .i64 x.T.val,.int .i64 x.T.max,.slice la ln lc,.int .i64 (x.T.made:Nat)] 126)=wA at *
       generalize hXX:w2.heap.size=X at *
       have HTA:=η (HT.out.ext HAL.out)
       have x5:wA.cell? ⟨X,5,none⟩=some (.int .i64 (x.T.made:Nat)):=cO hobj
       have cb:=cO (i:=0) HTA.out.head
       simp only[List.getElem?_toArray,List.getElem?_cons_zero]at cb
       have HS:Hid (∀ w5:World,Keep (yA S.rb S.lv S.L) wA w5→w5.heap[X]?=some (.cells #[.bool true,.int .i64 x.T.key,.int .i64 x.T.val,.int .i64 x.T.max,.slice la ln lc,.int .i64 (x.T.made:Nat)] 126 (0,0))):=η fun w5 k =>
        k.obj hobj (fun hj=>by have:=hXf X (kG tb S X hj);omega)
       have hm16:x.T.made≤1024:=HMD.out.1
       have hWb:base≤wA.heap.size:=Nat.le_trans hbase HAL.out.size
       clear hobj hXX c0 c1 c2 c3 c4 c5 hb1
       go_region_held3 (fun w'=>w'.cell? ⟨tb,0,none⟩=some (.pointer (some ⟨S.rb,0,none⟩))∧w'.cell? ⟨X,5,none⟩=some (.int .i64 (x.T.made:Nat)))
        (first|exact⟨cb,x5⟩|exact s5)
        ((first
         | (go_at_call 63;refine(pT j x.T.made _ (by omega) (by omega) (by omega) (by omega)).mono ?_;rintro e w4 ⟨rfl,rfl⟩)
         | (go_at_call 33;refine(ref_make base S.rb S.lv S.L (zS j x.T.made) _ vs false false _ (HTA.out.mem.ext (by (repeat (first|exact xE0 _|assumption|refine xE1 ?_ _|refine xE2 ?_|refine xE3 ?_ _|refine xE4 ?_ (by assumption))))) (by simp;exact hWb) (HV.out.ext (HAL.out.trans' (by (repeat (first|exact xE0 _|assumption|refine xE1 ?_ _|refine xE2 ?_|refine xE3 ?_ _|refine xE4 ?_ (by assumption)))))) HU.out).mono ?_;rintro e w5 ⟨rfl,hk5,lv5,L5,hm5,hv5,hf5⟩;have hk5':Keep (yA S.rb S.lv S.L) wA w5:=⟨hk5.os,hk5.tape,hk5.output,hk5.size,hk5.block⟩;have HK5:=η hk5';have hst:=HTA.out.memStep hk5' hm5 (by simpa using hf5);have s5:=(show _∧_ from ⟨cO (i:=0) hst.1.head,cO (i:=5) (HS.out w5 hk5')⟩);have HT5:=η hst.1;have HF5:=η hst.2;have HV5:=η hv5;clear hk5 hm5 hv5 hf5 hk5' hst)))
       all_goals
        have HKW:Hid (Keep (zH tb S) w1 w5):=η ((Keep.of_ext HAL.out).trans (HK5.out.mono fun q hq=>.inl (kG tb S q hq)))
        have HFW:Hid (∀ q∈zH tb {S with lv:=lv5,L:=L5},q∈zH tb S∨w1.heap.size≤q):=η fun q hq=>(HF5.out q hq).imp id (fun h=>Nat.le_trans HAL.out.size h)
        by_cases hmk:(yG (zV S.L) (zS j x.T.made) vs false false).2=0
        case neg =>
         have HMK:=η hmk
         have HV0:=η (mmake_err hmk)
         have d6:((yG (zV S.L) (zS j x.T.made) vs false false).2 != 0)=true:=by simpa using hmk
         clear hmk
         go_wp2_with fail
         refine(kA 12 _ (by decide) (by decide)).mono ?_
         rintro e w6 ⟨rfl,rfl⟩
         go_wp2_with fail
         go_returns
         exact⟨by rw[HPUT.out,if_neg HMK.out];rfl,HKW.out,_,HT5.out,by rw[HPUT.out,if_neg HMK.out];simp only[yC,HV5.out,HV0.out],HFW.out,rfl⟩
        have HMK:=η hmk
        have d6:((yG (zV S.L) (zS j x.T.made) vs false false).2 != 0)=false:=by simpa using hmk
        have hX5:=HS.out w5 HK5.out
        have HX5:=η hX5
        have RK:=η ((HT5.out.keys x HM.out).rd xQ)
        rw[HLV.out]at RK
        have HKY:=η (HKT.out w5 HKW.out)
        have hXl:X < w5.heap.size:=zE hX5
        obtain⟨T,hT⟩:∃ T,(x.T.slots.takeWhile (ltK (strOfNums ks))).length=T:=⟨_,rfl⟩
        have HTW:=η hT
        have HTL:Hid (T≤ln):=η (by have:=(tw_take (ltK (strOfNums ks)) x.T.slots).2.2;have:=HSL.out;omega)
        have HB1:Hid (∀ u,Ext w5 u→u.cell? ⟨X,4,none⟩=some (.slice la ln lc)∧u.cell? ⟨X,5,none⟩=some (.int .i64 (x.T.made:Nat))):=η fun u k=>⟨cO (k.obj hX5),cO (k.obj hX5)⟩
        clear hmk s5 hX5 hT cb x5
        go_wp2_with fail
        go_loopw [15] (fun q wr=>∃ (k:Nat),k≤T∧q=.int .i64 k∧Ext w5 wr) (fun q _=>T - (intOf q).toNat)
        case atStart=>exact⟨0,Nat.zero_le _,rfl,Ext.rfl' _⟩
        case round =>
         obtain⟨k,hk,rfl,hwr⟩:=hrel
         obtain⟨y4,y5⟩:=HB1.out _ hwr
         have hTl:=HTL.out
         go_upto_region 24 with fail
         go_cut [124] (fun v wx=>v=.bool (decide (k < T))∧Ext w5 wx)
         case first =>
          have hst:=(tw_take (ltK (strOfNums ks)) x.T.slots).2.2
          by_cases hkl:(k:Int) < ln
          ·obtain⟨p,hp⟩:=zK (xs:=x.T.slots) (k:=k) (by have:=HSL.out;omega)
           have iy:=fun W=>RK.out.run_at (P:=Tryz.prog) el_rk.under el_rk.size .i64 (k:Int) (by omega) (by omega) W
           simp only[Int.toNat_natCast]at iy
           obtain⟨z0,z1⟩:=ks_cells (RK.out.ext hwr) hp
           have st:=fun n=>((HKY.out.ext hwr).ext ((Ext.rfl' _).drewN' n)).run_str (P:=Tryz.prog) Tryz.underlying23 Tryz.underlying5 Tryz.underlying9
           have hb:Op.bytesLess p.1.toList (strOfNums ks).toList=decide (k < T):=by
            by_cases hkT:k < T
            ·rw[decide_eq_true hkT]
             exact tw_lt (ltK (strOfNums ks)) _ k p (by rw[HTW.out];exact hkT) hp
            ·have e:k=T:=by omega
             rw[decide_eq_false hkT]
             exact tw_at (ltK (strOfNums ks)) _ p (by rw[HTW.out,← e];exact hp)
           clear hp hst
           obtain⟨bb,hbb⟩:∃ bb,decide (k < T)=bb:=⟨_,rfl⟩
           rw[hbb]at hb
           have HBB:=η hbb
           clear hbb
           generalize strOfNums ks=sk at *
           go_quiet (fail)
           go_wp2_with fail
           go_meet
           exact⟨by rw[HBB.out],hwr.drewN' _⟩
          ·have e:k=T:=by omega
           have HD:Hid (decide (k < T)=false):=η (by simp;omega)
           clear e hst
           go_quiet (fail)
           go_wp2_with fail
           go_meet
           exact⟨by rw[HD.out],hwr.drewN' _⟩
         case rest =>
          obtain⟨rfl,hx5⟩:=hcut
          by_cases hlt:k < T
          ·have hd:decide (k < T)=true:=by simpa using hlt
           rw[hd]
           clear hd
           go_wp2_with fail
           go_roundw
           case rel=>exact⟨k+1,by omega,by go_num,hx5⟩
           case measure=>simp[intOf];omega
          ·have hd:decide (k < T)=false:=by simpa using hlt
           rw[hd]
           clear hd
           obtain rfl:T=k:=by omega
           clear hlt
           have hl1000:=HLB.out x HM.out
           obtain⟨y4,y5⟩:=HB1.out _ hx5
           have y4':∀ o,(wc.alloc o).cell? ⟨X,4,none⟩=some (.slice la ln lc):=fun o=>((Ext.rfl' wc).alloc' o).cellOf y4
           have ct1:=fun W=>RK.out.run_cut_l (P:=Tryz.prog) el_rk.under el_rk.size .i64 (T:Int) (by omega) (by omega) W
           have rc1:=RK.out.cut (l:=T) (m:=ln) hTl (by have:=HSL.out;omega)
           simp only[Int.toNat_natCast]at ct1
           obtain⟨a1,n1,c1',hcv1,hn1,HN1⟩:=rc1.val
           rw[hcv1]at ct1 rc1
           have hrest:(x.T.slots.drop T).take (ln - T)=x.T.slots.dropWhile (ltK (strOfNums ks)):=by
            rw[List.take_of_length_le (by simp;have:=HSL.out;omega),← HTW.out]
            exact(tw_take _ _).2.1
           rw[hrest]at rc1
           have hr1000:(x.T.slots.dropWhile (ltK (strOfNums ks))).length≤1000:=by rw[← hrest];simp;have:=HSL.out;omega
           have RC1:=η rc1
           have HX5':=η hx5
           clear hcv1 rc1 hrest
           generalize hR:x.T.slots.dropWhile (ltK (strOfNums ks))=R2 at *
           have HR2:=η hR
           clear hR
           generalize wc=w6 at *
           go_wp2_with (at_builtin;refine xM el_rk xQ rfl _ _ rfl rfl (Own.made w6 w6.heap.size 129 2 qH (b:=w6.heap.size) rfl (Nat.le_refl _)) rfl (ys:=R2) ?r2 ?r3 ?r4 ?r5)
           case r2=>exact RC1.out.ext (HX5'.out.alloc' _)
           case r3=>first|omega|(simp;omega)
           case r4=>simp
           intro v7 w7 hown7 hg7 hb7
           have hE7:Ext w6 w7:=hb7 _ _ (by (repeat (first|exact xE0 _|assumption|refine xE1 ?_ _|refine xE2 ?_|refine xE3 ?_ _|refine xE4 ?_ (by assumption)))) (Nat.le_refl _)
           have HO7:=η hown7
           have HE7:Hid (Ext w5 w7):=η (HX5'.out.trans' hE7)
           clear hown7 hg7 hb7 y4 y4' y5 ct1
           obtain⟨y4,y5⟩:=HB1.out _ HE7.out
           have ct2:=fun W=>RK.out.run_cut_h (P:=Tryz.prog) el_rk.under el_rk.size .i64 (T:Int) (by omega) (by omega) W
           have rc2:=RK.out.cut (l:=0) (m:=T) (Nat.zero_le _) (by have:=HSL.out;omega)
           simp only[Int.toNat_natCast]at ct2
           obtain⟨a2,n2,c2',hcv2,hn2,HN2⟩:=rc2.val
           rw[hcv2]at ct2 rc2
           have htake:(x.T.slots.drop 0).take (T - 0)=x.T.slots.takeWhile (ltK (strOfNums ks)):=by
            rw[List.drop_zero,Nat.sub_zero,← HTW.out]
            exact(tw_take _ _).1
           rw[htake]at rc2
           have ht1000:(x.T.slots.takeWhile (ltK (strOfNums ks))).length≤1000:=by rw[HTW.out];have:=HSL.out;omega
           have RC2:=η rc2
           clear hcv2 rc2 htake hE7
           generalize hR:x.T.slots.takeWhile (ltK (strOfNums ks))=R1 at *
           have HR1:=η hR
           have st7:=(HKY.out.ext HE7.out).run_str (P:=Tryz.prog) Tryz.underlying23 Tryz.underlying5 Tryz.underlying9
           have HSK:=η (fun u (k:Ext w5 u)=>(HKY.out.ext k).run_str (P:=Tryz.prog) Tryz.underlying23 Tryz.underlying5 Tryz.underlying9)
           have HS27:Hid (∀ u,Ext w7 u→u.cell? ⟨X,4,none⟩=some (.slice la ln lc)∧u.cell? ⟨X,5,none⟩=some (.int .i64 (x.T.made:Nat))∧(convert 23 9 (.slice ka kn kc)).run Tryz.prog u=.ok (.string (strOfNums ks)) u):=η fun u k =>
            ⟨(HB1.out u (HE7.out.trans' k)).1,(HB1.out u (HE7.out.trans' k)).2,HSK.out u (HE7.out.trans' k)⟩
           have HBW:Hid (base≤w7.heap.size):=η (by have:=HE7.out.size;have:=HK5.out.size;omega)
           clear hR st7
           generalize hsk:strOfNums ks=sk at *
           have HSKK:=η hsk
           clear hsk
           go_wp2_with fail
           go_upto_region 27 with fail
           go_cut [17] (fun v17 wx=>Ext w7 wx∧Hid (Own wx w7.heap.size 129 2 qH v17 (R1++[(sk,x.T.made)])))
           case first =>
            go_region_held3 (fun w'=>w'.cell? ⟨X,4,none⟩=some (.slice la ln lc)∧w'.cell? ⟨X,5,none⟩=some (.int .i64 (x.T.made:Nat))∧(convert 23 9 (.slice ka kn kc)).run Tryz.prog w'=.ok (.string sk) w')
             ((refine HS27.out _ ?_;(repeat (first|exact xE0 _|assumption|refine xE1 ?_ _|refine xE2 ?_|refine xE3 ?_ _|refine xE4 ?_ (by assumption)))))
             (first
              | (apply app_step el_rk xQ (xs:=[]) (ys:=R1) (base:=w7.heap.size);(case hw=>rfl);(case ho=>rfl);(case hs=>rfl);(case hown=>(first|exact Own.drew (Own.made w7 w7.heap.size _ _ _ rfl (Nat.le_refl _))|exact Own.drew ((Own.made w7 w7.heap.size _ _ _ rfl (Nat.le_refl _)).alloc _)|exact Own.drew (Own.made (w7.alloc _) w7.heap.size _ _ _ (by simp) (by simp))));(case hx=>rfl);(case hy=>exact RC2.out.ext (Ext.trans' HE7.out (by (repeat (first|exact xE0 _|assumption|refine xE1 ?_ _|refine xE2 ?_|refine xE3 ?_ _|refine xE4 ?_ (by assumption))))));(case hbytes=>simp;omega);(case hbase=>simp<;>omega);intro v8 w8 hown8 hg8 hb8;(first|have L8:=lit_keep1 hg8|have L8:=lit_keep2 hg8|skip);have h8:Ext w7 w8:=hb8 _ _ (show Ext w7 _ by (repeat (first|exact xE0 _|assumption|refine xE1 ?_ _|refine xE2 ?_|refine xE3 ?_ _|refine xE4 ?_ (by assumption)))) (Nat.le_refl _);have O8:=η hown8;clear hown8 hg8 hb8)
              | (apply app_step el_rk xQ (xs:=R1) (ys:=[(sk,x.T.made)]) (base:=w7.heap.size);(case hw=>rfl);(case ho=>rfl);(case hs=>rfl);(case hown=>(first|exact O8.out|exact O8.out.alloc _));(case hx=>rfl);(case hy=>(first|exact L8|exact key_lit w8 sk x.T.made _ rfl));(case hbytes=>simp;omega);(case hbase=>have:=h8.size;simp<;>omega);intro v9 w9 hown9 hg9 hb9;have h9:Ext w7 w9:=hb9 _ _ (show Ext w7 _ by (repeat (first|exact xE0 _|assumption|refine xE1 ?_ _|refine xE2 ?_|refine xE3 ?_ _|refine xE4 ?_ (by assumption)))) (Nat.le_refl _);have O9:=η hown9;clear hown9 hg9 hb9))
            all_goals
             go_wp2_with fail
             go_meet
             exact⟨h9,O9⟩
           case rest =>
            obtain⟨h9,O9⟩:=hcut
            obtain⟨a9,n9,c9,rfl,hn9,HN9⟩:=(O9.out.rd xQ).val
            have he9:Ext w5 wc:=HE7.out.trans' h9
            have HE9:=η he9
            generalize wc=w9 at *
            have hb1:=cO (i:=1) (HT5.out.ext he9).head
            simp only[gA,gB,gC]at hb1
            rw[HMV.out]at hb1
            have hnew:(R1++[(sk,x.T.made)]).length≤1001:=by simp;omega
            obtain⟨a7,n7,c7,hv7,hn7,HN7⟩:=(HO7.out.rd xQ).val
            subst hv7
            clear y4 y5 ct2
            go_wp2_with fail
            have HSB:Hid (∀ u,Ext w5 u→u.cell? ⟨tb,1,none⟩=some (.slice ma mn mc)):=η fun u k=>by
             have hb:=cO (i:=1) (HT5.out.ext k).head
             simp only[gA,gB,gC]at hb
             rw[HMV.out]at hb
             exact hb
            go_region_held3 (fun w'=>w'.cell? ⟨tb,1,none⟩=some (.slice ma mn mc))
             (first|exact hb1|exact hb1x|exact hb1y _)
             ((apply app_step el_rk xQ (xs:=R1++[(sk,x.T.made)]) (ys:=R2) (base:=w7.heap.size);(case hw=>rfl);(case ho=>rfl);(case hs=>rfl);(case hown=>exact O9.out);(case hx=>rfl);(case hy=>exact(HO7.out.rd xQ).ext (h9.trans' (by (repeat (first|exact xE0 _|assumption|refine xE1 ?_ _|refine xE2 ?_|refine xE3 ?_ _|refine xE4 ?_ (by assumption))))));(case hbytes=>omega);(case hbase=>exact h9.size);intro v10 w10 hown10 hg10 hb10;have h10:Ext w7 w10:=hb10 _ _ (h9.trans' (by (repeat (first|exact xE0 _|assumption|refine xE1 ?_ _|refine xE2 ?_|refine xE3 ?_ _|refine xE4 ?_ (by assumption))))) (Nat.le_refl _);have he10:Ext w5 w10:=HE7.out.trans' h10;obtain⟨a10,n10,c10,rfl,hn10,HN10⟩:=(hown10.rd xQ).val;have O10:=η hown10;have HE10:=η he10;have H10:=η h10;have hb1x:=cO (i:=1) (HT5.out.ext he10).head;simp only[gA,gB,gC]at hb1x;rw[HMV.out]at hb1x;obtain⟨p1,p2,p3,p4,p5⟩:=rm_field (HT5.out.ext he10).maps HXI.out 4 (by decide) (by decide);rw[HMV.out]at p1 p2 p3 p4;rw[show (RM.enc x)[4]?=some x.lv from rfl,HLV.out]at p1;have hb1y:∀ u,(w10.setCell ⟨(elt (.slice ma mn mc) (j * 6)).block,(elt (.slice ma mn mc) (j * 6)).off+4,none⟩ u).cell? ⟨tb,1,none⟩=some (.slice ma mn mc):=(fun u=>(cell?_setCell_ne_block _ _ _ _ (mv_ne HT5.out (by rw[HMV.out];exact p3))).trans hb1x);have P3:=η p3;have P4:=η p4;clear hown10 hg10 hb10 p5 p3 p4))
            all_goals
             have hW28:Keep S.mv.ownBlock.toList w5 (w10.setCell ⟨(elt (.slice ma mn mc) (j * 6)).block,(elt (.slice ma mn mc) (j * 6)).off+4,none⟩ (.slice a10 n10 c10)):=(Keep.of_ext HE10.out).setCell (by rw[HMV.out,P3.out];simp) _
             obtain⟨-,-,-,-,p5⟩:=rm_field (HT5.out.ext HE10.out).maps HXI.out 4 (by decide) (by decide)
             have hmaps:=p5 ⟨a10,c10,{x.T with slots:=R1++[(sk,x.T.made)]++R2}⟩ (.slice a10 n10 c10) (by simp only[RM.enc,RM.lv];rw[HN10.out];rfl)
             rw[HMV.out]at hmaps
             have hkeys:Own (w10.setCell ⟨(elt (.slice ma mn mc) (j * 6)).block,(elt (.slice ma mn mc) (j * 6)).off+4,none⟩ (.slice a10 n10 c10)) w7.heap.size 129 2 qH (.slice a10 n10 c10) (R1++[(sk,x.T.made)]++R2):=O10.out.other (by
              have h1:(elt (.slice ma mn mc) (j * 6)).block < w5.heap.size:=(HT5.out.maps.lt (by rw[HMV.out];exact P3.out)).2
              have:=HE7.out.size
              show (elt (.slice ma mn mc) (j * 6)).block < _
              omega) _
             have hlv:RM.lv ⟨a10,c10,{x.T with slots:=R1++[(sk,x.T.made)]++R2}⟩=.slice a10 n10 c10:=by simp only[RM.lv];rw[HN10.out]
             have hbnd:∀ p∈R1++[(sk,x.T.made)]++R2,p.2≤1024:=fun p hp=>by
              rw[List.mem_append,List.mem_append,List.mem_singleton]at hp
              rcases hp with (hp|rfl)|hp
              ·exact HMD.out.2 p ((List.takeWhile_sublist _).subset (HR1.out ▸ hp))
              ·exact HMD.out.1
              ·exact HMD.out.2 p ((List.dropWhile_sublist _).subset (HR2.out ▸ hp))
             have h28:=HT5.out.set (y:=⟨a10,c10,{x.T with slots:=R1++[(sk,x.T.made)]++R2}⟩) HXI.out hW28 (by rw[HMV.out];exact hmaps) (by rw[hlv];exact hkeys.mono HBW.out) (fun q hq=>.inr (by
              rw[hlv]at hq
              have:=(hkeys.lt hq).1
              have:=HE7.out.size
              omega)) ⟨HMD.out.1,hbnd⟩
             have HT28:=η h28.1
             have HF28:=η h28.2
             have HK28:=η hW28
             have HLV28:=η hlv
             have HBND:=η hbnd
             have HKEYS:=η hkeys
             clear h28 hW28 hlv p5 hmaps hkeys hbnd hb1x p1 p2 hb1 hb1y
             generalize w10.setCell ⟨(elt (.slice ma mn mc) (j * 6)).block,(elt (.slice ma mn mc) (j * 6)).off+4,none⟩ (.slice a10 n10 c10)=w28 at *
             have hb1:=cO (i:=1) HT28.out.head
             simp only[gA,gB,gC]at hb1
             rw[HMV.out]at hb1
             have hget:(S.R.set j ⟨a10,c10,{x.T with slots:=R1++[(sk,x.T.made)]++R2}⟩)[j]?=some ⟨a10,c10,{x.T with slots:=R1++[(sk,x.T.made)]++R2}⟩:=List.getElem?_set_self hj8
             obtain⟨p1,p2,p3,p4,p5⟩:=rm_field HT28.out.maps hget 5 (by decide) (by decide)
             rw[HMV.out]at p1 p2
             rw[show (RM.enc ⟨a10,c10,{x.T with slots:=R1++[(sk,x.T.made)]++R2}⟩)[5]?=some (.int .i64 (x.T.made:Nat)) from rfl]at p1
             have HGET:=η hget
             have HP5:=η p5
             have hmd1:x.T.made < 1024:=by have:=HMADE.out;omega
             clear hget p3 p4 p5
             go_wp2_with fail
             go_returns
             have p5:=HP5.out ⟨a10,c10,{x.T with slots:=R1++[(sk,x.T.made)]++R2,made:=x.T.made+1}⟩ (.int .i64 ((x.T.made:Int)+1)) (by simp only[RM.enc,RM.lv];simp)
             have hk29:Keep S.mv.ownBlock.toList w28 (w28.setCell ⟨(elt S.mv (j * 6)).block,(elt S.mv (j * 6)).off+5,none⟩ (.int .i64 ((x.T.made:Int)+1))):=(Keep.rfl' _ _).setCell (by rw[HMV.out,P3.out];simp) _
             have hlv2:RM.lv ⟨a10,c10,{x.T with slots:=R1++[(sk,x.T.made)]++R2,made:=x.T.made+1}⟩=.slice a10 n10 c10:=HLV28.out
             have hkeys2:=HKEYS.out.other (a:=⟨(elt S.mv (j * 6)).block,(elt S.mv (j * 6)).off+5,none⟩) (by
              have h1:(elt (.slice ma mn mc) (j * 6)).block < w5.heap.size:=(HT5.out.maps.lt (by rw[HMV.out];exact P3.out)).2
              have:=HE7.out.size
              rw[HMV.out]
              show (elt (.slice ma mn mc) (j * 6)).block < _
              omega) (.int .i64 ((x.T.made:Int)+1))
             have h29:=HT28.out.set (y:=⟨a10,c10,{x.T with slots:=R1++[(sk,x.T.made)]++R2,made:=x.T.made+1}⟩) HGET.out hk29 p5 (by rw[hlv2];exact hkeys2.mono HBW.out) (fun q hq=>.inl (by rw[hlv2]at hq;rw[HLV28.out];exact hq)) ⟨by simp;omega,HBND.out⟩
             have hmvf:∀ q∈S.mv.ownBlock.toList,q∈zH tb S:=fun q hq=>by simp only[zH,List.mem_cons,List.mem_append];exact .inr (.inl hq)
             have hE:elt S.mv (j * 6)=elt (.slice ma mn mc) (j * 6):=by rw[HMV.out]
             rw[hE]at h29 hk29
             have hset:(S.R.set j ⟨a10,c10,{x.T with slots:=R1++[(sk,x.T.made)]++R2}⟩).set j ⟨a10,c10,{x.T with slots:=R1++[(sk,x.T.made)]++R2,made:=x.T.made+1}⟩=S.R.set j ⟨a10,c10,{x.T with slots:=R1++[(sk,x.T.made)]++R2,made:=x.T.made+1}⟩:=List.set_set ..
             refine⟨by rw[HPUT.out,if_pos HMK.out];rfl,?_,_,h29.1,?_,fun q hq=>?_,rfl⟩
             ·exact(HKW.out.trans (HK28.out.mono fun q hq=>.inl (hmvf q hq))).trans (hk29.mono fun q hq=>.inl (hmvf q hq))
             ·rw[HPUT.out,if_pos HMK.out]
              simp only[yC,HV5.out]
              rw[hset,List.map_set,addR,HR1.out,HR2.out]
             ·rcases h29.2 q hq with h|h
              ·rcases HF28.out q h with h|h
               ·exact HFW.out q h
               ·exact .inr (Nat.le_trans HKW.out.size h)
              ·exact .inr (Nat.le_trans HKW.out.size (Nat.le_trans HK28.out.size h))
end Go.Proofs.YtppefchjoodgnaaGreat
