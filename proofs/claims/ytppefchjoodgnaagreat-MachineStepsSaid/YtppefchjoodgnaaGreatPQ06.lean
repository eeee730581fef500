import Derived.Test.YtppefchjoodgnaaGreatPQ05
import Derived.Test.YtppefchjoodgnaaGreatPQ03
set_option linter.unusedSimpArgs false
set_option linter.unusedVariables false
namespace Go.Proofs.YtppefchjoodgnaaGreat
open Go.RowKit
def slotOf (o:Option Nat):Int:=match o with|some s=>(s:Nat)|none=>-1
def RFindT (o:Option Nat)(w:World)(e:Ending)(w':World):Prop:=e=.returned (.int .i64 (slotOf o))∧Ext w w'
theorem lookup_not {L:List (ByteArray×Nat)}{s:ByteArray}(h:∀ (q:Nat) p,L[q]?=some p→p.1≠s):L.lookup s=none:=by
 cases hl:L.lookup s with
 | none=>rfl
 | some v =>
  obtain⟨q,hq⟩:=List.getElem?_of_mem (yZ hl)
  exact absurd rfl (h q _ hq)
theorem lookup_first {L:List (ByteArray×Nat)}{s:ByteArray}{i:Nat}{p:ByteArray×Nat}(hi:L[i]?=some p)(hp:p.1=s)(h:∀ (q:Nat) p,q < i→L[q]?=some p→p.1≠s):L.lookup s=some p.2:=by
 induction L generalizing i with
 | nil=>simp at hi
 | cons y L ih =>
  obtain⟨m,u⟩:=y
  cases i with
  | zero=>simp at hi;subst hi;simp only at hp;subst hp;simp[List.lookup]
  | succ i =>
   have hm:=h 0 (m,u) (by omega) rfl
   simp only[List.lookup,qF (fun e=>hm e.symm:s≠m)]
   exact ih (i:=i) (by simpa using hi) (fun q p hq hp'=>h (q+1) p (by omega) (by simpa using hp'))
set_option maxRecDepth 20000 in
set_option maxHeartbeats 2000000 in
theorem rtab_find (base tb:Nat)(S:RTabs)(i:Nat)(x:RM)(kv:Value)(ks:List Int)(w:World)(h:RTabAt w base tb S)(hk:Sl w .u8 kv ks)(hx:S.R[i]?=some x):
  Calls Tryz.prog 65 #[.pointer (some ⟨tb,0,none⟩),.int .i64 (i:Nat),kv] w (RFindT (x.T.slots.lookup (strOfNums ks)) w):=by
 obtain⟨ka,kn,kc,rfl,hkn,hKN⟩:=hk.val
 have hb1:=cO (i:=1) h.head
 simp only[gA,gB,gC]at hb1
 have RMM:=η (h.maps.rd vB)
 obtain⟨ma,mn,mc,hmv,hmn,hMN⟩:=RMM.out.val
 rw[hmv]at hb1 RMM
 have hlt:i < S.R.length:=(List.getElem?_eq_some_iff.1 hx).1
 have hi1:((i:Nat):Int) < (mn:Int):=by have:=hMN.out;omega
 have RK:=η ((h.keys x (List.mem_of_getElem? hx)).rd xQ)
 obtain⟨la,ln,lc,hlv,hln,hLN⟩:=RK.out.val
 rw[hlv]at RK
 have ix:=fun W=>RMM.out.run_at (P:=Tryz.prog) el_rm.under el_rm.size .i64 (i:Int) (by omega) (by omega) W
 obtain⟨c0,c1,c2,c3,c4,c5⟩:=rm_cells RMM.out hx
 simp only[Int.toNat_natCast]at ix
 rw[hlv]at c4
 have HK:=η hk
 clear hk h hmv hx hlv hlt c0 c1 c2 c3 c5
 go_enter Tryz.func65,Tryz.ntmps65
 go_wp2_with fail
 go_loopw [7] (fun q wr=>∃ (j:Nat),j≤ln∧q=.int .i64 j∧Ext w wr∧Hid (∀ (q:Nat) p,q < j→x.T.slots[q]?=some p→p.1≠strOfNums ks)) (fun q _=>ln - (intOf q).toNat)
 case atStart=>exact⟨0,Nat.zero_le _,rfl,Ext.rfl' _,η (fun q p h=>by omega)⟩
 case round =>
  obtain⟨j,hj,rfl,hwr,HNO⟩:=hrel
  have d1:=hwr.cellOf hb1
  have d4:=hwr.cellOf c4
  by_cases hlt:(j:Int) < ln
  ·obtain⟨p,hp⟩:=zK (xs:=x.T.slots) (k:=j) (by have:=hLN.out;omega)
   have iy:=fun W=>RK.out.run_at (P:=Tryz.prog) el_rk.under el_rk.size .i64 (j:Int) (by omega) (by omega) W
   simp only[Int.toNat_natCast]at iy
   obtain⟨y0,y1⟩:=ks_cells (RK.out.ext hwr) hp
   have st:=fun n=>((HK.out.ext hwr).ext ((Ext.rfl' _).drewN' n)).run_str (P:=Tryz.prog) Tryz.underlying23 Tryz.underlying5 Tryz.underlying9
   have HP:=η hp
   clear hp
   by_cases he:p.1=strOfNums ks
   ·have HRET:Hid (x.T.slots.lookup (strOfNums ks)=some p.2):=η (lookup_first HP.out he HNO.out)
    rw[HRET.out]
    rw[he]at y0
    generalize strOfNums ks=sk at *
    clear he
    go_wp2_with fail
    go_quiet (fail)
    go_wp2_with fail
    go_returns
    exact⟨rfl,hwr.drewN' _⟩
   ·have hb:(p.1.toList == (strOfNums ks).toList)=false:=by rw[← beq_toListBytes];exact qF he
    have HE:=η he
    clear he
    generalize hsk:strOfNums ks=sk at *
    clear hsk
    go_wp2_with fail
    go_quiet (fail)
    go_wp2_with fail
    go_roundw
    case rel=>exact⟨j+1,by omega,by go_num,hwr.drewN' _,η (fun q p' hq hp'=>by
     by_cases e:q=j
     ·subst e;rw[HP.out]at hp';injection hp' with e;subst e;exact HE.out
     ·exact HNO.out q p' (by omega) hp')⟩
    case measure=>simp[intOf];omega
  ·have HRET:Hid (x.T.slots.lookup (strOfNums ks)=none):=η (lookup_not fun q p hp=>HNO.out q p (by have:=(List.getElem?_eq_some_iff.1 hp).1;have:=hLN.out;omega) hp)
   go_wp2_with fail
   go_returns
   exact⟨by rw[HRET.out];rfl,hwr⟩
theorem rpick (S:RTabs)(j:Nat)(t:TM)(h:(S.R.map (·.T))[j]?=some t):∃ x,S.R[j]?=some x∧x.T=t∧x∈S.R:=by
 rw[List.getElem?_map,Option.map_eq_some_iff]at h
 obtain⟨x,hx,rfl⟩:=h
 exact⟨x,hx,rfl,List.mem_of_getElem? hx⟩
def RLookT (S:RTabs)(i:Int)(ks:List Int)(w:World)(e:Ending)(w':World):Prop :=
 e=.returned (.tuple #[.int .u64 (xT (yC S).2 i ks).1,.int .i64 (xT (yC S).2 i ks).2])∧Ext w w'
set_option maxHeartbeats 1000000 in
theorem rtab_look (base tb:Nat)(S:RTabs)(i:Int)(kv:Value)(ks:List Int)(w:World)(h:RTabAt w base tb S)(hk:Sl w .u8 kv ks):
  Calls Tryz.prog 146 #[.pointer (some ⟨tb,0,none⟩),.int .i64 i,kv] w (RLookT S i ks w):=by
 obtain⟨ka,kn,kc,rfl,hkn,hKN⟩:=hk.val
 have HT:=η h
 have HK:=η hk
 clear h hk
 rcases qQ (S.R.map (·.T)) i ks.length with h0|⟨j,t,rfl,hp,hkk⟩
 ·have hr:xT (yC S).2 i ks=(0,1):=by rw[xT,yC,h0]
  have HR:=η hr
  have H0:=η h0
  clear hr h0
  go_enter Tryz.func146,Tryz.ntmps146
  go_wp2_with fail
  refine(uP base tb S i _ ks w HT.out HK.out).mono ?_
  rintro e w1 ⟨rfl,rfl⟩
  rw[H0.out]
  go_wp2_with fail
  go_returns
  exact⟨by rw[HR.out];rfl,Ext.rfl' _⟩
 ·obtain⟨x,hx,hxt,hxm⟩:=rpick S j t hp
  have hf:xE (S.R.map (·.T)) j ks.length=some t:=pW hp hkk
  have hj8:j < S.R.length:=(List.getElem?_eq_some_iff.1 hx).1
  have h8:=HT.out.few
  have hmd:=HT.out.made x hxm
  have HF:=η hf
  have HX:=η hx
  have HXT:=η hxt
  clear hf hx hxt hp hkk
  go_enter Tryz.func146,Tryz.ntmps146
  go_wp2_with fail
  refine(uP base tb S j _ ks w HT.out HK.out).mono ?_
  rintro e w1 ⟨rfl,rfl⟩
  rw[HF.out]
  go_wp2_with fail
  refine(rtab_find base tb S j x _ ks _ HT.out HK.out HX.out).mono ?_
  rintro e w1 ⟨rfl,he1⟩
  cases hl:x.T.slots.lookup (strOfNums ks) with
  | none =>
   have HR:Hid (xT (yC S).2 (j:Int) ks=(0,0)):=η (by rw[xT,yC,HF.out];simp only;rw[← HXT.out,hl])
   simp only[slotOf]
   clear hl hmd
   go_wp2_with fail
   go_returns
   exact⟨by rw[HR.out];rfl,he1⟩
  | some s =>
   have HR:Hid (xT (yC S).2 (j:Int) ks=(mat (zS j s) 0,0)):=η (by rw[xT,yC,HF.out];simp only;rw[← HXT.out,hl])
   have hs:s≤1024:=hmd.2 _ (yZ hl)
   simp only[slotOf]
   clear hl hmd
   go_wp2_with fail
   refine(pT j s w1 (by omega) (by omega) (by omega) (by omega)).mono ?_
   rintro e w2 ⟨rfl,rfl⟩
   go_wp2_with fail
   refine(ref_at (zS j s) 0 _).mono ?_
   rintro e w2 ⟨rfl,rfl⟩
   go_wp2_with fail
   go_returns
   exact⟨by rw[HR.out];rfl,he1⟩
theorem flat_field {α:Type}{sz:Nat}{enc:α→List Value}(E:∀ x,(enc x).length=sz){u:Value}{y:α}{j:Nat}(hj:j < sz):∀ (xs:List α) (i:Nat) (x:α),xs[i]?=some x→enc y=(enc x).set j u→(xs.set i y).flatMap enc=(xs.flatMap enc).set (i * sz+j) u
 | [],i,x,hx,_=>by simp at hx
 | z :: xs,0,x,hx,hy=>by
  simp at hx;subst hx
  rw[List.set_cons_zero,List.flatMap_cons,List.flatMap_cons,hy,List.set_append_left _ _ (by rw[E];omega)]
  simp
 | z :: xs,i+1,x,hx,hy=>by
  rw[List.set_cons_succ,List.flatMap_cons,List.flatMap_cons,flat_field E hj xs i x (by simpa using hx) hy,List.set_append_right _ _ (by rw[E,Nat.add_mul];omega),E]
  congr 2
  rw[Nat.add_mul];omega
theorem Own.field {α:Type}{w:World}{base:Nat}{e:TypeId}{sz:Nat}{enc:α→List Value}(E:Enc sz enc){v:Value}{xs:List α}(h:Own w base e sz enc v xs){i:Nat}{x:α}(hx:xs[i]?=some x){j:Nat}(hj:j < sz):
  w.cell? (elt v (i * sz+j))=(enc x)[j]?∧w.frozen? (elt v (i * sz+j))=false∧v.ownBlock=some (elt v (i * sz+j)).block∧(elt v (i * sz+j)).block < w.heap.size ∧
  ∀ (y:α) (u:Value),enc y=(enc x).set j u→Own (w.setCell (elt v (i * sz+j)) u) base e sz enc v (xs.set i y):=by
 have hlt:i < xs.length:=(List.getElem?_eq_some_iff.1 hx).1
 have hrd:=h.rd E
 have hO:=h
 rcases h.2 with ⟨_,hn⟩|⟨g,cap,cur,rfl,hb,hg,r⟩
 ·omega
 ·have he:elt (.slice (some ⟨g,0,none⟩) xs.length cap) (i * sz+j)=⟨g,i * sz+j,none⟩:=by simp[elt,Addr.add_lit]
  have hjl:j < (enc x).length:=by rw[E.len];exact hj
  have hc:=hrd.cell hx (List.getElem?_eq_getElem hjl)
  refine⟨hc.trans (List.getElem?_eq_getElem hjl).symm,?_,?_,?_,fun y u hy=>?_⟩
  ·rw[he];exact World.ownsRow.frozenAt (h:=hO) (i * sz+j)
  ·rw[he];rfl
  ·rw[he];exact(Array.getElem?_eq_some_iff.1 hg).1
  ·rw[he]
   have h2:=(World.ownsRow.stored (h:=hO) (i * sz+j) u).1
   show World.ownsRow _ _ _ _ _ _ _
   rw[flat_field E.len hj xs i x hx hy,List.length_set]
   exact h2
theorem kG (tb:Nat)(S:RTabs):∀ j∈yA S.rb S.lv S.L,j∈zH tb S:=fun j hj=>by simp only[zH,List.mem_cons,List.mem_append];exact .inr (.inr (.inr hj))
theorem RTabAt.memStep {w w':World}{base tb:Nat}{S:RTabs}(h:RTabAt w base tb S)(k:Keep (yA S.rb S.lv S.L) w w'){lv':Value}{L':List RR}(hm:RefAt w' base S.rb lv' L')(hf:∀ j∈yA S.rb lv' L',j∈yA S.rb S.lv S.L∨w.heap.size≤j):
  RTabAt w' base tb {S with lv:=lv',L:=L'}∧(∀ j∈zH tb {S with lv:=lv',L:=L'},j∈zH tb S∨w.heap.size≤j):=by
 have n0:=List.nodup_cons.1 h.apart
 have n1:=List.nodup_append.1 n0.2
 have n2:=List.nodup_append.1 n1.2.1
 have ht:tb ∉ yA S.rb S.lv S.L:=fun hj=>n0.1 (List.mem_append_right _ (List.mem_append_right _ hj))
 have hmv:∀ j,S.mv.ownBlock=some j→j ∉ yA S.rb S.lv S.L:=fun j hj hj'=>n1.2.2 j (by simpa using hj) j (List.mem_append_right _ hj') rfl
 have hrec:∀ x∈S.R,∀ j,x.lv.ownBlock=some j→j ∉ yA S.rb S.lv S.L:=fun x hx j hj hj'=>n2.2.2 j (List.mem_flatMap.2 ⟨x,hx,by simpa using hj⟩) j hj' rfl
 have hlt:=h.lt
 refine⟨⟨k.obj h.head ht,h.low,h.maps.keep k hmv,fun x hx=>(h.keys x hx).keep k (hrec x hx),hm,?_,h.few,h.made⟩,?_⟩
 ·have hnew:∀ j∈yA S.rb lv' L',j∈zH tb S→j∈yA S.rb S.lv S.L:=fun j hj hj'=>(hf j hj).elim id (fun hh=>by have:=(hlt j hj').2;omega)
  simp only[zH]
  rw[List.nodup_cons,List.nodup_append]
  refine⟨?_,n1.1,?_,?_⟩
  ·intro hj
   rcases List.mem_append.1 hj with hj|hj
   ·exact n0.1 (List.mem_append_left _ hj)
   ·rcases List.mem_append.1 hj with hj|hj
    ·exact n0.1 (List.mem_append_right _ (List.mem_append_left _ hj))
    ·exact ht (hnew tb hj (by simp[zH]))
  ·rw[List.nodup_append]
   refine⟨n2.1,hm.apart,?_⟩
   intro a ha b hb e
   subst e
   obtain⟨x,hx,hxa⟩:=List.mem_flatMap.1 ha
   exact hrec x hx a (by simpa using hxa) (hnew a hb (by simp only[zH,List.mem_cons,List.mem_append];exact .inr (.inr (.inl ha))))
  ·intro a ha b hb e
   subst e
   rcases List.mem_append.1 hb with hb|hb
   ·exact n1.2.2 a ha a (List.mem_append_left _ hb) rfl
   ·exact hmv a (by simpa using ha) (hnew a hb (by simp only[zH,List.mem_cons,List.mem_append];exact .inr (.inl ha)))
 ·intro j hj
  simp only[zH,List.mem_cons,List.mem_append]at hj ⊢
  rcases hj with hj|hj|hj|hj
  ·exact .inl (.inl hj)
  ·exact .inl (.inr (.inl hj))
  ·exact .inl (.inr (.inr (.inl hj)))
  ·rcases hf j hj with h1|h1
   ·exact .inl (.inr (.inr (.inr h1)))
   ·exact .inr h1
theorem gX (o:Option Nat):o.toList.Nodup:=by cases o<;>simp
theorem RTabAt.set {w w':World}{base tb:Nat}{S:RTabs}{x y:RM}{i:Nat}(h:RTabAt w base tb S)(hx:S.R[i]?=some x)(k:Keep S.mv.ownBlock.toList w w')(hm:Own w' base 126 6 RM.enc S.mv (S.R.set i y))
  (hy:Own w' base 129 2 qH y.lv y.T.slots) (hf:∀ j,y.lv.ownBlock=some j→x.lv.ownBlock=some j∨w.heap.size≤j) (ht:y.T.made≤1024∧∀ p∈y.T.slots,p.2≤1024) :
  RTabAt w' base tb {S with R:=S.R.set i y}∧(∀ j∈zH tb {S with R:=S.R.set i y},j∈zH tb S∨w.heap.size≤j):=by
 have hi:=(List.getElem?_eq_some_iff.1 hx).1
 have hmem:x∈S.R:=List.mem_of_getElem? hx
 have n0:=List.nodup_cons.1 h.apart
 have n1:=List.nodup_append.1 n0.2
 have n2:=List.nodup_append.1 n1.2.1
 have hlt:=h.lt
 have hin:∀ z∈S.R,∀ j,z.lv.ownBlock=some j→j∈S.R.flatMap (fun x=>x.lv.ownBlock.toList):=fun z hz j hj=>List.mem_flatMap.2 ⟨z,hz,by simpa using hj⟩
 have hft:∀ z∈S.R,∀ j,z.lv.ownBlock=some j→j∈zH tb S:=fun z hz j hj=>by simp only[zH,List.mem_cons,List.mem_append];exact .inr (.inr (.inl (hin z hz j hj)))
 -- where the others' keys lie
 have hget:∀ (q:Nat) z,(S.R.set i y)[q]?=some z→(q=i∧z=y)∨(q≠i∧S.R[q]?=some z):=fun q z hz=>by
  rw[List.getElem?_set]at hz
  by_cases e:i=q
  ·subst e;simp[hi]at hz;exact .inl ⟨rfl,hz.symm⟩
  ·rw[if_neg e]at hz;exact .inr ⟨fun h=>e h.symm,hz⟩
 have hmv:∀ z∈S.R,∀ j,z.lv.ownBlock=some j→j ∉ S.mv.ownBlock.toList:=fun z hz j hj hj'=>n1.2.2 j hj' j (List.mem_append_left _ (hin z hz j hj)) rfl
 have hpw:∀ (p q:Nat) (a b:RM) (j:Nat),p≠q→S.R[p]?=some a→S.R[q]?=some b→a.lv.ownBlock=some j→b.lv.ownBlock=some j→False:=fun p q a b j hpq ha hb h1 h2=>by
  have hpw:=(List.pairwise_flatMap.1 n2.1).2
  rw[List.pairwise_iff_getElem]at hpw
  have ap:=List.getElem?_eq_some_iff.1 ha
  have bp:=List.getElem?_eq_some_iff.1 hb
  rcases Nat.lt_or_gt_of_ne hpq with h|h
  ·have:=hpw p q ap.1 bp.1 h
   rw[ap.2,bp.2]at this
   exact this j (by simpa using h1) j (by simpa using h2) rfl
  ·have:=hpw q p bp.1 ap.1 h
   rw[ap.2,bp.2]at this
   exact this j (by simpa using h2) j (by simpa using h1) rfl
 refine⟨⟨k.obj h.head (fun hj=>n0.1 (List.mem_append_left _ hj)),h.low,hm,fun z hz=>?_,h.mem.keep k (fun j hj hj'=>n1.2.2 j hj' j (List.mem_append_right _ hj) rfl),?_,by simpa using h.few,fun z hz=>?_⟩,fun j hj=>?_⟩
 ·obtain⟨q,hq⟩:=List.getElem?_of_mem hz
  rcases hget q z hq with ⟨-,rfl⟩|⟨-,hz'⟩
  ·exact hy
  ·have hzm:=List.mem_of_getElem? hz'
   exact(h.keys z hzm).keep k (hmv z hzm)
 ·-- apart
  have hnew:∀ j,y.lv.ownBlock=some j→j∈zH tb S→x.lv.ownBlock=some j:=fun j hj hj'=>(hf j hj).elim id (fun h=>by have:=(hlt j hj').2;omega)
  have hyin:∀ j∈(S.R.set i y).flatMap (fun x=>x.lv.ownBlock.toList),j∈S.R.flatMap (fun x=>x.lv.ownBlock.toList)∨y.lv.ownBlock=some j:=fun j hj=>by
   obtain⟨z,hz,hzj⟩:=List.mem_flatMap.1 hj
   obtain⟨q,hq⟩:=List.getElem?_of_mem hz
   rcases hget q z hq with ⟨-,rfl⟩|⟨-,hz'⟩
   ·exact .inr (by simpa using hzj)
   ·exact .inl (hin z (List.mem_of_getElem? hz') j (by simpa using hzj))
  simp only[zH]
  rw[List.nodup_cons,List.nodup_append]
  refine⟨?_,n1.1,?_,?_⟩
  ·intro hj
   rcases List.mem_append.1 hj with hj|hj
   ·exact n0.1 (List.mem_append_left _ hj)
   rcases List.mem_append.1 hj with hj|hj
   ·rcases hyin _ hj with hj|hj
    ·exact n0.1 (List.mem_append_right _ (List.mem_append_left _ hj))
    ·have:=hnew tb hj (by simp[zH])
     exact n0.1 (List.mem_append_right _ (List.mem_append_left _ (hin x hmem tb this)))
   ·exact n0.1 (List.mem_append_right _ (List.mem_append_right _ hj))
  ·rw[List.nodup_append]
   refine⟨?_,h.mem.apart,?_⟩
   ·refine List.pairwise_flatMap.2 ⟨fun z hz=>gX _,?_⟩
    rw[List.pairwise_iff_getElem]
    intro p q hp hq hpq a ha b hb e
    subst e
    have e1:=hget p _ (List.getElem?_eq_getElem hp)
    have e2:=hget q _ (List.getElem?_eq_getElem hq)
    have ha':((S.R.set i y)[p]).lv.ownBlock=some a:=by simpa using ha
    have hb':((S.R.set i y)[q]).lv.ownBlock=some a:=by simpa using hb
    rcases e1 with ⟨p1,p2⟩|⟨p1,p2⟩<;>rcases e2 with ⟨q1,q2⟩|⟨q1,q2⟩
    ·omega
    ·rw[p2]at ha'
     exact hpw i q x _ a (fun e=>q1 e.symm) hx q2 (hnew a ha' (hft _ (List.mem_of_getElem? q2) a hb')) hb'
    ·rw[q2]at hb'
     exact hpw i p x _ a (fun e=>p1 e.symm) hx p2 (hnew a hb' (hft _ (List.mem_of_getElem? p2) a ha')) ha'
    ·exact hpw p q _ _ a (by omega) p2 q2 ha' hb'
   ·intro a ha b hb e
    subst e
    rcases hyin a ha with ha|ha
    ·exact n2.2.2 a ha a hb rfl
    ·exact n2.2.2 a (hin x hmem a (hnew a ha (kG tb S a hb))) a hb rfl
  ·intro a ha b hb e
   subst e
   rcases List.mem_append.1 hb with hb|hb
   ·rcases hyin a hb with hb|hb
    ·exact n1.2.2 a ha a (List.mem_append_left _ hb) rfl
    ·exact n1.2.2 a ha a (List.mem_append_left _ (hin x hmem a (hnew a hb (by simp only[zH,List.mem_cons,List.mem_append];exact .inr (.inl ha))))) rfl
   ·exact n1.2.2 a ha a (List.mem_append_right _ hb) rfl
 ·obtain⟨q,hq⟩:=List.getElem?_of_mem hz
  rcases hget q z hq with ⟨-,rfl⟩|⟨-,hz'⟩
  ·exact ht
  ·exact h.made z (List.mem_of_getElem? hz')
 ·simp only[zH,List.mem_cons,List.mem_append]at hj ⊢
  rcases hj with hj|hj|hj|hj
  ·exact .inl (.inl hj)
  ·exact .inl (.inr (.inl hj))
  ·obtain⟨z,hz,hzj⟩:=List.mem_flatMap.1 hj
   have hzj':z.lv.ownBlock=some j:=by simpa using hzj
   obtain⟨q,hq⟩:=List.getElem?_of_mem hz
   rcases hget q z hq with ⟨-,rfl⟩|⟨-,hz'⟩
   ·rcases hf j hzj' with h1|h1
    ·exact .inl (.inr (.inr (.inl (hin x hmem j h1))))
    ·exact .inr h1
   ·exact .inl (.inr (.inr (.inl (hin z (List.mem_of_getElem? hz') j hzj'))))
  ·exact .inl (.inr (.inr (.inr hj)))
def RFillT (base tb:Nat)(S:RTabs)(a:Int)(vs:List Int)(w:World)(e:Ending)(w':World):Prop :=
 e=.returned (.tuple #[])∧Keep (yA S.rb S.lv S.L) w w'∧∃ L',RTabAt w' base tb {S with L:=L'}∧zV L'=pH (zV S.L) a vs vs.length∧yA S.rb S.lv L'=yA S.rb S.lv S.L
set_option maxRecDepth 20000 in
set_option maxHeartbeats 2000000 in
theorem rtab_fill (base tb:Nat)(S:RTabs)(i n:Nat)(vv:Value)(vs:List Int)(w:World)(h:RTabAt w base tb S)(hi:i≤16)(hn:n≤2048)(hv:Sl w .u8 vv vs)(hu:∀ q∈vs,0≤q∧q≤255)(HST:Hid (∀ w',Keep (yA S.rb S.lv S.L) w w'→Sl w' .u8 vv vs)):
  Calls Tryz.prog 67 #[.pointer (some ⟨tb,0,none⟩),.int .i64 (i:Nat),.int .i64 (n:Nat),vv] w (RFillT base tb S (zS i n) vs w):=by
 obtain⟨va,vn,vc,rfl,hvn,hVN⟩:=hv.val
 have HT:=η h
 have HV:=η hv
 have HU:=η hu
 clear h hv hu
 go_enter Tryz.func67,Tryz.ntmps67
 go_wp2_with fail
 go_loopw [8] (fun t wr=>∃ (j:Nat) (Lj:List RR),j≤vn∧t=.int .i64 j∧Hid (RTabAt wr base tb {S with L:=Lj})∧Hid (zV Lj=pH (zV S.L) (zS i n) vs j)∧Hid (Keep (yA S.rb S.lv S.L) w wr)∧Hid (yA S.rb S.lv Lj=yA S.rb S.lv S.L)) (fun t _=>vn - (intOf t).toNat)
 case atStart=>exact⟨0,S.L,Nat.zero_le _,rfl,HT,η rfl,η (Keep.rfl' _ _),η rfl⟩
 case round =>
  obtain⟨j,Lj,hj,rfl,HTj,HVj,HKj,HFj⟩:=hrel
  by_cases hlt:(j:Int) < vn
  ·have hsl:=HST.out wr HKj.out
   obtain⟨v,hv⟩:=zK (xs:=vs) (k:=j) (by have:=hVN.out;omega)
   have iv:=fun W=>HV.out.run_at (P:=Tryz.prog) el_u8.under el_u8.size .i64 (j:Int) (by omega) (by omega) W
   have cv:=hsl.cell hv (j:=0) rfl
   simp only[Nat.mul_one,Nat.add_zero,Int.toNat_natCast]at iv cv
   have hvr:=HU.out v (List.mem_of_getElem? hv)
   have hv0:=hvr.1
   have hv1:=hvr.2
   have hwv:IntKind.u64.wrap v=v:=by rw[IntKind.wrap_u64];omega
   have HVD:Hid (vs.getD j 0=v):=η (by rw[List.getD_eq_getElem?_getD,hv];rfl)
   have cb:=cO (i:=0) HTj.out.head
   simp only[List.getElem?_toArray,List.getElem?_cons_zero]at cb
   have HV1:Hid (v≤18446744073709551615):=η (by omega)
   have HS:Hid (∀ w5:World,Keep (yA S.rb S.lv Lj) wr w5→w5.cell? ⟨tb,0,none⟩=some (.pointer (some ⟨S.rb,0,none⟩))∧w5.cell? (elt (.slice va vn vc) j)=some (.int .u8 v)):=η fun w5 k=>by
    have n0:=List.nodup_cons.1 HTj.out.apart
    refine⟨cO (k.obj HTj.out.head (fun hj=>n0.1 (List.mem_append_right _ (List.mem_append_right _ hj)))),?_⟩
    have:=(HST.out w5 (HKj.out.trans (k.mono fun q hq=>.inl (by rw[HFj.out]at hq;exact hq)))).cell hv (j:=0) rfl
    simpa using this
   clear hsl hv hvr
   go_wp2_with fail
   go_region_held3 (fun w'=>w'.cell? ⟨tb,0,none⟩=some (.pointer (some ⟨S.rb,0,none⟩))∧w'.cell? (elt (.slice va vn vc) j)=some (.int .u8 v))
    (first|exact⟨cb,cv⟩|exact s5)
    ((first
     | (go_at_call 63;refine(pT i n _ (by omega) (by omega) (by omega) (by omega)).mono ?_;rintro e w2 ⟨rfl,rfl⟩)
     | (go_at_call 37;refine(ref_at (zS i n) j _).mono ?_;rintro e w3 ⟨rfl,rfl⟩)
     | (go_at_call 109;(try rw[hwv]);refine(ref_store base S.rb S.lv Lj (mat (zS i n) j) 1 v _ (HTj.out.mem.ext (by (repeat (first|exact xE0 _|assumption|refine xE1 ?_ _|refine xE2 ?_|refine xE3 ?_ _|refine xE4 ?_ (by assumption))))) (mat_le _ _).1 (η (mat_le _ _).2) hv0 HV1).mono ?_;rintro e w5 ⟨rfl,hk5,L5,hm5,hv5,hf5⟩;have hk5':Keep (yA S.rb S.lv Lj) wr w5:=⟨hk5.os,hk5.tape,hk5.output,hk5.size,hk5.block⟩;have s5:=HS.out w5 hk5';have HM5:=η hm5;have HV5:=η hv5;have HF5:=η hf5;have HK5:=η hk5';clear hk5 hm5 hv5 hf5 hk5')))
   all_goals
    have hst:=HTj.out.memStep HK5.out HM5.out (fun q hq=>.inl (by rw[HF5.out]at hq;exact hq))
    have HT5:=η hst.1
    clear hst
    go_wp2_with fail
    go_roundw
    case rel =>
     exact⟨j+1,L5,by omega,by go_num,HT5,η (by rw[HV5.out,HVj.out,pH,HVD.out]),η (HKj.out.trans (HK5.out.mono fun q hq=>.inl (by rw[HFj.out]at hq;exact hq))),η (by rw[HF5.out,HFj.out])⟩
    case measure=>simp[intOf];omega
  ·have hjn:j=vs.length:=by have:=hVN.out;omega
   have HJN:=η hjn
   clear hjn
   go_wp2_with fail
   go_returns
   exact⟨rfl,HKj.out,Lj,HTj.out,by rw[HVj.out,HJN.out],HFj.out⟩
theorem opt_nodup' (o:Option Nat):o.toList.Nodup:=by cases o<;>simp
theorem TabAt.push {w wr w5:World}{base tb:Nat}{S:Tabs}{lv:Value}{x:TRec}(h:TabAt w base tb S)(he:Ext w wr)(hx1:wr.heap[x.a]?=some (.cells x.cells 158 (0,0)))(hx2:SMap wr x.r x.T.strs)(hfr:w.heap.size≤x.a∧w.heap.size≤x.r∧x.a≠x.r)
  (hmade:x.T.made≤1024∧∀ p∈x.T.slots,p.2≤1024) (hk:Keep S.mv.ownBlock.toList wr w5) (hmv:∀ k,lv.ownBlock=some k→S.mv.ownBlock=some k∨wr.heap.size≤k) (hl:Own w5 base 155 1 encT lv (S.R++[x])) (hfew:S.R.length < 8) :
  TabAt (w5.setCell ⟨tb,1,none⟩ lv) base tb {S with mv:=lv,R:=S.R++[x]}∧Keep (zM tb S) w (w5.setCell ⟨tb,1,none⟩ lv)∧∀ j∈zM tb {S with mv:=lv,R:=S.R++[x]},j∈zM tb S∨(w.heap.size≤j∧(j=x.a∨j=x.r∨wr.heap.size≤j)):=by
 have n0:=List.nodup_cons.1 h.apart
 have n1:=List.nodup_append.1 n0.2
 have n2:=List.nodup_append.1 n1.2.1
 have hlt:=h.lt
 have hsz:=he.size
 have hxa:=zE hx1
 have hxr:=hx2.lt
 have htlt:=zE h.head
 have hF:∀ j∈S.mv.ownBlock.toList,j∈zM tb S:=fun j hj=>by simp only[zM,List.mem_cons,List.mem_append];exact .inr (.inl hj)
 have hFlt:∀ j∈S.mv.ownBlock.toList,j < w.heap.size:=fun j hj=>hlt j (hF j hj)
 have htF:tb ∉ S.mv.ownBlock.toList:=fun hj=>n0.1 (List.mem_append_left _ hj)
 have hrec:∀ y∈S.R,∀ j∈TRec.blocks y,j ∉ S.mv.ownBlock.toList:=fun y hy j hj hj'=>n1.2.2 j hj' j (List.mem_append_left _ (List.mem_flatMap.2 ⟨y,hy,hj⟩)) rfl
 have hmem:∀ j∈foot S.b S.r S.L,j ∉ S.mv.ownBlock.toList:=fun j hj hj'=>n1.2.2 j hj' j (List.mem_append_right _ hj) rfl
 have hrlt:∀ y∈S.R,∀ j∈TRec.blocks y,j < w.heap.size:=fun y hy j hj=>hlt j (by simp only[zM,List.mem_cons,List.mem_append,List.mem_flatMap];exact .inr (.inr (.inl ⟨y,hy,hj⟩)))
 have hflt:∀ j∈foot S.b S.r S.L,j < w.heap.size:=h.mem.lt
 have hlv:∀ k,lv.ownBlock=some k→k≠tb∧(∀ y∈S.R++[x],k ∉ TRec.blocks y)∧k ∉ foot S.b S.r S.L:=by
  intro k hk'
  rcases hmv k hk' with h1|h1
  ·have hin:k∈S.mv.ownBlock.toList:=by simpa using h1
   have hkl:=hFlt k hin
   refine⟨fun e=>htF (by rw[← e];exact hin),fun y hy hy'=>?_,fun hj=>hmem k hj hin⟩
   rcases List.mem_append.1 hy with hy|hy
   ·exact hrec y hy k hy' hin
   ·rw[List.mem_singleton]at hy
    subst hy
    simp only[TRec.blocks,List.mem_cons,List.not_mem_nil,or_false]at hy'
    rcases hy' with rfl|rfl<;>omega
  ·refine⟨by omega,fun y hy hy'=>?_,fun hj=>by have:=hflt k hj;omega⟩
   rcases List.mem_append.1 hy with hy|hy
   ·have:=hrlt y hy k hy';omega
   ·rw[List.mem_singleton]at hy
    subst hy
    simp only[TRec.blocks,List.mem_cons,List.not_mem_nil,or_false]at hy'
    rcases hy' with rfl|rfl<;>omega
 have kk:Keep [tb] w5 (w5.setCell ⟨tb,1,none⟩ lv):=(Keep.rfl' [tb] w5).setCell (by simp) _
 have o5:=hk.obj (he.obj h.head) htF
 have hone:∀ y∈S.R++[x],w5.heap[y.a]?=some (.cells y.cells 158 (0,0))∧SMap w5 y.r y.T.strs∧y.a≠tb∧y.r≠tb:=by
  intro y hy
  rcases List.mem_append.1 hy with hy|hy
  ·have hne:∀ j∈TRec.blocks y,j≠tb:=fun j hj e=>n0.1 (List.mem_append_right _ (List.mem_append_left _ (by rw[← e];exact List.mem_flatMap.2 ⟨y,hy,hj⟩)))
   exact⟨hk.obj (he.obj (h.ones y hy)) (hrec y hy _ (by simp[TRec.blocks])),((h.slots y hy).ext he).keep hk (hrec y hy _ (by simp[TRec.blocks])),hne _ (by simp[TRec.blocks]),hne _ (by simp[TRec.blocks])⟩
  ·rw[List.mem_singleton]at hy
   subst hy
   exact⟨hk.obj hx1 (fun hj=>by have:=hFlt _ hj;omega),hx2.keep hk (fun hj=>by have:=hFlt _ hj;omega),by omega,by omega⟩
 refine⟨⟨?_,h.low,hl.keep kk (fun j hj=>by simpa using (hlv j hj).1),fun y hy=>kk.obj (hone y hy).1 (by simpa using (hone y hy).2.2.1),fun y hy=>(hone y hy).2.1.keep kk (by simpa using (hone y hy).2.2.2),?_,?_,by simp;omega,?_⟩,?_,?_⟩
 ·have:=heap_setCell_same w5 tb 1 _ _ lv o5
  simpa using this
 ·refine((h.mem.ext he).keep hk hmem).keep kk (fun j hj=>?_)
  simp only[List.mem_singleton]
  intro e
  subst e
  exact n0.1 (List.mem_append_right _ (List.mem_append_right _ hj))
 ·have hb:(S.R++[x]).flatMap TRec.blocks=S.R.flatMap TRec.blocks++TRec.blocks x:=by simp
  simp only[zM]
  rw[hb,List.nodup_cons,List.nodup_append,List.nodup_append,List.nodup_append]
  refine⟨?_,opt_nodup' _,⟨⟨n2.1,by simpa[TRec.blocks]using hfr.2.2,?_⟩,n2.2.1,?_⟩,?_⟩
  ·intro hj
   simp only[List.mem_append]at hj
   rcases hj with hj|(hj|hj)|hj
   ·exact(hlv tb (by simpa using hj)).1 rfl
   ·exact n0.1 (List.mem_append_right _ (List.mem_append_left _ hj))
   ·simp only[TRec.blocks,List.mem_cons,List.not_mem_nil,or_false]at hj
    rcases hj with hj|hj<;>omega
   ·exact n0.1 (List.mem_append_right _ (List.mem_append_right _ hj))
  ·intro a ha b hb' e
   subst e
   obtain⟨y,hy,hya⟩:=List.mem_flatMap.1 ha
   have:=hrlt y hy a hya
   simp only[TRec.blocks,List.mem_cons,List.not_mem_nil,or_false]at hb'
   rcases hb' with hb'|hb'<;>omega
  ·intro a ha b hb' e
   subst e
   rcases List.mem_append.1 ha with ha|ha
   ·exact n2.2.2 a ha a hb' rfl
   ·have:=hflt a hb'
    simp only[TRec.blocks,List.mem_cons,List.not_mem_nil,or_false]at ha
    rcases ha with ha|ha<;>omega
  ·intro a ha b hb' e
   subst e
   have h2:=hlv a (by simpa using ha)
   rcases List.mem_append.1 hb' with hb'|hb'
   ·rcases List.mem_append.1 hb' with hb'|hb'
    ·obtain⟨y,hy,hya⟩:=List.mem_flatMap.1 hb'
     exact h2.2.1 y (List.mem_append_left _ hy) hya
    ·exact h2.2.1 x (by simp) hb'
   ·exact h2.2.2 hb'
 ·intro y hy
  rcases List.mem_append.1 hy with hy|hy
  ·exact h.made y hy
  ·rw[List.mem_singleton]at hy
   subst hy
   exact hmade
 ·exact(((Keep.of_ext he).trans (hk.mono fun j hj=>.inl hj)).mono fun j hj=>.inl (hF j hj)).setCell (by simp[zM]) _
 ·intro j hj
  simp only[zM,List.mem_cons,List.mem_append,List.flatMap_append,List.flatMap_cons,List.flatMap_nil,List.append_nil]at hj ⊢
  rcases hj with hj|hj|(hj|hj)|hj
  ·exact .inl (.inl hj)
  ·rcases hmv j (by simpa using hj) with h1|h1
   ·exact .inl (.inr (.inl (by simpa using h1)))
   ·exact .inr ⟨by omega,.inr (.inr h1)⟩
  ·exact .inl (.inr (.inr (.inl hj)))
  ·simp only[TRec.blocks,List.mem_cons,List.not_mem_nil,or_false]at hj
   rcases hj with rfl|rfl
   ·exact .inr ⟨hfr.1,.inl rfl⟩
   ·exact .inr ⟨hfr.2.1,.inr (.inl rfl)⟩
  ·exact .inl (.inr (.inr (.inr hj)))
def TDef.tm (d:TDef):TM:=⟨d.hash,d.key,d.val,d.max,[],0⟩
def vM (V:Areas×List TM)(i:Int)(val:Nat):Nat→Option (Areas×List TM)
 | 0=>some V
 | k+1=>(vM V i val k).bind fun V'=>kV V' i (yM k) (List.replicate val 0)
def tnew1 (V:Areas×List TM)(d:TDef):Option (Areas×List TM) :=
 if d.hash then some (V.1,V.2++[d.tm]) else vM (V.1,V.2++[d.tm]) V.2.length d.val.toNat d.max.toNat
def uF (M:Areas)(ds:List TDef):Nat→Option (Areas×List TM)
 | 0=>some (M,[])
 | k+1=>(uF M ds k).bind fun V=>(ds[k]?).bind (tnew1 V)
def tnew (M:Areas)(ds:List TDef):Option (Areas×List TM):=if xC ds then uF M ds ds.length else none
end Go.Proofs.YtppefchjoodgnaaGreat
