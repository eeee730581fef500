import Derived.Test.YtppefchjoodgnaaGreatPQ09
import Derived.Test.YtppefchjoodgnaaGreatPQ18
import Derived.Test.YtppefchjoodgnaaGreatPQ17
set_option linter.unusedSimpArgs false
set_option linter.unusedVariables false
namespace Go.Proofs.YtppefchjoodgnaaGreat
open Go.RowKit
def ltB (a b:ByteArray):Prop:=Op.bytesLess a.toList b.toList=true
theorem ltB_iff (a b:ByteArray):ltB a b ↔ a.data.toList < b.data.toList:=by
 unfold ltB
 cases a;cases b
 rw[ByteArray.toList_mk,ByteArray.toList_mk,bytesLess_lt,decide_eq_true_eq]
theorem ltB_trans {a b c:ByteArray}(h:ltB a b)(k:ltB b c):ltB a c:=by
 rw[ltB_iff]at *
 exact List.lt_trans h k
theorem ltB_tri {a b:ByteArray}(h:¬ ltB a b)(hn:a≠b):ltB b a:=by
 rw[ltB_iff]at *
 refine lt_of_le_ne (List.not_lt.1 h) (fun e=>hn ?_)
 cases a;cases b
 simp only at e
 congr 1
 exact(Array.toList_inj.1 e).symm
theorem sortK_eq {ks l:List ByteArray}(hp:ks.Perm l)(hs:l.Pairwise ltB):vW ks=l:=by
 rw[tJ hp]
 have hm:(l.map fun k=>k.data.toList).Pairwise (fun x y=>leB x y=true):=by
  rw[List.pairwise_map]
  exact hs.imp fun {a b} h=>by
   rw[ltB_iff]at h
   simp only[leB,decide_eq_true_eq]
   exact List.le_of_lt h
 unfold vW
 rw[List.mergeSort_of_pairwise hm,List.map_map]
 conv=>rhs;rw[← List.map_id l]
 apply List.map_congr_left
 intro k _
 rfl
theorem uH {L L':List (ByteArray×Nat)}(h:L.Perm L')(hn:(L.map (·.1)).Nodup)(s:ByteArray):L'.lookup s=L.lookup s:=by
 have hn':(L'.map (·.1)).Nodup:=(h.map _).nodup_iff.1 hn
 cases hl:L.lookup s with
 | some n=>exact tS hn' (h.mem_iff.1 (yZ hl))
 | none =>
  cases hl':L'.lookup s with
  | none=>rfl
  | some n =>
   have:=tS hn (h.mem_iff.2 (yZ hl'))
   rw[hl]at this;cases this
structure KW (t:TM):Prop where
 keys:(t.slots.map (·.1)).Nodup
 few:(t.slots.length:Int)≤t.max
 max:t.max≤16
 key:t.key≤16
 size:∀ p∈t.slots,(p.1.size:Int)=t.key
theorem MapWf.kw {t:TM}(h:MapWf t):KW t:=⟨h.keys,h.few,h.max.2,h.key.2,h.size⟩
structure TRel (t t':TM):Prop where
 hash:t'.hash=t.hash
 key:t'.key=t.key
 val:t'.val=t.val
 max:t'.max=t.max
 made:t'.made=t.made
 slots:t.slots.Perm t'.slots
 rise:(t'.slots.map (·.1)).Pairwise ltB
 kw:KW t
structure VRel (V V':Areas×List TM):Prop where
 mem:V'.1=V.1
 len:V'.2.length=V.2.length
 maps:∀ (i:Nat) t t',V.2[i]?=some t→V'.2[i]?=some t'→TRel t t'
theorem VRel.small {V V':Areas×List TM}(r:VRel V V'):(∀ t∈V.2,t.slots.length≤1000∧∀ p∈t.slots,p.1.size≤1000)∧(∀ t∈V'.2,t.slots.length≤1000∧∀ p∈t.slots,p.1.size≤1000):=by
 refine⟨fun t ht=>?_,fun t ht=>?_⟩
 ·obtain⟨i,hi⟩:=List.getElem?_of_mem ht
  have hlt:=(List.getElem?_eq_some_iff.1 hi).1
  have k:=(r.maps i t _ hi (List.getElem?_eq_getElem (by rw[r.len];exact hlt))).kw
  have h1:=k.few;have h2:=k.max;have h3:=k.key
  exact⟨by omega,fun p hp=>by have:=k.size p hp;omega⟩
 ·obtain⟨i,hi⟩:=List.getElem?_of_mem ht
  have hlt:=(List.getElem?_eq_some_iff.1 hi).1
  have q:=r.maps i _ t (List.getElem?_eq_getElem (by rw[← r.len];exact hlt)) hi
  have k:=q.kw
  have h1:=k.few;have h2:=k.max;have h3:=k.key;have h4:=q.slots.length_eq
  exact⟨by omega,fun p hp=>by have:=k.size p (q.slots.mem_iff.2 hp);omega⟩
theorem VRel.find {V V':Areas×List TM}(r:VRel V V')(i:Int)(n:Nat):(xE V.2 i n=none∧xE V'.2 i n=none)∨∃ (j:Nat) (t t':TM),i=j∧V.2[j]?=some t∧V'.2[j]?=some t'∧xE V.2 i n=some t∧xE V'.2 i n=some t'∧(n:Int)=t.key∧TRel t t':=by
 rcases tfind_cases V.2 i n with h0|⟨j,t,rfl,hp,hk⟩
 ·rcases tfind_cases V'.2 i n with h1|⟨j,t',rfl,hp',hk'⟩
  ·exact .inl ⟨h0,h1⟩
  ·exfalso
   have hlt:=(List.getElem?_eq_some_iff.1 hp').1
   obtain⟨t,hp⟩:=zK (xs:=V.2) (k:=j) (by rw[← r.len];exact hlt)
   have q:=r.maps j t t' hp hp'
   rw[tfind_at hp (by rw[← q.key];exact hk')]at h0
   cases h0
 ·have hlt:=(List.getElem?_eq_some_iff.1 hp).1
  obtain⟨t',hp'⟩:=zK (xs:=V'.2) (k:=j) (by rw[r.len];exact hlt)
  have q:=r.maps j t t' hp hp'
  exact .inr ⟨j,t,t',rfl,hp,hp',tfind_at hp hk,tfind_at hp' (by rw[q.key];exact hk),hk,q⟩
theorem look_rel {V V':Areas×List TM}(r:VRel V V')(i:Int)(ks:List Int):xT V'.2 i ks=xT V.2 i ks:=by
 rcases r.find i ks.length with ⟨h1,h2⟩|⟨j,t,t',rfl,hp,hp',h1,h2,hk,q⟩
 ·simp only[xT,h1,h2]
 ·simp only[xT,h1,h2,uH q.slots q.kw.keys]
theorem items_rel {V V':Areas×List TM}(r:VRel V V')(i:Int):pB V' i=gM V i:=by
 unfold pB gM
 by_cases h0:i < 0
 ·simp only[pick,h0,if_true]
 ·obtain⟨j,rfl⟩:∃ j:Nat,i=j:=⟨i.toNat,by omega⟩
  rw[vS,vS]
  cases hp:V.2[j]? with
  | none =>
   have:V'.2[j]?=none:=by
    rw[List.getElem?_eq_none_iff,r.len]
    exact List.getElem?_eq_none_iff.1 hp
   rw[this]
  | some t =>
   have hlt:=(List.getElem?_eq_some_iff.1 hp).1
   obtain⟨t',hp'⟩:=zK (xs:=V'.2) (k:=j) (by rw[r.len];exact hlt)
   rw[hp']
   have q:=r.maps j t t' hp hp'
   simp only
   rw[sortK_eq (q.slots.map _) q.rise,List.map_map,r.mem]
   apply List.map_congr_left
   intro p hp
   have hl:=tS (L:=t.slots) q.kw.keys (k:=p.1) (x:=p.2) (q.slots.mem_iff.2 hp)
   simp only[Function.comp,hl,Option.getD_some]
theorem VRel.set {V V':Areas×List TM}(r:VRel V V'){M:Areas}{j:Nat}{t t':TM}(q:TRel t t'):VRel (M,V.2.set j t) (M,V'.2.set j t'):=by
 refine⟨rfl,by simp[r.len],fun i s s' h h'=>?_⟩
 simp only[List.getElem?_set,r.len]at h h'
 by_cases e:j=i
 ·subst e
  rw[if_pos rfl]at h h'
  split at h
  ·rename_i hl;rw[if_pos hl]at h';injection h with h;injection h' with h';subst h;subst h';exact q
  ·cases h
 ·rw[if_neg e]at h h'
  exact r.maps i s s' h h'
theorem VRel.areas {V V':Areas×List TM}(r:VRel V V')(M:Areas):VRel (M,V.2) (M,V'.2):=⟨rfl,r.len,r.maps⟩
theorem add_rel {t t':TM}(q:TRel t t'){s:ByteArray}(hl:t.slots.lookup s=none)(hs:(s.size:Int)=t.key)(hf:¬ t.max≤t.slots.length):TRel (yF t s) (addR t' s):=by
 have hno:∀ p∈t'.slots,p.1≠s:=fun p hp=>pX hl p (q.slots.mem_iff.2 hp)
 have hnt:∀ p∈t.slots,p.1≠s:=pX hl
 have htd:t'.slots.takeWhile (ltK s)++t'.slots.dropWhile (ltK s)=t'.slots:=List.takeWhile_append_dropWhile
 have hr:=q.rise
 rw[← htd,List.map_append,List.pairwise_append]at hr
 obtain⟨r1,r2,r3⟩:=hr
 have hA:∀ p∈t'.slots.takeWhile (ltK s),ltB p.1 s:=fun p hp=>by
  have:=List.all_eq_true.1 (List.all_takeWhile (p:=ltK s) (l:=t'.slots)) p hp
  exact this
 have hB:∀ p∈t'.slots.dropWhile (ltK s),ltB s p.1:=by
  cases hd:t'.slots.dropWhile (ltK s) with
  | nil=>intro p hp;cases hp
  | cons x L =>
   have hx:¬ ltB x.1 s:=by
    intro h
    have:=List.head?_dropWhile_not (ltK s) t'.slots
    rw[hd]at this
    simp only[List.head?_cons]at this
    have h2:ltK s x=true:=h
    rw[h2]at this
    simp at this
   have hxm:x∈t'.slots:=(List.dropWhile_sublist _).subset (by rw[hd];exact List.mem_cons_self)
   have hsx:=ltB_tri hx (hno x hxm)
   rw[hd,List.map_cons,List.pairwise_cons]at r2
   intro p hp
   rcases List.mem_cons.1 hp with rfl|hp
   ·exact hsx
   ·exact ltB_trans hsx (r2.1 p.1 (List.mem_map.2 ⟨p,hp,rfl⟩))
 refine⟨q.hash,q.key,q.val,q.max,by simp only[yF,addR,q.made],?_,?_,⟨?_,?_,q.kw.max,q.kw.key,?_⟩⟩
 ·simp only[yF,addR,q.made]
  refine(q.slots.append_right _).trans ?_
  conv=>lhs;rw[← htd]
  rw[List.append_assoc,List.append_assoc]
  exact List.Perm.append_left _ List.perm_append_comm
 ·simp only[addR,List.map_append,List.map_cons,List.map_nil]
  rw[List.pairwise_append,List.pairwise_append]
  refine⟨⟨r1,List.pairwise_singleton _ _,fun a ha b hb=>?_⟩,r2,fun a ha b hb=>?_⟩
  ·obtain⟨p,hp,rfl⟩:=List.mem_map.1 ha
   rw[List.mem_singleton]at hb
   subst hb
   exact hA p hp
  ·obtain⟨p2,hp2,rfl⟩:=List.mem_map.1 hb
   rcases List.mem_append.1 ha with ha|ha
   ·exact r3 a ha _ hb
   ·rw[List.mem_singleton]at ha
    subst ha
    exact hB p2 hp2
 ·simp only[yF,List.map_append,List.map_cons,List.map_nil]
  rw[List.nodup_append]
  refine⟨q.kw.keys,by simp,fun a ha b hb e=>?_⟩
  subst e
  rw[List.mem_singleton]at hb
  subst hb
  obtain⟨p,hp,e⟩:=List.mem_map.1 ha
  exact hnt p hp e
 ·simp only[yF,List.length_append,List.length_singleton];omega
 ·intro p hp
  simp only[yF,List.mem_append,List.mem_singleton]at hp ⊢
  rcases hp with hp|rfl
  ·exact q.kw.size p hp
  ·exact hs
theorem put_rel {V V':Areas×List TM}(r:VRel V V')(i:Int)(ks vs:List Int)(flags:Int):(rput V' i ks vs flags).2=(tput V i ks vs flags).2∧VRel (tput V i ks vs flags).1 (rput V' i ks vs flags).1:=by
 rcases r.find i ks.length with ⟨h1,h2⟩|⟨j,t,t',rfl,hp,hp',h1,h2,hk,q⟩
 ·simp only[tput,rput,h1,h2];exact⟨trivial,r⟩
 ·simp only[tput,rput,h1,h2,q.val,q.hash,q.max,q.made,r.mem,uH q.slots q.kw.keys,← q.slots.length_eq]
  by_cases a1:(vs.length:Int)≠t.val
  ·rw[if_pos a1,if_pos a1];exact⟨rfl,r⟩
  rw[if_neg a1,if_neg a1]
  by_cases a2:2 < flags
  ·rw[if_pos a2,if_pos a2];exact⟨rfl,r⟩
  rw[if_neg a2,if_neg a2]
  cases hl:t.slots.lookup (strOfNums ks) with
  | some n =>
   simp only
   by_cases a3:flags=1
   ·rw[if_pos a3,if_pos a3];exact⟨rfl,r⟩
   ·rw[if_neg a3,if_neg a3];exact⟨rfl,r.areas _⟩
  | none =>
   simp only
   by_cases a4:t.hash=false
   ·rw[if_pos a4,if_pos a4];exact⟨rfl,r⟩
   rw[if_neg a4,if_neg a4]
   by_cases a5:flags=2
   ·rw[if_pos a5,if_pos a5];exact⟨rfl,r⟩
   rw[if_neg a5,if_neg a5]
   by_cases a6:t.max≤t.slots.length
   ·rw[if_pos a6,if_pos a6];exact⟨rfl,r⟩
   rw[if_neg a6,if_neg a6]
   rw[kV,vS,hp]
   simp only
   by_cases a7:1024≤t.made
   ·rw[if_pos a7,if_pos a7];exact⟨rfl,r⟩
   rw[if_neg a7,if_neg a7]
   by_cases a8:(yG V.1 (zS j t.made) vs false false).2=0
   ·rw[if_pos a8,if_pos a8]
    refine⟨rfl,r.set (add_rel q hl ?_ a6)⟩
    rw[tU];exact hk
   ·rw[if_neg a8,if_neg a8];exact⟨rfl,r⟩
theorem qP {L:List (ByteArray×Nat)}(hn:(L.map (·.1)).Nodup)(s:ByteArray):(L.eraseP fun p=>p.1 == s)=L.filter (neK s):=by
 induction L with
 | nil=>rfl
 | cons p L ih =>
  rw[List.map_cons,List.nodup_cons]at hn
  by_cases e:p.1=s
  ·have hb:(p.1 == s)=true:=by rw[e];exact beq_self_eq_true s
   rw[List.eraseP_cons_of_pos (p:=fun p:ByteArray×Nat=>p.1 == s) hb,List.filter_cons_of_neg (by simp[neK,hb])]
   symm
   rw[List.filter_eq_self]
   intro x hx
   have:x.1≠s:=fun e2=>hn.1 (by rw[e,← e2];exact List.mem_map.2 ⟨x,hx,rfl⟩)
   simp[neK,this]
  ·have hb:¬ (p.1 == s)=true:=by simpa using e
   rw[List.eraseP_cons_of_neg (p:=fun p:ByteArray×Nat=>p.1 == s) hb,List.filter_cons_of_pos (by simp[neK,e]),ih hn.2]
theorem filter_none {L:List (ByteArray×Nat)}(s:ByteArray):(L.filter (neK s)).length=L.length ↔ L.lookup s=none:=by
 rw[List.length_filter_eq_length_iff]
 constructor
 ·intro h
  cases hl:L.lookup s with
  | none=>rfl
  | some n =>
   have:=h _ (yZ hl)
   simp[neK]at this
 ·intro h p hp
  simp[neK,pX h p hp]
theorem drop_rel {V V':Areas×List TM}(r:VRel V V')(i:Int)(ks:List Int):(xR V'.2 i ks).2=(jL V.2 i ks).2∧VRel (V.1,(jL V.2 i ks).1) (V'.1,(xR V'.2 i ks).1):=by
 have r0:VRel (V.1,V.2) (V'.1,V'.2):=r
 rcases r.find i ks.length with ⟨h1,h2⟩|⟨j,t,t',rfl,hp,hp',h1,h2,hk,q⟩
 ·simp only[jL,xR,h1,h2];exact⟨trivial,r0⟩
 ·simp only[jL,xR,h1,h2,q.hash]
  by_cases a4:t.hash=false
  ·rw[if_pos a4,if_pos a4];exact⟨rfl,r0⟩
  rw[if_neg a4,if_neg a4]
  cases hl:t.slots.lookup (strOfNums ks) with
  | none =>
   rw[if_pos ((filter_none _).2 (by rw[uH q.slots q.kw.keys];exact hl))]
   exact⟨rfl,r0⟩
  | some n =>
   rw[if_neg (fun h=>by rw[filter_none,uH q.slots q.kw.keys,hl]at h;cases h)]
   refine⟨rfl,?_⟩
   rw[r.mem]
   simp only[Int.toNat_natCast]
   have hsub:(t.slots.filter (neK (strOfNums ks))).Sublist t.slots:=List.filter_sublist
   refine r.set ⟨rfl,q.key,q.val,q.max,q.made,?_,?_,⟨?_,?_,q.kw.max,q.kw.key,?_⟩⟩
   ·simp only;rw[qP q.kw.keys];exact q.slots.filter _
   ·exact q.rise.sublist (List.filter_sublist.map _)
   ·simp only;rw[qP q.kw.keys];exact(hsub.map _).nodup q.kw.keys
   ·simp only;rw[qP q.kw.keys];have:=hsub.length_le;have:=q.kw.few;omega
   ·simp only;rw[qP q.kw.keys];exact fun p hp=>q.kw.size p (hsub.subset hp)
theorem nk_lt {a c:Nat}(h:a < c)(hc:c < 256):ltB (yM (a:Int)) (yM (c:Int)):=by
 rw[ltB_iff]
 simp only[yM,strOfNums_data,List.map_cons,List.map_nil]
 rw[List.cons_lt_cons_iff]
 left
 rw[Int.emod_eq_of_lt (by omega) (by omega),Int.emod_eq_of_lt (by omega) (by omega),Int.toNat_natCast,Int.toNat_natCast]
 show (UInt8.ofNat a).toNat < (UInt8.ofNat c).toNat
 simp only[UInt8.toNat_ofNat']
 omega
theorem full_rel {d:TDef}(hm:mayD d=true)(h:KW (kL d)):TRel (kL d) (kL d):=by
 refine⟨rfl,rfl,rfl,rfl,rfl,List.Perm.refl _,?_,h⟩
 have hd:=(pV d).1 hm
 unfold kL
 split
 ·simp[TDef.tm]
 ·simp only[nums,List.map_map]
  rw[List.pairwise_map]
  refine List.Pairwise.imp_of_mem (R:=(· < ·)) (fun {a b} ha hb hab=>?_) List.pairwise_lt_range
  rw[List.mem_range]at hb
  exact nk_lt hab (by omega)
section
variable {F0 Z0:List Nat} {wf w w':World} {base mb:Nat} {σ:RS} {l:PLay}
theorem PAt.lt (h:PAt w base mb σ l):∀ j∈zW mb l,j < w.heap.size:=fun j hj=>by
 simp only[zW,List.mem_cons,List.mem_append]at hj
 rcases hj with rfl|hj|hj
 ·exact zE h.head
 ·exact(h.calls.lt (by simpa using hj)).2
 ·exact h.tab.lt j hj
theorem PAt.tabStep (h:PAt w base mb σ l)(k:Keep (zM l.tb l.T) w w'){T':Tabs}(ht:TabAt w' base l.tb T')(hrb:T'.b=l.T.b)(hf:∀ j∈zM l.tb T',j∈zM l.tb l.T∨w.heap.size≤j):
  PAt w' base mb {σ with V:=zN T'} {l with T:=T'}:=by
 have hlt:=h.lt
 have n0:=List.nodup_cons.1 h.apart
 have n1:=List.nodup_append.1 n0.2
 have hmb:mb ∉ zM l.tb l.T:=fun hj=>n0.1 (List.mem_append_right _ hj)
 have hcv:∀ j,l.cv.ownBlock=some j→j ∉ zM l.tb l.T:=fun j hj hj'=>n1.2.2 j (by simpa using hj) j hj' rfl
 have hx:∀ j∈pfrz l,j ∉ zM l.tb l.T:=fun j hj hj'=>(h.frz j hj).1 (by simp[zW,hj'])
 have hz:∀ {v:Value},(∀ j∈vblk v,j∈pfrz l)→∀ a n c,v=.slice (some a) n c→a.block ∉ zM l.tb l.T:=fun hv=>kD fun j hj=>hx j (hv j hj)
 have hnew:∀ j,j < w.heap.size→j ∉ zM l.tb l.T→j ∉ zM l.tb T':=fun j h1 h2 h3=>(hf j h3).elim h2 (fun h4=>by omega)
 refine⟨?_,h.low,ht,rfl,h.calls.keep k hcv,h.cls,fun c hc=>⟨?_,?_,?_⟩,?_,?_,?_,?_,?_⟩
 ·have:=k.obj h.head hmb
  rw[this]
  simp only[xZ,hrb]
 ·exact(h.callS c hc).1.keep k (hz fun j hj=>kC hc (by simp[hj]))
 ·exact(h.callS c hc).2.1.keep k (hz fun j hj=>kC hc (by simp[hj]))
 ·exact(h.callS c hc).2.2.keep k (hz fun j hj=>kC hc (by simp[hj]))
 ·exact h.code.keepF k (fun j hj=>hx j (by simp[pfrz,hj]))
 ·exact h.defs.keepF k (fun j hj=>hx j (by simp[pfrz,hj]))
 ·exact h.draws.keep k (hz fun j hj=>by simp[pfrz,hj])
 ·simp only[zW]
  rw[List.nodup_cons,List.nodup_append]
  refine⟨?_,n1.1,ht.apart,?_⟩
  ·intro hj
   rcases List.mem_append.1 hj with hj|hj
   ·exact n0.1 (List.mem_append_left _ hj)
   ·exact hnew mb (zE h.head) hmb hj
  ·intro a ha b hb e
   subst e
   have ha':l.cv.ownBlock=some a:=by simpa using ha
   exact hnew a (h.calls.lt ha').2 (hcv a ha') hb
 ·intro j hj
  have h1:=h.frz j hj
  refine⟨fun h2=>?_,Nat.lt_of_lt_of_le h1.2 k.size⟩
  simp only[zW,List.mem_cons,List.mem_append]at h2
  rcases h2 with rfl|h2|h2
  ·exact h1.1 (by simp[zW])
  ·exact h1.1 (by simp[zW,h2])
  ·exact hnew j h1.2 (fun h3=>h1.1 (by simp[zW,h3])) h2
theorem PRel.tabStep (h0:Keep F0 wf w)(hl:base≤wf.heap.size)(h:PAt w base mb σ l)(h2:∀ j∈zW mb l,j∈F0∨wf.heap.size≤j)(h3:∀ j∈pfrz l,j∈Z0∨wf.heap.size≤j)
  (k:Keep (zM l.tb l.T) w w') {T':Tabs} (ht:TabAt w' base l.tb T') (hrb:T'.b=l.T.b) (hf:∀ j∈zM l.tb T',j∈zM l.tb l.T∨w.heap.size≤j) :
  PRel F0 Z0 wf base w' mb {σ with V:=zN T'}:=by
 refine⟨h0.through k (fun j hj=>h2 j (by simp[zW,hj])),hl,_,h.tabStep k ht hrb hf,fun j hj=>?_,h3⟩
 simp only[zW,List.mem_cons,List.mem_append]at hj
 rcases hj with rfl|hj|hj
 ·exact h2 _ (by simp[zW])
 ·exact h2 _ (by simp[zW,hj])
 ·rcases hf j hj with h4|h4
  ·exact h2 _ (by simp[zW,h4])
  ·exact .inr (Nat.le_trans h0.size h4)
theorem PRel.mem (h:PRel F0 Z0 wf base w mb σ):∃ rb r L,w.cell? ⟨mb,23,none⟩=some (.pointer (some ⟨rb,0,none⟩))∧Hid (view L=σ.V.1)∧Hid (∀ w',Ext w w'→MemAt w' rb r L) ∧
  Hid (∀ w1 w' p s n e,Ext w w1→StoreAns rb r L p s n w1 e w'→e=.returned (.int .i64 (yP σ.V.1 p s n).2)∧PRel F0 Z0 wf base w' mb (σ.setM (yP σ.V.1 p s n).1)):=by
 have H:=h
 obtain⟨h0,hl,l,h1,h2,h3⟩:=h
 have hv:view l.T.L=σ.V.1:=by rw[← h1.view];rfl
 refine⟨l.T.b,l.T.r,l.T.L,h1.cell 23 rfl,η hv,η fun w' he=>h1.tab.mem.ext he,η ?_⟩
 intro w1 w' p s n e hE hA
 obtain⟨he,hk,L',hR,hvw,hfo⟩:=hA
 refine⟨by rw[he,hv],?_⟩
 have g:=h1.ext hE
 obtain⟨t1,t2⟩:=g.tab.memStep hk hR (fun j hj=>.inl (by rw[hfo]at hj;exact hj))
 have hk2:Keep (zM l.tb l.T) w1 w':=hk.mono (fun j hj=>.inl (pK l.tb l.T j hj))
 have:=PRel.tabStep (h0.through (F:=[]) (Keep.of_ext hE) (fun _ hj=>by cases hj)) hl g h2 h3 hk2 t1 rfl t2
 have e2:({σ with V:=zN {l.T with L:=L'}}:RS)=σ.setM (yP σ.V.1 p s n).1:=by
  simp only[RS.setM,zN,hvw,hv]
  rw[← h1.view]
  rfl
 rw[e2]at this
 exact this
theorem PRel.u8 (h:PRel F0 Z0 wf base w mb σ):BytesOk σ.V.1:=by
 obtain⟨h0,hl,l,h1,h2,h3⟩:=h
 rw[← h1.view]
 exact h1.tab.mem.u8
structure PRelQ (Q F0 Z0:List Nat)(wf:World)(base:Nat)(w:World)(mb:Nat)(σ:RS):Prop where
 keep:Keep F0 wf w
 low:base≤wf.heap.size
 lay:∃ l,PAt w base mb σ l∧(∀ j∈zW mb l,j∈F0∨wf.heap.size≤j)∧(∀ j∈pfrz l,j∈Z0∨wf.heap.size≤j)∧∀ q∈Q,q < w.heap.size∧q ∉ zW mb l∧q ∉ pfrz l
theorem PRelQ.rel {Q:List Nat}(h:PRelQ Q F0 Z0 wf base w mb σ):PRel F0 Z0 wf base w mb σ:=by
 obtain⟨h0,hl,l,h1,h2,h3,h4⟩:=h
 exact⟨h0,hl,l,h1,h2,h3⟩
theorem PRel.apart (h:PRel F0 Z0 wf base w mb σ){w1:World}(he:Ext w w1){Q:List Nat}(hQ:∀ q∈Q,w.heap.size≤q∧q < w1.heap.size):PRelQ Q F0 Z0 wf base w1 mb σ:=by
 obtain⟨h0,hl,l,h1,h2,h3⟩:=h
 exact⟨h0.through (F:=[]) (Keep.of_ext he) (fun _ hj=>by cases hj),hl,l,h1.ext he,h2,h3,fun q hq=>⟨(hQ q hq).2,fun h=>by have:=h1.lt q h;have:=(hQ q hq).1;omega,fun h=>by have:=(h1.frz q h).2;have:=(hQ q hq).1;omega⟩⟩
theorem PRelQ.go {Q:List Nat}(h:PRelQ Q F0 Z0 wf base w mb σ)(he:Ext w w'):PRelQ Q F0 Z0 wf base w' mb σ:=by
 obtain⟨h0,hl,l,h1,h2,h3,h4⟩:=h
 exact⟨h0.through (F:=[]) (Keep.of_ext he) (fun _ hj=>by cases hj),hl,l,h1.ext he,h2,h3,fun q hq=>⟨Nat.lt_of_lt_of_le (h4 q hq).1 he.size,(h4 q hq).2⟩⟩
theorem PRelQ.box {Q:List Nat}(h:PRelQ Q F0 Z0 wf base w mb σ){q:Nat}(hq:q∈Q)(hw:wf.heap.size≤q)(i:Nat)(v:Value):PRelQ Q F0 Z0 wf base (w.setCell ⟨q,i,none⟩ v) mb σ:=by
 obtain⟨h0,hl,l,h1,h2,h3,h4⟩:=h
 have k:Keep [q] w (w.setCell ⟨q,i,none⟩ v):=(Keep.rfl' _ _).setCell (by simp) v
 refine⟨h0.through k (fun j hj=>by rw[List.mem_singleton]at hj;subst hj;exact .inr hw),hl,l,h1.keep k (fun j hj=>?_) (fun j hj=>?_),h2,h3,fun q hq=>⟨Nat.lt_of_lt_of_le (h4 q hq).1 k.size,(h4 q hq).2⟩⟩
 ·rintro hj'
  rw[List.mem_singleton]at hj'
  subst hj'
  exact(h4 _ hq).2.1 hj
 ·rintro hj'
  rw[List.mem_singleton]at hj'
  subst hj'
  exact(h4 _ hq).2.2 hj
theorem PRelQ.tabStep {Q:List Nat}(h0:Keep F0 wf w)(hl:base≤wf.heap.size)(h:PAt w base mb σ l)(h2:∀ j∈zW mb l,j∈F0∨wf.heap.size≤j)(h3:∀ j∈pfrz l,j∈Z0∨wf.heap.size≤j)(h4:∀ q∈Q,q < w.heap.size∧q ∉ zW mb l∧q ∉ pfrz l)
  (k:Keep (zM l.tb l.T) w w') {T':Tabs} (ht:TabAt w' base l.tb T') (hrb:T'.b=l.T.b) (hf:∀ j∈zM l.tb T',j∈zM l.tb l.T∨w.heap.size≤j) :
  PRelQ Q F0 Z0 wf base w' mb {σ with V:=zN T'}∧∀ q,(q∈Q∨q=mb)→∀ o,w.heap[q]?=some o→w'.heap[q]?=some o:=by
 refine⟨⟨h0.through k (fun j hj=>h2 j (by simp[zW,hj])),hl,_,h.tabStep k ht hrb hf,fun j hj=>?_,h3,fun q hq=>⟨Nat.lt_of_lt_of_le (h4 q hq).1 k.size,fun hj=>?_,(h4 q hq).2.2⟩⟩,fun q hq o ho=>k.obj ho (fun hj=>hq.elim (fun hq=>(h4 q hq).2.1 (by simp[zW,hj])) (fun e=>by subst e;exact(List.nodup_cons.1 h.apart).1 (List.mem_append_right _ hj)))⟩
 ·simp only[zW,List.mem_cons,List.mem_append]at hj
  rcases hj with rfl|hj|hj
  ·exact h2 _ (by simp[zW])
  ·exact h2 _ (by simp[zW,hj])
  ·rcases hf j hj with h4|h4
   ·exact h2 _ (by simp[zW,h4])
   ·exact .inr (Nat.le_trans h0.size h4)
 ·have h5:=(h4 q hq).2.1
  have h6:=(h4 q hq).1
  simp only[zW,List.mem_cons,List.mem_append]at hj
  rcases hj with rfl|hj|hj
  ·exact h5 (by simp[zW])
  ·exact h5 (by simp[zW,hj])
  ·rcases hf q hj with h7|h7
   ·exact h5 (by simp[zW,h7])
   ·omega
theorem PRelQ.tabs {Q:List Nat}(h:PRelQ Q F0 Z0 wf base w mb σ):∃ tb,w.cell? ⟨mb,24,none⟩=some (.pointer (some ⟨tb,0,none⟩)) ∧
  Hid (∀ w1 i kv ks,Ext w w1→Sl w1 .u8 kv ks→Calls Tryz.prog 173 #[.pointer (some ⟨tb,0,none⟩),.int .i64 i,kv] w1 (fun e w'=>e=.returned (.tuple #[.int .u64 (xT σ.V.2 i ks).1,.int .i64 (xT σ.V.2 i ks).2])∧Ext w1 w')) ∧
  (Hid (∀ w1 b i kv ks vv vs fl,Ext w w1→(∀ j∈kv.ownBlock.toList++vv.ownBlock.toList,j∈Q)→Own w1 b 5 1 encB kv ks→Own w1 b 5 1 encB vv vs→(∀ q∈vs,0≤q∧q≤255)→u64R fl→Calls Tryz.prog 54 #[.pointer (some ⟨tb,0,none⟩),.int .i64 i,kv,vv,.int .u64 fl] w1
    (fun e w'=>e=.returned (.tuple #[.int .u64 (tput σ.V i ks vs fl).2.1,.int .i64 (tput σ.V i ks vs fl).2.2])∧PRelQ Q F0 Z0 wf base w' mb {σ with V:=(tput σ.V i ks vs fl).1}∧∀ q,(q∈Q∨q=mb)→∀ o,w1.heap[q]?=some o→w'.heap[q]?=some o)) ∧
   Hid (∀ w1 i kv ks,Ext w w1→Sl w1 .u8 kv ks→Calls Tryz.prog 174 #[.pointer (some ⟨tb,0,none⟩),.int .i64 i,kv] w1
    (fun e w'=>e=.returned (.tuple #[.int .u64 (jL σ.V.2 i ks).2.1,.int .i64 (jL σ.V.2 i ks).2.2])∧PRelQ Q F0 Z0 wf base w' mb {σ with V:=(σ.V.1,(jL σ.V.2 i ks).1)}∧∀ q,(q∈Q∨q=mb)→∀ o,w1.heap[q]?=some o→w'.heap[q]?=some o))):=by
 obtain⟨h0,hl,l,h1,h2,h3,h4⟩:=h
 have hv:=h1.view
 refine⟨l.tb,h1.cell 24 rfl,η ?_,⟨η ?_,η ?_⟩⟩
 ·intro w1 i kv ks he hk
  refine(tab_look base l.tb l.T i kv ks w1 (h1.tab.ext he) hk).mono ?_
  rintro e w' ⟨h,hE⟩
  rw[show (zN l.T).2=σ.V.2 by rw[hv]]at h
  exact⟨h,hE⟩
 ·intro w1 b i kv ks vv vs fl he hq hk hvv hu hf
  have g:=h1.ext he
  have h4':∀ q∈Q,q < w1.heap.size∧q ∉ zW mb l∧q ∉ pfrz l:=fun q hq=>⟨Nat.lt_of_lt_of_le (h4 q hq).1 he.size,(h4 q hq).2⟩
  have hnk:∀ j,kv.ownBlock=some j→j ∉ zM l.tb l.T:=fun j hj hj'=>(h4 j (hq j (by simp[hj]))).2.1 (by simp[zW,hj'])
  have hnv:∀ j,vv.ownBlock=some j→j ∉ zM l.tb l.T:=fun j hj hj'=>(h4 j (hq j (by simp[hj]))).2.1 (by simp[zW,hj'])
  refine(tab_put base l.tb l.T i kv vv ks vs fl w1 g.tab (hk.rd (zG _)) (hvv.rd (zG _)) hu hf.1 (η hf.2) (η fun w' k=>(hvv.keep k hnv).rd (zG _))).mono ?_
  rintro e w' ⟨h,hk5,S',hT,hV,hfo,hrb⟩
  rw[hv]at h hV
  have:=PRelQ.tabStep (Q:=Q) (h0.through (F:=[]) (Keep.of_ext he) (fun _ hj=>by cases hj)) hl g h2 h3 h4' hk5 hT hrb hfo
  rw[hV]at this
  exact⟨h,this⟩
 ·intro w1 i kv ks he hk
  have g:=h1.ext he
  have h4':∀ q∈Q,q < w1.heap.size∧q ∉ zW mb l∧q ∉ pfrz l:=fun q hq=>⟨Nat.lt_of_lt_of_le (h4 q hq).1 he.size,(h4 q hq).2⟩
  refine(tab_drop base l.tb l.T i kv ks w1 g.tab hk).mono ?_
  rintro e w' ⟨h,hk5,S',hT,hV,hfo,hrb⟩
  rw[hv]at h hV
  have:=PRelQ.tabStep (Q:=Q) (h0.through (F:=[]) (Keep.of_ext he) (fun _ hj=>by cases hj)) hl g h2 h3 h4' hk5 hT hrb (fun j hj=>.inl (by rw[hfo]at hj;exact hj))
  rw[hV]at this
  exact⟨h,this⟩
theorem PRelQ.setDraw {Q:List Nat}(h:PRelQ Q F0 Z0 wf base w mb σ){w1:World}(he:Ext w w1){v:Value}{xs:List Int}(hO:Own w1 w.heap.size 29 1 (fun x=>[Value.int .u64 x]) v xs):
  PRelQ Q F0 Z0 wf base (w1.setCell ⟨mb,26,none⟩ v) mb {σ with dr:=xs}:=by
 obtain⟨h0,hl,l,h1,h2,h3,h4⟩:=h
 have g:=h1.ext he
 have k:Keep [mb] w1 (w1.setCell ⟨mb,26,none⟩ v):=(Keep.rfl' _ _).setCell (by simp) v
 have hmb:∀ {j:Nat},j∈l.cv.ownBlock.toList++zM l.tb l.T→j ∉ [mb]:=fun hj e=>(List.nodup_cons.1 g.apart).1 (by rw[List.mem_singleton]at e;rwa[← e])
 have hx:∀ j∈pfrz l,j ∉ [mb]:=fun j hj e=>(g.frz j hj).1 (by rw[List.mem_singleton]at e;subst e;simp[zW])
 have hz:∀ {v:Value},(∀ j∈vblk v,j∈pfrz l)→∀ a n c,v=.slice (some a) n c→a.block ∉ [mb]:=fun hv=>kD fun j hj=>hx j (hv j hj)
 have hvb:∀ j∈vblk v,w.heap.size≤j∧j < w1.heap.size:=fun j hj=>by
  rw[yR hO]at hj
  exact hO.lt (by simpa using hj)
 have hnf:∀ j∈vblk v,j ∉ zW mb l:=fun j hj hj'=>by have:=h1.lt j hj';have:=(hvb j hj).1;omega
 have hfr:∀ j∈pfrz {l with drv:=v},j∈pfrz l∨j∈vblk v:=fun j hj=>by
  simp only[pfrz,List.mem_append]at hj ⊢
  rcases hj with h|h|h|h
  ·exact .inl (.inl h)
  ·exact .inl (.inr (.inl h))
  ·exact .inr h
  ·exact .inl (.inr (.inr (.inr h)))
 refine⟨(h0.through (F:=[]) (Keep.of_ext he) (fun _ hj=>by cases hj)).through k (fun j hj=>by rw[List.mem_singleton]at hj;subst hj;exact h2 _ (by simp[zW])),hl,{l with drv:=v},?_,h2,fun j hj=>?_,fun q hq=>⟨Nat.lt_of_lt_of_le (h4 q hq).1 (Nat.le_trans he.size k.size),(h4 q hq).2.1,fun hj=>?_⟩⟩
 ·refine⟨?_,g.low,g.tab.keep k (fun j hj=>hmb (by simp[hj])),g.view,g.calls.keep k (fun j hj=>hmb (by simp[hj])),g.cls,fun c hc=>⟨?_,?_,?_⟩,?_,?_,?_,g.apart,fun j hj=>?_⟩
  ·have:=heap_setCell_same w1 mb 26 _ _ v g.head
   rw[this]
   simp[xZ]
  ·exact(g.callS c hc).1.keep k (hz fun j hj=>kC (l:=l) (c:=c) hc (j:=j) (by simp[hj]))
  ·exact(g.callS c hc).2.1.keep k (hz fun j hj=>kC (l:=l) (c:=c) hc (j:=j) (by simp[hj]))
  ·exact(g.callS c hc).2.2.keep k (hz fun j hj=>kC (l:=l) (c:=c) hc (j:=j) (by simp[hj]))
  ·exact g.code.keepF k (fun j hj=>hx j (by simp[pfrz,hj]))
  ·exact g.defs.keepF k (fun j hj=>hx j (by simp[pfrz,hj]))
  ·exact(hO.keep k (fun j hj e=>hnf j (by rw[yR hO];simp[hj]) (by rw[List.mem_singleton]at e;subst e;simp[zW]))).rd (zG _)
  ·rcases hfr j hj with h|h
   ·exact⟨(g.frz j h).1,Nat.lt_of_lt_of_le (g.frz j h).2 k.size⟩
   ·exact⟨hnf j h,Nat.lt_of_lt_of_le (hvb j h).2 k.size⟩
 ·rcases hfr j hj with h|h
  ·exact h3 j h
  ·exact .inr (Nat.le_trans h0.size (hvb j h).1)
 ·rcases hfr q hj with h|h
  ·exact(h4 q hq).2.2 h
  ·have:=(h4 q hq).1;have:=(hvb q h).1;omega
theorem PRelQ.push (h0:Keep F0 wf w)(hl:base≤wf.heap.size)(g:PAt w base mb σ l)(h2:∀ j∈zW mb l,j∈F0∨wf.heap.size≤j)(h3:∀ j∈pfrz l,j∈Z0∨wf.heap.size≤j){Q:List Nat}(h4:∀ q∈Q,q < w.heap.size∧q ∉ zW mb l∧q ∉ pfrz l)
  {x:CB} (hx:∀ j∈vblk x.kv++(vblk x.vv++vblk x.nv),j∈Q∧wf.heap.size≤j) (hs:Sl w .u8 x.kv x.c.key∧Sl w .u8 x.vv x.c.val∧Sl w .u64 x.nv x.c.n) {w5:World} {v:Value} (k:Keep l.cv.ownBlock.toList w w5)
  (hO:Own w5 base 76 6 CB.enc v (l.cs++[x])) (hm:∀ j,v.ownBlock=some j→l.cv.ownBlock=some j∨w.heap.size≤j) :
  PRel F0 Z0 wf base (w5.setCell ⟨mb,31,none⟩ v) mb {σ with calls:=σ.calls++[x.c]}∧∀ q∈Q,∀ o,w.heap[q]?=some o→(w5.setCell ⟨mb,31,none⟩ v).heap[q]?=some o:=by
 have n0:=List.nodup_cons.1 g.apart
 have n1:=List.nodup_append.1 n0.2
 have k2:Keep [mb] w5 (w5.setCell ⟨mb,31,none⟩ v):=(Keep.rfl' _ _).setCell (by simp) v
 have hlt:=g.lt
 have kk:Keep (mb :: l.cv.ownBlock.toList) w (w5.setCell ⟨mb,31,none⟩ v):=(k.mono fun j hj=>.inl (List.mem_cons_of_mem _ hj)).trans (k2.mono fun j hj=>.inl (by rw[List.mem_singleton]at hj;subst hj;exact List.mem_cons_self))
 have hrt:∀ j∈zM l.tb l.T,j ∉ mb :: l.cv.ownBlock.toList:=fun j hj hj'=>by
  rcases List.mem_cons.1 hj' with rfl|hj'
  ·exact n0.1 (List.mem_append_right _ hj)
  ·exact n1.2.2 j hj' j hj rfl
 have hcv:∀ j∈mb :: l.cv.ownBlock.toList,j∈zW mb l:=fun j hj=>by
  rcases List.mem_cons.1 hj with rfl|hj
  ·simp[zW]
  ·simp only[zW,List.mem_cons,List.mem_append];exact .inr (.inl hj)
 have hxx:∀ j∈pfrz l,j ∉ mb :: l.cv.ownBlock.toList:=fun j hj e=>(g.frz j hj).1 (hcv j e)
 have hz:∀ {v:Value},(∀ j∈vblk v,j∈pfrz l)→∀ a n c,v=.slice (some a) n c→a.block ∉ mb :: l.cv.ownBlock.toList:=fun hv=>kD fun j hj=>hxx j (hv j hj)
 have hzx:∀ {v:Value},(∀ j∈vblk v,j∈vblk x.kv++(vblk x.vv++vblk x.nv))→∀ a n c,v=.slice (some a) n c→a.block ∉ mb :: l.cv.ownBlock.toList:=fun hv=>kD fun j hj e=>(h4 j (hx j (hv j hj)).1).2.1 (hcv j e)
 have hvm:∀ j,v.ownBlock=some j→j≠mb∧j ∉ zM l.tb l.T∧(j∈zW mb l∨w.heap.size≤j):=fun j hj=>by
  rcases hm j hj with h|h
  ·exact⟨fun e=>by subst e;exact n0.1 (List.mem_append_left _ (by simp[h])),fun e=>n1.2.2 j (by simp[h]) j e rfl,.inl (hcv j (by simp[h]))⟩
  ·exact⟨fun e=>by have:=zE g.head;omega,fun e=>by have:=g.tab.lt j e;omega,.inr h⟩
 have hft:∀ j∈zW mb {l with cv:=v,cs:=l.cs++[x]},j∈zW mb l∨w.heap.size≤j:=fun j hj=>by
  simp only[zW,List.mem_cons,List.mem_append]at hj ⊢
  rcases hj with h|h|h
  ·exact .inl (.inl h)
  ·have:=(hvm j (by simpa using h)).2.2
   simpa only[zW,List.mem_cons,List.mem_append]using this
  ·exact .inl (.inr (.inr h))
 have hfr:∀ j∈pfrz {l with cv:=v,cs:=l.cs++[x]},j∈pfrz l∨j∈vblk x.kv++(vblk x.vv++vblk x.nv):=fun j hj=>by
  simp only[pfrz,List.flatMap_append,List.mem_append,List.flatMap_cons,List.flatMap_nil,List.append_nil]at hj ⊢
  rcases hj with h|h|h|h|h
  ·exact .inl (.inl h)
  ·exact .inl (.inr (.inl h))
  ·exact .inl (.inr (.inr (.inl h)))
  ·exact .inl (.inr (.inr (.inr h)))
  ·exact .inr h
 have hap:∀ j∈pfrz {l with cv:=v,cs:=l.cs++[x]},j ∉ zW mb {l with cv:=v,cs:=l.cs++[x]}∧j < w.heap.size:=fun j hj=>by
  rcases hfr j hj with h|h
  ·exact⟨fun h'=>(hft j h').elim (g.frz j h).1 (fun h''=>by have:=(g.frz j h).2;omega),(g.frz j h).2⟩
  ·have:=h4 j (hx j h).1
   exact⟨fun h'=>(hft j h').elim this.2.1 (fun h''=>by have:=this.1;omega),this.1⟩
 refine⟨⟨h0.through kk (fun j hj=>h2 j (hcv j hj)),hl,{l with cv:=v,cs:=l.cs++[x]},?_,fun j hj=>(hft j hj).elim (h2 j) (fun h=>.inr (Nat.le_trans h0.size h)),fun j hj=>(hfr j hj).elim (h3 j) (fun h=>.inr (hx j h).2)⟩,fun q hq o ho=>kk.obj ho (fun hj=>(h4 q hq).2.1 (hcv q hj))⟩
 refine⟨?_,g.low,g.tab.keep kk hrt,g.view,hO.keep k2 (fun j hj e=>(hvm j hj).1 (by simpa using e)),by simp[g.cls],fun c hc=>?_,g.code.keepF kk (fun j hj=>hxx j (by simp[pfrz,hj])),g.defs.keepF kk (fun j hj=>hxx j (by simp[pfrz,hj])),g.draws.keep kk (hz fun j hj=>by simp[pfrz,hj]),?_,fun j hj=>⟨(hap j hj).1,Nat.lt_of_lt_of_le (hap j hj).2 kk.size⟩⟩
 ·have:=heap_setCell_same w5 mb 31 _ _ v (k.obj g.head (fun hj=>n0.1 (List.mem_append_left _ hj)))
  rw[this]
  simp[xZ]
 ·rcases List.mem_append.1 hc with hc|hc
  ·exact⟨(g.callS c hc).1.keep kk (hz fun j hj=>kC hc (by simp[hj])),(g.callS c hc).2.1.keep kk (hz fun j hj=>kC hc (by simp[hj])),(g.callS c hc).2.2.keep kk (hz fun j hj=>kC hc (by simp[hj]))⟩
  ·rw[List.mem_singleton]at hc
   subst hc
   exact⟨hs.1.keep kk (hzx fun j hj=>by simp[hj]),hs.2.1.keep kk (hzx fun j hj=>by simp[hj]),hs.2.2.keep kk (hzx fun j hj=>by simp[hj])⟩
 ·simp only[zW]
  rw[List.nodup_cons,List.nodup_append]
  refine⟨fun hj=>?_,by cases v.ownBlock<;>simp,n1.2.1,fun a ha b hb e=>?_⟩
  ·rcases List.mem_append.1 hj with hj|hj
   ·exact(hvm mb (by simpa using hj)).1 rfl
   ·exact n0.1 (List.mem_append_right _ hj)
  ·subst e
   exact(hvm a (by simpa using ha)).2.1 hb
end
end Go.Proofs.YtppefchjoodgnaaGreat
