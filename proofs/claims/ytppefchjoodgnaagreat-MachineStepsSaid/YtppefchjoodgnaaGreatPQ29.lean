import Derived.Test.YtppefchjoodgnaaGreatPQ28
import Derived.Test.YtppefchjoodgnaaGreatPQ01
set_option linter.unusedSimpArgs false
set_option linter.unusedVariables false
namespace Go.Proofs.YtppefchjoodgnaaGreat
open Go.RowKit
section
variable {P:Program} {ops:Array Oper} {md:Region.Mode} {D:Bool→Bool→World→Prop} {s t m:Nat}
def YB (P:Program)(ops:Array Oper)(D:Bool→Bool→World→Prop)(s t m i:Nat)(o:Oper)(v:Value)(a:Act):Prop :=
 if i=s then Region.wanted o (yielded ops a.tmps)=true∧∀ b w,D false b w→tK (D true b) v ((execOp a.eval o).run P w)
 else if i=t then o.dst=none∧Region.wanted o (yielded ops a.tmps)=true∧∀ c w,D c false w→vP (D c true) ((execOp a.eval o).run P w)
 else ∀ c b,(m≤i→c=true)→YieldsIn P ops (D c b) o v a
theorem YB.of_same {i:Nat}{o:Oper}{v:Value}{a a':Act}(hy:YB P ops D s t m i o v a)(he:execOp a'.eval o=execOp a.eval o)
  (hw:Region.wanted o (yielded ops a'.tmps)=Region.wanted o (yielded ops a.tmps)):YB P ops D s t m i o v a':=by
 unfold YB at *
 split
 ·rename_i h;rw[if_pos h]at hy;rw[he,hw];exact hy
 ·rename_i h
  rw[if_neg h]at hy
  split
  ·rename_i h2;rw[if_pos h2]at hy;rw[he,hw];exact hy
  ·rename_i h2;rw[if_neg h2]at hy;exact fun c b hb=>(hy c b hb).of_same he hw
def bOp (P:Program)(ops:Array Oper)(D:Bool→Bool→World→Prop)(s t m i:Nat)(K:Act→Prop)(a:Act):Prop:=∃ o v,ops[i]?=some o∧YB P ops D s t m i o v a∧K (a.put o.dst v)
theorem bOp_mono {i:Nat}{a:Act}{K K':Act→Prop}(h:∀ a,K a→K' a):bOp P ops D s t m i K a→bOp P ops D s t m i K' a:=fun ⟨o,v,h1,h2,h3⟩=>⟨o,v,h1,h2,h _ h3⟩
theorem bOp_put {i j:Nat}{oi oj:Oper}{v:Value}(hj:ops[j]?=some oj)(hap:oi.apart ops oj=true)
  (hsi:∀ cs b,oi.op≠.select cs b) (hsj:∀ cs b,oj.op≠.select cs b) {K:Act→Prop} {a:Act}
  (hy:YB P ops D s t m i oi v a) (h:bOp P ops D s t m j K (a.put oi.dst v)):bOp P ops D s t m j (fun a'=>YB P ops D s t m i oi v a'∧K (a'.put oi.dst v)) a:=by
 obtain⟨h1,h2,h3⟩:=Oper.apart_spec hap
 obtain⟨o,u,ho,hu,hK⟩:=h
 have:o=oj:=Option.some.inj (ho.symm.trans hj)
 subst this
 refine⟨o,u,ho,hu.of_same (execOp_put o hsj a oi.dst v h1).symm (wanted_put o a oi.dst v h1).symm,hy.of_same (execOp_put oi hsi a o.dst u h3) (wanted_put oi a o.dst u h3),?_⟩
 rw[← Act.put_comm a v u h2]
 exact hK
theorem wpOp_of_bOp {i:Nat}{a:Act}{K:Act→Prop}{K':Act→World→Prop}{Q':Exit→Act→World→Prop}{w:World}{listed:Array Bool}(hun:listed.getD i true=false)(hD:D (listed.getD s false) (listed.getD t false) w)(hdp:m≤i→listed.getD s false=true)(hst:s≠t)
  (h:∀ a w',D ((listed.setIfInBounds i true).getD s false) ((listed.setIfInBounds i true).getD t false) w'→K a→K' a w') (hh:bOp P ops D s t m i K a):wpOp P ops Q' i K' a w:=by
 obtain⟨o,v,ho,hy,hK⟩:=hh
 have hi:i < listed.size:=by
  rcases Nat.lt_or_ge i listed.size with h'|h'
  ·exact h'
  ·simp[Array.getElem?_eq_none h']at hun
 have hii:(listed.setIfInBounds i true).getD i false=true:=by simp[hi]
 unfold YB at hy
 by_cases his:i=s
 ·rw[if_pos his]at hy
  obtain⟨hw,hst'⟩:=hy
  subst his
  rw[getD_both hun]at hD
  have h1:=hst' _ w hD
  have h2:(listed.setIfInBounds i true).getD t false=listed.getD t false:=getD_set_ne false hst
  rw[hii,h2]at h
  unfold wpOp
  simp only[ho,hw,if_true]
  left
  unfold Oper.wp
  generalize (execOp a.eval o).run P w=r at *
  cases r with
  | ok n w' =>
   cases n with
   | value u =>
    simp only[tK]at h1
    obtain⟨rfl,h1⟩:=h1
    simp only[Oper.upon]
    exact h _ _ h1 hK
   | _=>simp only[tK]at h1
  | halt x w'=>simp only[tK]at h1
 ·rw[if_neg his]at hy
  have h3:(listed.setIfInBounds i true).getD s false=listed.getD s false:=getD_set_ne false his
  by_cases hit:i=t
  ·rw[if_pos hit]at hy
   obtain⟨hd,hw,hst'⟩:=hy
   subst hit
   rw[getD_both hun]at hD
   have h1:=hst' _ w hD
   rw[hii,h3]at h
   unfold wpOp
   simp only[ho,hw,if_true]
   left
   unfold Oper.wp
   rw[hd]at hK
   generalize (execOp a.eval o).run P w=r at *
   cases r with
   | ok n w' =>
    cases n<;>simp only[vP]at h1<;>simp only[Oper.upon,hd]<;>exact h _ _ h1 hK
   | halt x w'=>simp only[vP]at h1
  ·rw[if_neg hit]at hy
   have h2:(listed.setIfInBounds i true).getD t false=listed.getD t false:=getD_set_ne false hit
   rw[h2,h3]at h
   exact wpOp_of_qOp hD (fun a' w' hw' hk=>h a' w' hw' hk) ((hy _ _ hdp).qOp ho hK)
def anyB (P:Program)(md:Region.Mode)(ops:Array Oper)(D:Bool→Bool→World→Prop)(s t m:Nat)(L:Array Bool→Act→Prop):Nat→Array Bool→Act→Prop
 | 0,listed,a=>Region.ready md ops listed=[]∧L listed a
 | f+1,listed,a=>Region.ready md ops listed≠[]∧∀ i∈Region.ready md ops listed,bOp P ops D s t m i (anyB P md ops D s t m L f (listed.setIfInBounds i true)) a
theorem ready_lt {listed:Array Bool}{i:Nat}(h:i∈Region.ready md ops listed):i < ops.size:=by
 obtain⟨_,o,ho,_⟩:=mem_ready.1 h
 exact(Array.getElem?_eq_some_iff.1 ho).1
theorem any_of_anyB {L:Array Bool→Act→Prop}{Q':Exit→Act→World→Prop}(hst:s≠t)(hB:waitsB md ops s m ops.size=true)(hL:∀ listed a w,D (listed.getD s false) (listed.getD t false) w→L listed a→Q' .normal a w):
  ∀ (f:Nat) (listed:Array Bool) (a:Act) (w:World),HeadInv md ops ops.size listed→D (listed.getD s false) (listed.getD t false) w→anyB P md ops D s t m L f listed a→wpAny P md ops Q' f listed a w
 | 0,_,_,_,_,hw,h=>⟨h.1,hL _ _ _ hw h.2⟩
 | f+1,listed,a,w,inv,hw,h=>⟨fun h0=>absurd h0 h.1,fun i hi=>wpOp_of_bOp (mem_ready.1 hi).1 hw (fun hm=>waits_listed hB inv i (ready_lt hi) hm (.inr hi)) hst (fun a' w' hw'=>any_of_anyB hst hB hL f _ a' w' (inv.set hi (ready_lt hi)) hw') (h.2 i hi)⟩
theorem anyB_first {L:Array Bool→Act→Prop}{i:Nat}{oi:Oper}{v:Value}(hi:ops[i]?=some oi)(hsel:∀ (j:Nat) (o:Oper) cs b,ops[j]?=some o→o.op≠.select cs b):
  ∀ (f:Nat) (listed:Array Bool) (a:Act),
   (∀ j oj,ops[j]?=some oj→j≠i→listed.getD j true=false→(∀ e∈oj.after,Region.binds md e=true→e.on≠i)→oi.apart ops oj=true) →
   i∈Region.ready md ops listed→YB P ops D s t m i oi v a →
   anyB P md ops D s t m L f (listed.setIfInBounds i true) (a.put oi.dst v)→anyB P md ops D s t m L (f+1) listed a:=by
 intro f
 induction f with
 | zero =>
  intro listed a _ hr hy H
  refine⟨fun h=>(by rw[h]at hr;cases hr),fun j hj=>?_⟩
  by_cases hji:j=i
  ·subst hji;exact⟨oi,v,hi,hy,H⟩
  ·have:=ready_mono hj hji
   rw[H.1]at this
   cases this
 | succ f ih =>
  intro listed a hfree hr hy H
  refine⟨fun h=>(by rw[h]at hr;cases hr),fun j hj=>?_⟩
  by_cases hji:j=i
  ·subst hji;exact⟨oi,v,hi,hy,H⟩
  ·have h1:=H.2 j (ready_mono hj hji)
   obtain⟨hjun,oj,hoj,hall⟩:=mem_ready.1 hj
   have hnot:∀ e∈oj.after,Region.binds md e=true→e.on≠i:=fun e he hb heq=>by
    have h1:=hall e he hb
    rw[heq,getD_both (mem_ready.1 hr).1]at h1
    cases h1
   have h2:=bOp_put hoj (hfree j oj hoj hji hjun hnot) (fun cs b=>hsel i oi cs b hi) (fun cs b=>hsel j oj cs b hoj) hy h1
   have hfree':∀ k ok,ops[k]?=some ok→k≠i→(listed.setIfInBounds j true).getD k true=false →
     (∀ e∈ok.after,Region.binds md e=true→e.on≠i)→oi.apart ops ok=true:=fun k ok hk hki hun hno=>by
    refine hfree k ok hk hki ?_ hno
    by_cases hjk:j=k
    ·subst hjk;exact hjun
    ·rw[getD_set_ne true hjk]at hun;exact hun
   refine bOp_mono (fun a' h3=>ih (listed.setIfInBounds j true) a' hfree' (ready_mono hr (Ne.symm hji)) h3.1 ?_) h2
   rw[Array.setIfInBounds_comm _ _ hji]
   exact h3.2
def walkB (P:Program)(ops:Array Oper)(D:Bool→Bool→World→Prop)(s t m:Nat)(Lq:Act→Prop):List Oper→Nat→Act→Prop
 | [],_,a=>Lq a
 | o :: l,k,a=>∃ v,YB P ops D s t m k o v a∧walkB P ops D s t m Lq l (k+1) (a.put o.dst v)
theorem anyB_lex {Lq:Act→Prop}(hs:Region.noSelect ops=true):∀ (l:List Oper) (k:Nat) (listed:Array Bool) (a:Act),(∀ j,l[j]?=ops[k+j]?)→s < k+l.length→t < k+l.length→(s < k→listed.getD s false=true)→(t < k→listed.getD t false=true)→k+l.length≤listed.size →
  Region.lexFrom md ops l.length k listed=true→walkB P ops D s t m Lq l k a→anyB P md ops D s t m (fun listed' a'=>listed'.getD s false=true∧listed'.getD t false=true∧Lq a') l.length listed a
 | [],k,listed,a,_,hk,hkt,hls,hlt,_,hB,h=>⟨by simpa[Region.lexFrom]using hB,hls (by simpa using hk),hlt (by simpa using hkt),h⟩
 | o :: l,k,listed,a,hl,hk,hkt,hls,hlt,hsz,hB,h=>by
  have h0:ops[k]?=some o:=by simpa using (hl 0).symm
  simp only[List.length_cons,Region.lexFrom,Bool.and_eq_true]at hB
  obtain⟨⟨hr,hf⟩,hB'⟩:=hB
  obtain⟨v,hy,hK⟩:=h
  simp only[List.length_cons]at hk hkt hsz
  have key:∀ q,(q < k→listed.getD q false=true)→q < k+1→(listed.setIfInBounds k true).getD q false=true:=fun q hq hlt=>by
   by_cases hsk:q=k
   ·subst hsk
    have:q < listed.size:=by omega
    simp[this]
   ·exact getD_set_true (hq (by omega))
  exact anyB_first h0 (Region.noSelect_spec hs) l.length listed a (Region.free_spec h0 hf) (by simpa using hr) hy
   (anyB_lex hs l (k+1) _ _ (fun j=>by have:=hl (j+1);simpa[Nat.add_assoc,Nat.add_comm 1 j]using this) (by omega) (by omega) (key s hls) (key t hlt) (by simp;omega) hB' hK)
theorem wp_region_b {id:Nat}{Q:Exit→Act→World→Prop}{a:Act}{w:World}{l:List Oper}(s t m:Nat)(hm:P.follows .mixedOrders=true)(hB:Region.lexB .any l.toArray=true)(hW:waitsB .any l.toArray s m l.toArray.size=true)(hsl:s < l.length)(htl:t < l.length)(hst:s≠t)
  (h0:D false false {w with drawn:=w.drawn+1}) (h:walkB P l.toArray D s t m (fun a'=>∀ w',D true true w'→Q .normal a' w') l 0 a):(Code.region id l.toArray true).wp P Q a w:=by
 simp only[Region.lexB,Bool.and_eq_true]at hB
 have inv0:HeadInv .any l.toArray l.toArray.size (Array.replicate l.toArray.size false) :=
  ⟨by simp,fun j oj _ hl=>(by rw[getD_replicate_false]at hl;cases hl),fun t h1 h2=>absurd h2 (by omega)⟩
 refine wp_region_any hm (any_of_anyB (D:=D) (s:=s) (t:=t) (m:=m) (L:=fun listed' a'=>listed'.getD s false=true∧listed'.getD t false=true∧∀ w',D true true w'→Q .normal a' w') hst hW (fun listed a' w' hw' hL=>?_) _ _ _ _ inv0 ?_ ?_)
 ·rw[hL.1,hL.2.1]at hw'
  exact hL.2.2 _ hw'
 ·rw[getD_replicate_false,getD_replicate_false]
  exact h0
 ·have:=anyB_lex (P:=P) (md:=.any) (D:=D) (s:=s) (t:=t) (m:=m) hB.1 l 0 (Array.replicate l.toArray.size false) a (by simp) (by omega) (by omega) (fun h=>absurd h (Nat.not_lt_zero _)) (fun h=>absurd h (Nat.not_lt_zero _)) (by simp) (by simpa using hB.2) h
  simpa using this
theorem kQ {F:Act}{Lq:Act→Prop}{l2:List Oper}(E:Bool→Bool→Prop)(c0 b0:Bool)(hE0:E c0 b0)(n:Nat):∀ (l:List Oper) (k:Nat) (a:Act),a.tmps.size=n→jD n l=true→(∀ j,j < l.length→k+j≠s∧k+j≠t∧∀ c b,(m≤k+j→c=true)→E c b) →
  (∀ c b,E c b→wpQuiet P ops (D c b) (fun a'=>a'=F) l a)→walkB P ops D s t m Lq l2 (k+l.length) F→walkB P ops D s t m Lq (l++l2) k a
 | [],k,a,_,_,_,h,h2=>by rw[show a=F from h _ _ hE0];simpa using h2
 | o :: l,k,a,hn,hd,hks,h,h2=>by
  obtain⟨v,hv,hv'⟩:=xA (h _ _ hE0)
  simp only[jD,Bool.and_eq_true]at hd
  obtain⟨hd1,hd2⟩:=hd
  have same:∀ c b,E c b→YieldsIn P ops (D c b) o v a∧wpQuiet P ops (D c b) (fun a'=>a'=F) l (a.put o.dst v):=fun c b hcb=>by
   obtain⟨u,hu,hu'⟩:=xA (h c b hcb)
   have huv:u=v∨o.dst=none:=by
    cases hd':o.dst with
    | none=>exact .inr rfl
    | some d =>
     rw[hd']at hd1 hv' hu'
     simp only[Bool.and_eq_true,decide_eq_true_eq]at hd1
     have e1:=kF l _ hv' hd1.2
     have e2:=kF l _ hu' hd1.2
     have hlt:d < a.tmps.size:=by rw[hn];exact hd1.1
     simp[Act.put,hlt]at e1 e2
     rw[e1]at e2
     exact .inl (Option.some.inj e2).symm
   rcases huv with rfl|hnone
   ·exact⟨hu,hu'⟩
   ·rw[hnone]at hd1;simp at hd1
  refine⟨v,?_,kQ E c0 b0 hE0 n l (k+1) _ (by rw[uV];exact hn) hd2 (fun j hj=>by have:=hks (j+1) (by simp only[List.length_cons];omega);rwa[show k+(j+1)=k+1+j by omega]at this) (fun c b hcb=>(same c b hcb).2) ?_⟩
  ·have:=hks 0 (by simp)
   rw[Nat.add_zero]at this
   unfold YB
   rw[if_neg this.1,if_neg this.2.1]
   intro c b hcb
   exact(same c b (this.2.2 c b hcb)).1
  ·have e:k+(o :: l).length=k+1+l.length:=by simp only[List.length_cons];omega
   rw[← e]
   exact h2
end
structure Cls (w:World)(R:Nat)(z0 z1 lit:Obj)(c b:Bool) where
 val:World
 keep:Keep [R] w val
 res:val.heap[R]?=some (if b then z1 else z0)
 lits:if c then val.heap[w.heap.size]?=some lit else val.heap.size=w.heap.size
theorem Cls.obj {w:World}{R:Nat}{z0 z1 lit:Obj}{c b:Bool}(n:Cls w R z0 z1 lit c b){k:Nat}{o:Obj}(ho:w.heap[k]?=some o)(hk:k≠R):n.val.heap[k]?=some o:=n.keep.obj ho (by simpa using hk)
theorem Cls.nonempty {w:World}{R:Nat}{z0:Obj}(z1 lit:Obj)(c b:Bool)(h:w.heap[R]?=some z0):Nonempty (Cls w R z0 z1 lit c b):=by
 have hR:=zE h
 refine⟨⟨{w with heap:=(w.heap.setIfInBounds R (if b then z1 else z0))++(if c then #[lit] else #[])},⟨rfl,rfl,rfl,by simp,fun k hk hF=>?_⟩,?_,?_⟩⟩
 ·have:R≠k:=by simp at hF;omega
  rw[Array.getElem?_append_left (by simpa using hk),Array.getElem?_setIfInBounds_ne this]
 ·rw[Array.getElem?_append_left (by simpa using hR)]
  simp[hR]
 ·cases c<;>simp[Array.getElem_push]
theorem Calls.cls {P:Program}{f:FuncId}{args:Array Value}{w:World}{R:Nat}{z0 z1 lit:Obj}{b:Bool}{n:Cls w R z0 z1 lit true b}{v:Value}(h:Calls P f args n.val fun e w'=>e=.returned v∧Ext n.val w'):
  Calls P f args n.val fun e w''=>e=.returned v∧∃ m:Cls w R z0 z1 lit true b,w''=m.val :=
 h.mono fun _ w' ⟨he,hE⟩=>⟨he,⟨w',n.keep.trans (Keep.of_ext hE),hE.obj n.res,by have:=n.lits;simp only[if_true]at this ⊢;exact hE.obj this⟩,rfl⟩
theorem Cls.alloc {w:World}{R:Nat}{z0 z1 lit:Obj}{b:Bool}(n:Cls w R z0 z1 lit false b):∃ m:Cls w R z0 z1 lit true b,n.val.alloc lit=m.val:=by
 have hz:n.val.heap.size=w.heap.size:=by have:=n.lits;simpa using this
 refine⟨⟨n.val.alloc lit,n.keep.trans (Keep.of_ext (Ext.alloc' (Ext.rfl' _) _)),zB _ n.res,?_⟩,rfl⟩
 simp only[if_true]
 exact zD _ _ hz.symm
theorem Cls.size {w:World}{R:Nat}{z0 z1 lit:Obj}{b:Bool}(n:Cls w R z0 z1 lit false b):n.val.heap.size=w.heap.size:=by have:=n.lits;simpa using this
theorem two_parts {α:Type}{l:List α}{s m t:Nat}{os ot:α}(h1:s < m)(h2:m≤t)(hs:l[s]?=some os)(ht:l[t]?=some ot):
  l=l.take s++(os :: ((l.take m).drop (s+1)++((l.take t).drop m++(ot :: l.drop (t+1))))):=by
 obtain⟨hsl,rfl⟩:=List.getElem?_eq_some_iff.1 hs
 obtain⟨htl,rfl⟩:=List.getElem?_eq_some_iff.1 ht
 have e3:l.drop t=l[t] :: l.drop (t+1):=List.drop_eq_getElem_cons htl
 have e2:l.drop m=(l.take t).drop m++l.drop t:=by
  conv=>lhs;rw[← List.take_append_drop t l]
  rw[List.drop_append_of_le_length (by simp;omega)]
 have e1:l.drop (s+1)=(l.take m).drop (s+1)++l.drop m:=by
  conv=>lhs;rw[← List.take_append_drop m l]
  rw[List.drop_append_of_le_length (by simp;omega)]
 conv=>lhs;rw[← List.take_append_drop s l]
 rw[List.drop_eq_getElem_cons hsl,e1,e2,e3]
theorem tE {P:Program}{id:Nat}{Q:Exit→Act→World→Prop}{a:Act}{w:World}{l:List Oper}(s t m R:Nat){os ot:Oper}(z0 z1 lit:Obj)(v:Value){ty:TypeId}{x y:Operand}
  (hm:P.follows .mixedOrders=true) (hB:Region.lexB .any l.toArray=true) (hW:waitsB .any l.toArray s m l.toArray.size=true) (hsm:s < m) (hmt:m≤t) (hos:l[s]?=some os) (hot:l[t]?=some ot) (hop:ot.op=.store ty x y) (hod:ot.dst=none)
  (hd:(jD a.tmps.size (l.take s) && (jD a.tmps.size ((l.take m).drop (s+1)) && (jD a.tmps.size ((l.take t).drop m) && jD a.tmps.size (l.drop (t+1)))))=true)
  (hz0:w.heap[R]?=some z0)
  (h:∃ F1 F2 F3 F4:Act,(∀ c b:Bool,wpQuiet P l.toArray (fun w'=>∃ n:Cls w R z0 z1 lit c b,w'=n.val) (fun a'=>a'=F1) (l.take s) a) ∧
   Region.wanted os (yielded l.toArray F1.tmps)=true ∧
   (∀ (b:Bool) (n:Cls w R z0 z1 lit false b),tK (fun w'=>∃ m:Cls w R z0 z1 lit true b,w'=m.val) v ((execOp F1.eval os).run P n.val)) ∧
   (∀ c b:Bool,wpQuiet P l.toArray (fun w'=>∃ n:Cls w R z0 z1 lit c b,w'=n.val) (fun a'=>a'=F2) ((l.take m).drop (s+1)) (F1.put os.dst v)) ∧
   (∀ b:Bool,wpQuiet P l.toArray (fun w'=>∃ n:Cls w R z0 z1 lit true b,w'=n.val) (fun a'=>a'=F3) ((l.take t).drop m) F2) ∧
   Region.wanted ot (yielded l.toArray F3.tmps)=true ∧
   (∀ (c:Bool) (n:Cls w R z0 z1 lit c false),ot.wp P F3 n.val (fun _ w'=>∃ m:Cls w R z0 z1 lit c true,w'=m.val) (fun _ _ _=>False)) ∧
   (∀ b:Bool,wpQuiet P l.toArray (fun w'=>∃ n:Cls w R z0 z1 lit true b,w'=n.val) (fun a'=>a'=F4) (l.drop (t+1)) F3) ∧
   (∀ n:Cls w R z0 z1 lit true true,Q .normal F4 n.val)):(Code.region id l.toArray true).wp P Q a w:=by
 obtain⟨F1,F2,F3,F4,h1,hw1,hst1,h2,h3,hw2,hst2,h4,hQ⟩:=h
 simp only[Bool.and_eq_true]at hd
 obtain⟨d1,d2,d3,d4⟩:=hd
 have hsl:=(List.getElem?_eq_some_iff.1 hos).1
 have htl:=(List.getElem?_eq_some_iff.1 hot).1
 have key:∀ (C:World→Prop) (F:Act) (l0:List Oper) (a0:Act),wpQuiet P l.toArray C (fun a'=>a'=F) l0 a0→F.tmps.size=a0.tmps.size:=by
  intro C F l0
  induction l0 with
  | nil=>intro a0 h;rw[show a0=F from h]
  | cons o l0 ih =>
   intro a0 h
   obtain⟨v,_,hv⟩:=xA h
   rw[ih _ hv,uV]
 have s1:F1.tmps.size=a.tmps.size:=key _ _ _ _ (h1 true true)
 have s2:F2.tmps.size=a.tmps.size:=by rw[key _ _ _ _ (h2 true true),uV,s1]
 have s3:F3.tmps.size=a.tmps.size:=by rw[key _ _ _ _ (h3 true),s2]
 refine wp_region_b (D:=fun c b w'=>∃ n:Cls w R z0 z1 lit c b,w'=n.val) s t m hm hB hW hsl htl (by omega) ⟨⟨w.drew,(Keep.rfl' _ _).drew,hz0,rfl⟩,rfl⟩ ?_
 have e:=two_parts hsm hmt hos hot
 have l1:(l.take s).length=s:=by simp;omega
 have l2:((l.take m).drop (s+1)).length=m - (s+1):=by simp;omega
 have l3:((l.take t).drop m).length=t - m:=by simp;omega
 have H:walkB P l.toArray (fun c b w'=>∃ n:Cls w R z0 z1 lit c b,w'=n.val) s t m (fun a'=>∀ w',(∃ n:Cls w R z0 z1 lit true true,w'=n.val)→Q .normal a' w') (l.take s++(os :: ((l.take m).drop (s+1)++((l.take t).drop m++(ot :: (l.drop (t+1)++[])))))) 0 a:=by
  refine kQ (fun _ _=>True) true true trivial a.tmps.size _ 0 a rfl d1 (fun j hj=>⟨by omega,by omega,fun _ _ _=>trivial⟩) (fun c b _=>h1 c b) ?_
  rw[Nat.zero_add,l1]
  refine⟨v,?_,?_⟩
  ·unfold YB
   rw[if_pos rfl]
   exact⟨hw1,fun b w' ⟨n,hn⟩=>by subst hn;exact hst1 b n⟩
  ·refine kQ (fun _ _=>True) true true trivial a.tmps.size _ (s+1) _ (by rw[uV];exact s1) d2 (fun j hj=>⟨by omega,by omega,fun _ _ _=>trivial⟩) (fun c b _=>h2 c b) ?_
   rw[l2,show s+1+(m - (s+1))=m by omega]
   refine kQ (fun c _=>c=true) true true rfl a.tmps.size _ m _ s2 d3 (fun j hj=>⟨by omega,by omega,fun c b h=>h (by omega)⟩) (fun c b hc=>by subst hc;exact h3 b) ?_
   rw[l3,show m+(t - m)=t by omega]
   refine⟨undef,?_,?_⟩
   ·unfold YB
    rw[if_neg (by omega),if_pos rfl]
    exact⟨hod,hw2,fun c w' ⟨n,hn⟩=>by subst hn;exact gU hop (hst2 c n)⟩
   ·rw[hod]
    show walkB P _ _ s t m _ (l.drop (t+1)++[]) (t+1) F3
    refine kQ (fun c _=>c=true) true true rfl a.tmps.size _ (t+1) _ s3 d4 (fun j hj=>⟨by omega,by omega,fun c b h=>h (by omega)⟩) (fun c b hc=>by subst hc;exact h4 b) ?_
    rintro w' ⟨n,rfl⟩
    exact hQ n
 rw[List.append_nil,← e]at H
 exact H
theorem six_same {w:World}{B:Nat}{y0:Wh}(h:w.heap[B]?=some (zF y0))(k o:Int)(a b c:Bool)(n:Int):
  ((((((w.setCell ⟨B,0,none⟩ (.int .u8 k)).setCell ⟨B,1,none⟩ (.int .u8 o)).setCell ⟨B,2,none⟩ (.bool a)).setCell ⟨B,3,none⟩ (.bool b)).setCell ⟨B,4,none⟩ (.bool c)).setCell ⟨B,5,none⟩ (.int .i64 n)).heap[B]?=some (zF ⟨k,o,a,b,c,n⟩):=by
 have h1:=heap_setCell_same w B 0 _ _ (.int .u8 k) h
 have h2:=heap_setCell_same _ B 1 _ _ (.int .u8 o) h1
 have h3:=heap_setCell_same _ B 2 _ _ (.bool a) h2
 have h4:=heap_setCell_same _ B 3 _ _ (.bool b) h3
 have h5:=heap_setCell_same _ B 4 _ _ (.bool c) h4
 have h6:=heap_setCell_same _ B 5 _ _ (.int .i64 n) h5
 simpa using h6
theorem Cls.store6 {w:World}{R:Nat}{y0:Wh}{lit:Obj}(k o:Int)(p q r:Bool)(sz:Int){c:Bool}(hR:R < w.heap.size)(n:Cls w R (zF y0) (zF ⟨k,o,p,q,r,sz⟩) lit c false):
  ∃ m:Cls w R (zF y0) (zF ⟨k,o,p,q,r,sz⟩) lit c true,((((((n.val.setCell ⟨R,0,none⟩ (.int .u8 k)).setCell ⟨R,1,none⟩ (.int .u8 o)).setCell ⟨R,2,none⟩ (.bool p)).setCell ⟨R,3,none⟩ (.bool q)).setCell ⟨R,4,none⟩ (.bool r)).setCell ⟨R,5,none⟩ (.int .i64 sz))=m.val:=by
 have h0:n.val.heap[R]?=some (zF y0):=n.res
 have hne:w.heap.size≠R:=by omega
 refine⟨⟨_,(((((n.keep.setCell (by simp) _).setCell (by simp) _).setCell (by simp) _).setCell (by simp) _).setCell (by simp) _).setCell (by simp) _,six_same h0 k o p q r sz,?_⟩,rfl⟩
 have hl:=n.lits
 cases c
 ·simp only[Bool.false_eq_true,if_false]at hl ⊢
  simpa[World.setCell]using hl
 ·simp only[if_true]at hl ⊢
  simp only[World.setCell,Array.getElem?_modify,if_neg (Ne.symm hne)]
  exact hl
theorem rd_obj {α:Type}{w:World}{k n:Nat}{e:TypeId}{sz:Nat}{enc:α→List Value}{xs:List α}(E:Enc sz enc)(h:w.heap[k]?=some (.cells (xs.flatMap enc).toArray e (0,0)))(hn:n=xs.length)(hm:xs.length≤1000):Rd w sz enc (.slice (some ⟨k,0,none⟩) n n) xs :=
 (own_obj (base:=0) E h (Nat.zero_le _) hn (by simp[maxLen];omega)).rd E
end Go.Proofs.YtppefchjoodgnaaGreat
