import Derived.Test.YtppefchjoodgnaaGreatPQ09
import Derived.Test.YtppefchjoodgnaaGreatPQ10
import Derived.BigQuiet
import Derived.Test.YtppefchjoodgnaaGreatPQ11
set_option linter.unusedSimpArgs false
set_option linter.unusedVariables false
namespace Go.Proofs.YtppefchjoodgnaaGreat
open Go.RowKit
section
variable {P:Program} {ops:Array Oper} {md:Region.Mode} {D:Bool→World→Prop} {s:Nat}
def vP (C:World→Prop):Result Next→Prop
 | .ok (.value _) w'=>C w'
 | .ok .skip w'=>C w'
 | _=>False
def YF (P:Program)(ops:Array Oper)(D:Bool→World→Prop)(s i:Nat)(o:Oper)(v:Value)(a:Act):Prop :=
 if i=s then o.dst=none∧Region.wanted o (yielded ops a.tmps)=true∧∀ w,D false w→vP (D true) ((execOp a.eval o).run P w)
 else ∀ b,YieldsIn P ops (D b) o v a
theorem YF.of_same {i:Nat}{o:Oper}{v:Value}{a a':Act}(hy:YF P ops D s i o v a)(he:execOp a'.eval o=execOp a.eval o)
  (hw:Region.wanted o (yielded ops a'.tmps)=Region.wanted o (yielded ops a.tmps)):YF P ops D s i o v a':=by
 unfold YF at *
 split
 ·rename_i h;rw[if_pos h]at hy;rw[he,hw];exact hy
 ·rename_i h;rw[if_neg h]at hy;exact fun b=>(hy b).of_same he hw
def fOp (P:Program)(ops:Array Oper)(D:Bool→World→Prop)(s i:Nat)(K:Act→Prop)(a:Act):Prop:=∃ o v,ops[i]?=some o∧YF P ops D s i o v a∧K (a.put o.dst v)
theorem fOp_mono {i:Nat}{a:Act}{K K':Act→Prop}(h:∀ a,K a→K' a):fOp P ops D s i K a→fOp P ops D s i K' a:=fun ⟨o,v,h1,h2,h3⟩=>⟨o,v,h1,h2,h _ h3⟩
theorem fOp_put {i j:Nat}{oi oj:Oper}{v:Value}(hj:ops[j]?=some oj)(hap:oi.apart ops oj=true)
  (hsi:∀ cs b,oi.op≠.select cs b) (hsj:∀ cs b,oj.op≠.select cs b) {K:Act→Prop} {a:Act}
  (hy:YF P ops D s i oi v a) (h:fOp P ops D s j K (a.put oi.dst v)):fOp P ops D s j (fun a'=>YF P ops D s i oi v a'∧K (a'.put oi.dst v)) a:=by
 obtain⟨h1,h2,h3⟩:=Oper.apart_spec hap
 obtain⟨o,u,ho,hu,hK⟩:=h
 have:o=oj:=Option.some.inj (ho.symm.trans hj)
 subst this
 refine⟨o,u,ho,hu.of_same (execOp_put o hsj a oi.dst v h1).symm (wanted_put o a oi.dst v h1).symm,hy.of_same (execOp_put oi hsi a o.dst u h3) (wanted_put oi a o.dst u h3),?_⟩
 rw[← Act.put_comm a v u h2]
 exact hK
theorem wpOp_of_fOp {i:Nat}{a:Act}{K:Act→Prop}{K':Act→World→Prop}{Q':Exit→Act→World→Prop}{w:World}{listed:Array Bool}(hun:listed.getD i true=false)(hD:D (listed.getD s false) w)
  (h:∀ a w',D ((listed.setIfInBounds i true).getD s false) w'→K a→K' a w') (hh:fOp P ops D s i K a):wpOp P ops Q' i K' a w:=by
 obtain⟨o,v,ho,hy,hK⟩:=hh
 unfold YF at hy
 by_cases his:i=s
 ·rw[if_pos his]at hy
  obtain⟨hd,hw,hst⟩:=hy
  subst his
  have hi:i < listed.size:=by
   rcases Nat.lt_or_ge i listed.size with h'|h'
   ·exact h'
   ·simp[Array.getElem?_eq_none h']at hun
  rw[getD_both hun]at hD
  have h1:=hst w hD
  have h2:(listed.setIfInBounds i true).getD i false=true:=by simp[hi]
  rw[h2]at h
  unfold wpOp
  simp only[ho,hw,if_true]
  left
  unfold Oper.wp
  rw[hd]at hK
  generalize (execOp a.eval o).run P w=r at *
  cases r with
  | ok n w' =>
   cases n<;>simp only[vP]at h1<;>simp only[Oper.upon,hd]<;>exact h _ _ h1 hK
  | halt x w'=>simp only[vP]at h1
 ·rw[if_neg his]at hy
  have h2:(listed.setIfInBounds i true).getD s false=listed.getD s false:=getD_set_ne false his
  rw[h2]at h
  exact wpOp_of_qOp hD (fun a' w' hw' hk=>h a' w' hw' hk) ((hy _).qOp ho hK)
def anyF (P:Program)(md:Region.Mode)(ops:Array Oper)(D:Bool→World→Prop)(s:Nat)(L:Array Bool→Act→Prop):Nat→Array Bool→Act→Prop
 | 0,listed,a=>Region.ready md ops listed=[]∧L listed a
 | f+1,listed,a=>Region.ready md ops listed≠[]∧∀ i∈Region.ready md ops listed,fOp P ops D s i (anyF P md ops D s L f (listed.setIfInBounds i true)) a
theorem any_of_anyF {L:Array Bool→Act→Prop}{Q':Exit→Act→World→Prop}(hL:∀ listed a w,D (listed.getD s false) w→L listed a→Q' .normal a w):
  ∀ (f:Nat) (listed:Array Bool) (a:Act) (w:World),D (listed.getD s false) w→anyF P md ops D s L f listed a→wpAny P md ops Q' f listed a w
 | 0,_,_,_,hw,h=>⟨h.1,hL _ _ _ hw h.2⟩
 | f+1,listed,a,w,hw,h=>⟨fun h0=>absurd h0 h.1,fun i hi=>wpOp_of_fOp (mem_ready.1 hi).1 hw (fun a' w' hw'=>any_of_anyF hL f _ a' w' hw') (h.2 i hi)⟩
theorem anyF_first {L:Array Bool→Act→Prop}{i:Nat}{oi:Oper}{v:Value}(hi:ops[i]?=some oi)(hsel:∀ (j:Nat) (o:Oper) cs b,ops[j]?=some o→o.op≠.select cs b):
  ∀ (f:Nat) (listed:Array Bool) (a:Act),
   (∀ j oj,ops[j]?=some oj→j≠i→listed.getD j true=false→(∀ e∈oj.after,Region.binds md e=true→e.on≠i)→oi.apart ops oj=true) →
   i∈Region.ready md ops listed→YF P ops D s i oi v a →
   anyF P md ops D s L f (listed.setIfInBounds i true) (a.put oi.dst v)→anyF P md ops D s L (f+1) listed a:=by
 intro f
 induction f with
 | zero =>
  intro listed a _ hr hy H
  refine⟨fun h=>(by rw[h]at hr;cases hr),fun j hj=>?_⟩
  by_cases hji:j=i
  ·subst hji;exact⟨oi,v,hi,hy,H⟩
  ·have:=ready_mono hj hji
   rw[H.1]at this
   cases this
 | succ f ih =>
  intro listed a hfree hr hy H
  refine⟨fun h=>(by rw[h]at hr;cases hr),fun j hj=>?_⟩
  by_cases hji:j=i
  ·subst hji;exact⟨oi,v,hi,hy,H⟩
  ·have h1:=H.2 j (ready_mono hj hji)
   obtain⟨hjun,oj,hoj,hall⟩:=mem_ready.1 hj
   have hnot:∀ e∈oj.after,Region.binds md e=true→e.on≠i:=fun e he hb heq=>by
    have h1:=hall e he hb
    rw[heq,getD_both (mem_ready.1 hr).1]at h1
    cases h1
   have h2:=fOp_put hoj (hfree j oj hoj hji hjun hnot) (fun cs b=>hsel i oi cs b hi) (fun cs b=>hsel j oj cs b hoj) hy h1
   have hfree':∀ k ok,ops[k]?=some ok→k≠i→(listed.setIfInBounds j true).getD k true=false →
     (∀ e∈ok.after,Region.binds md e=true→e.on≠i)→oi.apart ops ok=true:=fun k ok hk hki hun hno=>by
    refine hfree k ok hk hki ?_ hno
    by_cases hjk:j=k
    ·subst hjk;exact hjun
    ·rw[getD_set_ne true hjk]at hun;exact hun
   refine fOp_mono (fun a' h3=>ih (listed.setIfInBounds j true) a' hfree' (ready_mono hr (Ne.symm hji)) h3.1 ?_) h2
   rw[Array.setIfInBounds_comm _ _ hji]
   exact h3.2
def walkF (P:Program)(ops:Array Oper)(D:Bool→World→Prop)(s:Nat)(Lq:Act→Prop):List Oper→Nat→Act→Prop
 | [],_,a=>Lq a
 | o :: l,k,a=>∃ v,YF P ops D s k o v a∧walkF P ops D s Lq l (k+1) (a.put o.dst v)
theorem anyF_lex {Lq:Act→Prop}(hs:Region.noSelect ops=true):∀ (l:List Oper) (k:Nat) (listed:Array Bool) (a:Act),(∀ j,l[j]?=ops[k+j]?)→s < k+l.length→(s < k→listed.getD s false=true)→k+l.length≤listed.size →
  Region.lexFrom md ops l.length k listed=true→walkF P ops D s Lq l k a→anyF P md ops D s (fun listed' a'=>listed'.getD s false=true∧Lq a') l.length listed a
 | [],k,listed,a,_,hk,hls,_,hB,h=>⟨by simpa[Region.lexFrom]using hB,hls (by simpa using hk),h⟩
 | o :: l,k,listed,a,hl,hk,hls,hsz,hB,h=>by
  have h0:ops[k]?=some o:=by simpa using (hl 0).symm
  simp only[List.length_cons,Region.lexFrom,Bool.and_eq_true]at hB
  obtain⟨⟨hr,hf⟩,hB'⟩:=hB
  obtain⟨v,hy,hK⟩:=h
  simp only[List.length_cons]at hk hsz
  refine anyF_first h0 (Region.noSelect_spec hs) l.length listed a (Region.free_spec h0 hf) (by simpa using hr) hy
   (anyF_lex hs l (k+1) _ _ (fun j=>by have:=hl (j+1);simpa[Nat.add_assoc,Nat.add_comm 1 j]using this) (by omega) (fun hlt=>?_) (by simp;omega) hB' hK)
  by_cases hsk:s=k
  ·subst hsk
   have:s < listed.size:=by omega
   simp[this]
  ·exact getD_set_true (hls (by omega))
def jD (n:Nat):List Oper→Bool
 | []=>true
 | o :: l=>(match o.dst with|some d=>decide (d < n) && l.all (fun o'=>o'.dst != some d)|none=>false) && jD n l
theorem uV (a:Act)(d:Option Tmp)(v:Value):(a.put d v).tmps.size=a.tmps.size:=by
 cases d<;>simp[Act.put]
theorem kF {C:World→Prop}{F:Act}{d:Nat}:∀ (l:List Oper) (a:Act),wpQuiet P ops C (fun a'=>a'=F) l a→(l.all (fun o'=>o'.dst != some d))=true→F.tmps[d]?=a.tmps[d]?
 | [],a,h,_=>by rw[show a=F from h]
 | o :: l,a,h,hd=>by
  simp only[List.all_cons,Bool.and_eq_true,bne_iff_ne,ne_eq]at hd
  have hp:∀ v,(a.put o.dst v).tmps[d]?=a.tmps[d]?:=fun v=>by
   cases hd':o.dst with
   | none=>rfl
   | some e =>
    have:e≠d:=fun h=>hd.1 (by rw[hd',h])
    simp[Act.put,Array.getElem?_setIfInBounds_ne this]
  unfold wpQuiet at h
  split at h
  ·obtain⟨v,_,hn⟩:=h
   rw[kF l _ hn (by simpa using hd.2),hp]
  ·rw[kF l _ h (by simpa using hd.2),hp]
theorem xA {C:World→Prop}{Q:Act→Prop}{o:Oper}{l:List Oper}{a:Act}(h:wpQuiet P ops C Q (o :: l) a):∃ v,YieldsIn P ops C o v a∧wpQuiet P ops C Q l (a.put o.dst v):=by
 unfold wpQuiet at h
 by_cases hw:Region.wanted o (yielded ops a.tmps)=true
 ·simp only[hw,if_true]at h
  obtain⟨v,h1,h2⟩:=h
  exact⟨v,.inl ⟨hw,h1⟩,h2⟩
 ·simp only[hw]at h
  exact⟨undef,.inr ⟨by simpa using hw,rfl⟩,h⟩
theorem vG {F:Act}{Lq:Act→Prop}{l2:List Oper}(n:Nat):∀ (l:List Oper) (k:Nat) (a:Act),a.tmps.size=n→jD n l=true→(∀ j,j < l.length→k+j≠s) →
  (∀ b,wpQuiet P ops (D b) (fun a'=>a'=F) l a)→walkF P ops D s Lq l2 (k+l.length) F→walkF P ops D s Lq (l++l2) k a
 | [],k,a,_,_,_,h,h2=>by rw[show a=F from h true];simpa using h2
 | o :: l,k,a,hn,hd,hks,h,h2=>by
  obtain⟨v,hv,hv'⟩:=xA (h true)
  obtain⟨u,hu,hu'⟩:=xA (h false)
  simp only[jD,Bool.and_eq_true]at hd
  obtain⟨hd1,hd2⟩:=hd
  have huv:u=v:=by
   cases hd':o.dst with
   | none=>rw[hd']at hd1;simp at hd1
   | some d =>
    rw[hd']at hd1 hv' hu'
    simp only[Bool.and_eq_true,decide_eq_true_eq]at hd1
    have e1:=kF l _ hv' hd1.2
    have e2:=kF l _ hu' hd1.2
    have hlt:d < a.tmps.size:=by rw[hn];exact hd1.1
    simp[Act.put,hlt]at e1 e2
    rw[e1]at e2
    exact(Option.some.inj e2).symm
  subst huv
  refine⟨u,?_,vG n l (k+1) _ (by rw[uV];exact hn) hd2 (fun j hj=>by have:=hks (j+1) (by simpa using hj);omega) (fun b=>by cases b;exact hu';exact hv') ?_⟩
  ·have:k≠s:=by have:=hks 0 (by simp);simpa using this
   unfold YF
   rw[if_neg this]
   intro b
   cases b
   ·exact hu
   ·exact hv
  ·have e:k+(o :: l).length=k+1+l.length:=by simp only[List.length_cons];omega
   rw[← e]
   exact h2
theorem gU {o:Oper}{a:Act}{w:World}{C:World→Prop}{t:TypeId}{x y:Operand}(ho:o.op=.store t x y)(h:o.wp P a w (fun _ w'=>C w') (fun _ _ _=>False)):vP C ((execOp a.eval o).run P w):=by
 unfold Oper.wp at h
 have e:(execOp a.eval o).run P w=(do Instr.storeAt t (a.eval x) (a.eval y);pure Next.skip:Sem Next).run P w:=by simp only[execOp,ho]
 rw[e]at h ⊢
 have e2:(do Instr.storeAt t (a.eval x) (a.eval y);pure Next.skip:Sem Next).run P w=(match (Instr.storeAt t (a.eval x) (a.eval y)).run P w with|.ok _ w'=>.ok Next.skip w'|.halt x w'=>.halt x w'):=by
  simp only[Sem.run_bind]
  generalize (Instr.storeAt t (a.eval x) (a.eval y)).run P w=r
  cases r<;>rfl
 rw[e2]at h ⊢
 generalize (Instr.storeAt t (a.eval x) (a.eval y)).run P w=r at *
 cases r with
 | ok n w'=>exact h
 | halt z w'=>cases z<;>simp only[Oper.upon]at h
end
theorem pZ {P:Program}{id:Nat}{Q:Exit→Act→World→Prop}{a:Act}{w:World}{l:List Oper}(s:Nat)(l1 l2:List Oper)(os:Oper)(W1:World)(F1 F2:Act){t:TypeId}{x y:Operand}
  (hm:P.follows .mixedOrders=true) (hB:Region.lexB .any l.toArray=true) (hl:l=l1++os :: l2) (hs:l1.length=s) (hos:os.op=.store t x y) (hod:os.dst=none) (hd:(jD a.tmps.size l1 && jD a.tmps.size l2)=true)
  (h1:∀ W,(W=w∨W=W1)→wpQuiet P l.toArray (fun w'=>∃ n:Grow W,w'=n.val) (fun a'=>a'=F1) l1 a)
  (hw:Region.wanted os (yielded l.toArray F1.tmps)=true)
  (hst:∀ n:Grow w,os.wp P F1 n.val (fun _ w'=>∃ m:Grow W1,w'=m.val) (fun _ _ _=>False))
  (h2:∀ W,(W=w∨W=W1)→wpQuiet P l.toArray (fun w'=>∃ n:Grow W,w'=n.val) (fun a'=>a'=F2) l2 F1)
  (hQ:∀ n:Grow W1,Q .normal F2 n.val):(Code.region id l.toArray true).wp P Q a w:=by
 simp only[Region.lexB,Bool.and_eq_true]at hB hd
 have hsz:F1.tmps.size=a.tmps.size:=by
  have key:∀ (l0:List Oper) (a0:Act),wpQuiet P l.toArray (fun w'=>∃ n:Grow w,w'=n.val) (fun a'=>a'=F1) l0 a0→F1.tmps.size=a0.tmps.size:=by
   intro l0
   induction l0 with
   | nil=>intro a0 h;rw[show a0=F1 from h]
   | cons o l0 ih =>
    intro a0 h
    obtain⟨v,_,hv⟩:=xA h
    rw[ih _ hv,uV]
  exact key _ _ (h1 w (.inl rfl))
 have hWW:∀ b:Bool,(if b then W1 else w)=w∨(if b then W1 else w)=W1:=fun b=>by cases b<;>simp
 have hwalk:walkF P l.toArray (fun b w'=>∃ n:Grow (if b then W1 else w),w'=n.val) s (fun a'=>a'=F2) l 0 a:=by
  rw[hl]at *
  refine vG a.tmps.size l1 0 a rfl hd.1 (fun j hj=>by omega) (fun b=>h1 _ (hWW b)) ?_
  rw[Nat.zero_add,hs]
  refine⟨undef,?_,?_⟩
  ·unfold YF
   rw[if_pos rfl]
   exact⟨hod,hw,fun w' ⟨n,hn⟩=>by subst hn;exact gU hos (hst n)⟩
  ·rw[hod]
   show walkF P _ _ s _ l2 (s+1) F1
   have:=vG (P:=P) (ops:=(l1++os :: l2).toArray) (D:=fun b w'=>∃ n:Grow (if b then W1 else w),w'=n.val) (s:=s) (Lq:=fun a'=>a'=F2) (l2:=[]) (F:=F2) a.tmps.size l2 (s+1) F1 hsz hd.2 (fun j hj=>by omega) (fun b=>h2 _ (hWW b)) rfl
   simpa using this
 refine wp_region_any hm (any_of_anyF (D:=fun b w'=>∃ n:Grow (if b then W1 else w),w'=n.val) (s:=s) (L:=fun listed' a'=>listed'.getD s false=true∧a'=F2) (fun listed a' w' hw' hL=>?_) _ _ _ _ ?_ ?_)
 ·rw[hL.1]at hw'
  obtain⟨n,rfl⟩:=hw'
  rw[hL.2]
  exact hQ n
 ·rw[getD_replicate_false]
  exact⟨⟨_,Ext.drew' (Ext.rfl' w)⟩,rfl⟩
 ·have:=anyF_lex (md:=.any) hB.1 l 0 (Array.replicate l.toArray.size false) a (by simp) (by rw[hl,← hs];simp) (fun h=>absurd h (Nat.not_lt_zero _)) (by simp) (by simpa using hB.2) hwalk
  simpa using this
theorem pF {P:Program}{id:Nat}{Q:Exit→Act→World→Prop}{a:Act}{w:World}{l:List Oper}(s:Nat){os:Oper}(W1:World)(F1 F2:Act){t:TypeId}{x y:Operand}
  (hm:P.follows .mixedOrders=true) (hB:Region.lexB .any l.toArray=true) (hos:l[s]?=some os) (hop:os.op=.store t x y) (hod:os.dst=none) (hd:(jD a.tmps.size (l.take s) && jD a.tmps.size (l.drop (s+1)))=true)
  (h1:∀ W,(W=w∨W=W1)→wpQuiet P l.toArray (fun w'=>∃ n:Grow W,w'=n.val) (fun a'=>a'=F1) (l.take s) a)
  (hw:Region.wanted os (yielded l.toArray F1.tmps)=true)
  (hst:∀ n:Grow w,os.wp P F1 n.val (fun _ w'=>∃ m:Grow W1,w'=m.val) (fun _ _ _=>False))
  (h2:∀ W,(W=w∨W=W1)→wpQuiet P l.toArray (fun w'=>∃ n:Grow W,w'=n.val) (fun a'=>a'=F2) (l.drop (s+1)) F1)
  (hQ:∀ n:Grow W1,Q .normal F2 n.val):(Code.region id l.toArray true).wp P Q a w:=by
 obtain⟨hlt,hge⟩:=List.getElem?_eq_some_iff.1 hos
 refine pZ s (l.take s) (l.drop (s+1)) os W1 F1 F2 hm hB ?_ (by simp;omega) hop hod hd h1 hw hst h2 hQ
 rw[← hge]
 simp
theorem zC {P:Program}{id:Nat}{Q:Exit→Act→World→Prop}{a:Act}{w:World}{l:List Oper}(s:Nat){os:Oper}(W1:World){t:TypeId}{x y:Operand}
  (hm:P.follows .mixedOrders=true) (hB:Region.lexB .any l.toArray=true) (hos:l[s]?=some os) (hop:os.op=.store t x y) (hod:os.dst=none) (hd:(jD a.tmps.size (l.take s) && jD a.tmps.size (l.drop (s+1)))=true)
  (h:∃ F1 F2:Act,(∀ W,(W=w∨W=W1)→wpQuiet P l.toArray (fun w'=>∃ n:Grow W,w'=n.val) (fun a'=>a'=F1) (l.take s) a) ∧
   Region.wanted os (yielded l.toArray F1.tmps)=true ∧
   (∀ n:Grow w,os.wp P F1 n.val (fun _ w'=>∃ m:Grow W1,w'=m.val) (fun _ _ _=>False)) ∧
   (∀ W,(W=w∨W=W1)→wpQuiet P l.toArray (fun w'=>∃ n:Grow W,w'=n.val) (fun a'=>a'=F2) (l.drop (s+1)) F1) ∧
   (∀ n:Grow W1,Q .normal F2 n.val)):(Code.region id l.toArray true).wp P Q a w :=
 let ⟨F1,F2,h1,hw,hst,h2,hQ⟩:=h
 pF s W1 F1 F2 hm hB hos hop hod hd h1 hw hst h2 hQ
theorem Ext.both {w w':World}(h:Ext w w'){B i:Nat}{v:Value}(hB:B < w.heap.size):Ext (w.setCell ⟨B,i,none⟩ v) (w'.setCell ⟨B,i,none⟩ v):=by
 refine⟨h.1,h.2,h.3,by simpa[World.setCell]using h.4,fun k hk=>?_⟩
 have hk':k < w.heap.size:=by simpa[World.setCell]using hk
 simp only[World.setCell,Array.getElem?_modify,h.block k hk']
theorem zJ {wc W1:World}{B j:Nat}{o:Obj}(h:∀ j,j≠B→W1.heap[j]?=wc.heap[j]?)(ho:wc.heap[j]?=some o)(hj:j≠B):∀ W,(W=wc∨W=W1)→W.heap[j]?=some o:=by
 rintro W (rfl|rfl)
 ·exact ho
 ·rw[h j hj];exact ho
theorem zP {w0 wc:World}{B:Nat}{y0:Wh}(h:wc.heap[B]?=some (zF y0))(he:Ext w0 wc)(hb:w0.heap.size≤B)(k o:Int)(a b c:Bool)(n:Int):
  ∃ W1,Ext w0 W1∧W1.heap[B]?=some (zF ⟨k,o,a,b,c,n⟩)∧(∀ j,j≠B→W1.heap[j]?=wc.heap[j]?) ∧
   ∀ m:Grow wc,∃ m':Grow W1,((((((m.val.setCell ⟨B,0,none⟩ (.int .u8 k)).setCell ⟨B,1,none⟩ (.int .u8 o)).setCell ⟨B,2,none⟩ (.bool a)).setCell ⟨B,3,none⟩ (.bool b)).setCell ⟨B,4,none⟩ (.bool c)).setCell ⟨B,5,none⟩ (.int .i64 n))=m'.val:=by
 obtain⟨h1,h2⟩:=set6 h he hb k o a b c n
 have hB:=zE h
 refine⟨_,h2,h1,fun j hj=>?_,fun m=>⟨⟨_,?_⟩,rfl⟩⟩
 ·simp only[World.setCell,Array.getElem?_modify,if_neg (fun e:B=j=>hj e.symm)]
 ·exact(((((m.ext.both hB).both (by simpa using hB)).both (by simpa using hB)).both (by simpa using hB)).both (by simpa using hB)).both (by simpa using hB)
set_option maxRecDepth 20000 in
set_option maxHeartbeats 4000000 in
theorem p_swaps (x:Ins)(w:World)(hx:x.Ok):Calls Tryz.prog 115 #[x.agg] w (WhA (vL x) w):=by
 obtain⟨zd,hd⟩:∃ z,(x.dst != 10)=z:=⟨_,rfl⟩
 obtain⟨zs,hs⟩:∃ z,yN x true true false=z:=⟨_,rfl⟩
 obtain⟨i1,h1⟩:∃ z,(x.imm == 16)=z:=⟨_,rfl⟩
 obtain⟨i3,h3⟩:∃ z,(x.imm == 32)=z:=⟨_,rfl⟩
 obtain⟨i6,h6⟩:∃ z,(x.imm == 64)=z:=⟨_,rfl⟩
 obtain⟨wd,hw⟩:∃ z,(x.op != 212)=z:=⟨_,rfl⟩
 go_enter Tryz.func115,Tryz.ntmps115
 go_upto_region 1 with fail
 go_cut [4] (fun v wx=>∃ q n,v=.pointer (some ⟨q,0,none⟩)∧Hid (Ext w wx∧wx.heap[w.heap.size]?=some (zQ x)∧wx.heap[w.heap.size+1]?=some (zF Wh.zero)∧wx.heap[q]?=some (zF ⟨2,0,wd,false,false,n⟩)∧w.heap.size+1 < q)∧Hid ((x.imm=16→n=2)∧(x.imm=32→n=4)∧(x.imm=64→n=8)))
 case first =>
  go_wp2_with fail
  go_meet
  refine⟨_,wrap64 (wrap32 (x.imm.tdiv 8)),rfl,η ⟨by (repeat (first|exact xE0 _|assumption|refine xE1 ?_ _|refine xE2 ?_|refine xE3 ?_ _|refine xE4 ?_ (by assumption))),?_,?_,?_,?_⟩,η ⟨?_,?_,?_⟩⟩
  ·(repeat (first|(refine zD _ _ ?_;simp;done)|refine zB _ ?_))
  ·(repeat (first|(refine zD _ _ ?_;simp;done)|refine zB _ ?_))
  ·(repeat (first|(refine zD _ _ ?_;simp;done)|refine zB _ ?_))
  ·omega
  ·intro h;rw[h];decide +kernel
  ·intro h;rw[h];decide +kernel
  ·intro h;rw[h];decide +kernel
 case rest =>
  obtain⟨q,n,rfl,HW,HN⟩:=hcut
  have HAR:=η (swaps_ok x n zd zs i1 i3 i6 wd HN.out hd hs h1 h3 h6 hw)
  have HO1:=η HW.out.2.1
  have HO2:=η HW.out.2.2.1
  have HO3:=η HW.out.2.2.2.1
  have HE:=η HW.out.1
  go_upto_region 2 with fail
  have HQ:=HW.out.2.2.2.2
  cases zd with
  | false =>
   (obtain⟨W1,hE1,hB1,hO1,hS1⟩:=zP HO2.out HE.out (Nat.le_succ _) (2) (0) (wd) (false) (false) (n);have X1:=η (zJ hO1 HO1.out (by omega));have X3:=η (zJ hO1 HO3.out (by omega));clear hO1;have HS1:=η hS1;clear hS1;have HB1:=η hB1;clear hB1;refine zC 23 W1 (by kernel_rfl) (by kernel_rfl) rfl rfl rfl (by kernel_rfl) ?_;apply Exists.intro;apply Exists.intro;refine⟨fun W hW=>?_,rfl,fun nn=>?_,fun W hW=>?_,fun nn=>?_⟩;{have aZ:=fun n:Grow W=>n.ext.obj (X1.out W hW);obtain⟨a0,a1,a2,a3,a4⟩:=χ5 aZ;clear aZ;have qZ:=fun n:Grow W=>n.ext.obj (X3.out W hW);obtain⟨q0,q1,q2,q3,q4,q5⟩:=χ6 qZ;clear qZ;simp only[List.take_succ_cons,List.take_zero];(repeat (go_big_quiet_step (exact Calls.grow1 (kP x true true false _ _ hs))));exact wpQuiet_nil rfl};{have O2:=nn.ext.obj HO2.out;obtain⟨b0,b1,b2,b3,b4,b5⟩:=κ6 O2;have bf:=fun i=>zA (i:=i) O2;clear O2;go_simp;exact HS1.out nn};{simp only[List.drop_succ_cons,List.drop_zero];(repeat (go_big_quiet_step (fail)));exact wpQuiet_nil rfl};have hs:=nn.ext.obj HB1.out;obtain⟨r0,r1,r2,r3,r4,r5⟩:=κ6 hs;(try simp only[Exit.then]);(repeat (first|go_skip|go_step));refine bodyPost_ret (by simp[results,Tryz.results115,go_sem,r0,r1,r2,r3,r4,r5];try rfl) rfl ?_)
   exact⟨⟨2,0,wd,false,false,n⟩,_,rfl,HAR.out,hE1.trans' nn.ext⟩
  | true =>
   cases zs with
   | false =>
    (obtain⟨W1,hE1,hB1,hO1,hS1⟩:=zP HO2.out HE.out (Nat.le_succ _) (2) (0) (wd) (false) (false) (n);have X1:=η (zJ hO1 HO1.out (by omega));have X3:=η (zJ hO1 HO3.out (by omega));clear hO1;have HS1:=η hS1;clear hS1;have HB1:=η hB1;clear hB1;refine zC 23 W1 (by kernel_rfl) (by kernel_rfl) rfl rfl rfl (by kernel_rfl) ?_;apply Exists.intro;apply Exists.intro;refine⟨fun W hW=>?_,rfl,fun nn=>?_,fun W hW=>?_,fun nn=>?_⟩;{have aZ:=fun n:Grow W=>n.ext.obj (X1.out W hW);obtain⟨a0,a1,a2,a3,a4⟩:=χ5 aZ;clear aZ;have qZ:=fun n:Grow W=>n.ext.obj (X3.out W hW);obtain⟨q0,q1,q2,q3,q4,q5⟩:=χ6 qZ;clear qZ;simp only[List.take_succ_cons,List.take_zero];(repeat (go_big_quiet_step (exact Calls.grow1 (kP x true true false _ _ hs))));exact wpQuiet_nil rfl};{have O2:=nn.ext.obj HO2.out;obtain⟨b0,b1,b2,b3,b4,b5⟩:=κ6 O2;have bf:=fun i=>zA (i:=i) O2;clear O2;go_simp;exact HS1.out nn};{simp only[List.drop_succ_cons,List.drop_zero];(repeat (go_big_quiet_step (fail)));exact wpQuiet_nil rfl};have hs:=nn.ext.obj HB1.out;obtain⟨r0,r1,r2,r3,r4,r5⟩:=κ6 hs;(try simp only[Exit.then]);(repeat (first|go_skip|go_step));refine bodyPost_ret (by simp[results,Tryz.results115,go_sem,r0,r1,r2,r3,r4,r5];try rfl) rfl ?_)
    exact⟨⟨2,0,wd,false,false,n⟩,_,rfl,HAR.out,hE1.trans' nn.ext⟩
   | true =>
    cases i1
    ·cases i3
     ·(obtain⟨W1,hE1,hB1,hO1,hS1⟩:=zP HO2.out HE.out (Nat.le_succ _) (2) (0) (wd) (false) (false) (n);have X1:=η (zJ hO1 HO1.out (by omega));have X3:=η (zJ hO1 HO3.out (by omega));clear hO1;have HS1:=η hS1;clear hS1;have HB1:=η hB1;clear hB1;refine zC 23 W1 (by kernel_rfl) (by kernel_rfl) rfl rfl rfl (by kernel_rfl) ?_;apply Exists.intro;apply Exists.intro;refine⟨fun W hW=>?_,rfl,fun nn=>?_,fun W hW=>?_,fun nn=>?_⟩;{have aZ:=fun n:Grow W=>n.ext.obj (X1.out W hW);obtain⟨a0,a1,a2,a3,a4⟩:=χ5 aZ;clear aZ;have qZ:=fun n:Grow W=>n.ext.obj (X3.out W hW);obtain⟨q0,q1,q2,q3,q4,q5⟩:=χ6 qZ;clear qZ;simp only[List.take_succ_cons,List.take_zero];(repeat (go_big_quiet_step (exact Calls.grow1 (kP x true true false _ _ hs))));exact wpQuiet_nil rfl};{have O2:=nn.ext.obj HO2.out;obtain⟨b0,b1,b2,b3,b4,b5⟩:=κ6 O2;have bf:=fun i=>zA (i:=i) O2;clear O2;go_simp;exact HS1.out nn};{simp only[List.drop_succ_cons,List.drop_zero];(repeat (go_big_quiet_step (fail)));exact wpQuiet_nil rfl};have hs:=nn.ext.obj HB1.out;obtain⟨r0,r1,r2,r3,r4,r5⟩:=κ6 hs;(try simp only[Exit.then]);(repeat (first|go_skip|go_step));refine bodyPost_ret (by simp[results,Tryz.results115,go_sem,r0,r1,r2,r3,r4,r5];try rfl) rfl ?_)
      exact⟨⟨2,0,wd,false,false,n⟩,_,rfl,HAR.out,hE1.trans' nn.ext⟩
     ·(obtain⟨W1,hE1,hB1,hO1,hS1⟩:=zP HO2.out HE.out (Nat.le_succ _) (2) (0) (wd) (false) (false) (n);have X1:=η (zJ hO1 HO1.out (by omega));have X3:=η (zJ hO1 HO3.out (by omega));clear hO1;have HS1:=η hS1;clear hS1;have HB1:=η hB1;clear hB1;refine zC 23 W1 (by kernel_rfl) (by kernel_rfl) rfl rfl rfl (by kernel_rfl) ?_;apply Exists.intro;apply Exists.intro;refine⟨fun W hW=>?_,rfl,fun nn=>?_,fun W hW=>?_,fun nn=>?_⟩;{have aZ:=fun n:Grow W=>n.ext.obj (X1.out W hW);obtain⟨a0,a1,a2,a3,a4⟩:=χ5 aZ;clear aZ;have qZ:=fun n:Grow W=>n.ext.obj (X3.out W hW);obtain⟨q0,q1,q2,q3,q4,q5⟩:=χ6 qZ;clear qZ;simp only[List.take_succ_cons,List.take_zero];(repeat (go_big_quiet_step (exact Calls.grow1 (kP x true true false _ _ hs))));exact wpQuiet_nil rfl};{have O2:=nn.ext.obj HO2.out;obtain⟨b0,b1,b2,b3,b4,b5⟩:=κ6 O2;have bf:=fun i=>zA (i:=i) O2;clear O2;go_simp;exact HS1.out nn};{simp only[List.drop_succ_cons,List.drop_zero];(repeat (go_big_quiet_step (fail)));exact wpQuiet_nil rfl};have hs:=nn.ext.obj HB1.out;obtain⟨r0,r1,r2,r3,r4,r5⟩:=κ6 hs;(try simp only[Exit.then]);(repeat (first|go_skip|go_step));refine bodyPost_ret (by simp[results,Tryz.results115,go_sem,r0,r1,r2,r3,r4,r5];try rfl) rfl ?_)
      exact⟨⟨2,0,wd,false,false,n⟩,_,rfl,HAR.out,hE1.trans' nn.ext⟩
    ·(obtain⟨W1,hE1,hB1,hO1,hS1⟩:=zP HO2.out HE.out (Nat.le_succ _) (2) (0) (wd) (false) (false) (n);have X1:=η (zJ hO1 HO1.out (by omega));have X3:=η (zJ hO1 HO3.out (by omega));clear hO1;have HS1:=η hS1;clear hS1;have HB1:=η hB1;clear hB1;refine zC 23 W1 (by kernel_rfl) (by kernel_rfl) rfl rfl rfl (by kernel_rfl) ?_;apply Exists.intro;apply Exists.intro;refine⟨fun W hW=>?_,rfl,fun nn=>?_,fun W hW=>?_,fun nn=>?_⟩;{have aZ:=fun n:Grow W=>n.ext.obj (X1.out W hW);obtain⟨a0,a1,a2,a3,a4⟩:=χ5 aZ;clear aZ;have qZ:=fun n:Grow W=>n.ext.obj (X3.out W hW);obtain⟨q0,q1,q2,q3,q4,q5⟩:=χ6 qZ;clear qZ;simp only[List.take_succ_cons,List.take_zero];(repeat (go_big_quiet_step (exact Calls.grow1 (kP x true true false _ _ hs))));exact wpQuiet_nil rfl};{have O2:=nn.ext.obj HO2.out;obtain⟨b0,b1,b2,b3,b4,b5⟩:=κ6 O2;have bf:=fun i=>zA (i:=i) O2;clear O2;go_simp;exact HS1.out nn};{simp only[List.drop_succ_cons,List.drop_zero];(repeat (go_big_quiet_step (fail)));exact wpQuiet_nil rfl};have hs:=nn.ext.obj HB1.out;obtain⟨r0,r1,r2,r3,r4,r5⟩:=κ6 hs;(try simp only[Exit.then]);(repeat (first|go_skip|go_step));refine bodyPost_ret (by simp[results,Tryz.results115,go_sem,r0,r1,r2,r3,r4,r5];try rfl) rfl ?_)
     exact⟨⟨2,0,wd,false,false,n⟩,_,rfl,HAR.out,hE1.trans' nn.ext⟩
end Go.Proofs.YtppefchjoodgnaaGreat
