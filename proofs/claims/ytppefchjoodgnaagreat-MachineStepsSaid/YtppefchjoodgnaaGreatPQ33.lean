import Derived.Test.YtppefchjoodgnaaGreatPQ32
import Derived.Test.YtppefchjoodgnaaGreatPQ02
import Derived.Test.YtppefchjoodgnaaGreatPQ25
import Derived.Test.YtppefchjoodgnaaGreatPQ24
set_option linter.unusedSimpArgs false
set_option linter.unusedVariables false
namespace Go.Proofs.YtppefchjoodgnaaGreat
open Go.RowKit
structure TabOk (t:TM):Prop where
 few:(t.slots.length:Int)≤t.max
 max:t.max≤16
 key:t.key≤16
 keys:∀ p∈t.slots,p.1.size≤1000
structure RS.Core (σ:RS):Prop where
 ok:σ.Ok
 tab:∀ t∈σ.V.2,TabOk t
 dr:U64s σ.dr
 drl:σ.dr.length≤1000000
section
variable {σ:RS}
theorem RS.Core.setR (h:σ.Core){n:Int}(hn:u64R n)(d:Nat):(σ.setR d n).Core:=by
 refine⟨fun e he=>?_,h.tab,h.dr,h.drl⟩
 show u64R (updN σ.R d n e)
 unfold updN
 split
 ·exact hn
 ·exact h.ok e he
theorem RS.Core.setM (h:σ.Core)(M:Areas):(σ.setM M).Core:=⟨h.ok,h.tab,h.dr,h.drl⟩
theorem RS.Core.setV (h:σ.Core){V:Areas×List TM}(hV:∀ t∈V.2,TabOk t):({σ with V:=V}:RS).Core:=⟨h.ok,hV,h.dr,h.drl⟩
theorem tf_key {T:List TM}{i:Int}{n:Nat}{t:TM}(h:xE T i n=some t):t∈T∧(n:Int)=t.key:=by
 rcases qQ T i n with h1|⟨j,u,hj,hu,hk⟩
 ·rw[h1]at h;cases h
 ·subst hj
  rw[pW hu hk]at h
  cases h
  exact⟨List.mem_of_getElem? hu,hk⟩
theorem rput_tab {V:Areas×List TM}{i:Int}{ks vs:List Int}{fl:Int}(h:∀ t∈V.2,TabOk t):∀ t∈(rput V i ks vs fl).1.2,TabOk t:=by
 unfold rput
 cases hf:xE V.2 i ks.length with
 | none=>exact h
 | some t =>
  have ht:=tf_key hf
  have hT:=h t ht.1
  simp only
  by_cases h1:(vs.length:Int)≠t.val
  ·rw[if_pos h1];exact h
  rw[if_neg h1]
  by_cases h2:2 < fl
  ·rw[if_pos h2];exact h
  rw[if_neg h2]
  cases hl:t.slots.lookup (strOfNums ks) with
  | some n =>
   simp only
   by_cases h3:fl=1
   ·rw[if_pos h3];exact h
   ·rw[if_neg h3];exact h
  | none =>
   simp only
   by_cases h3:t.hash=false
   ·rw[if_pos h3];exact h
   rw[if_neg h3]
   by_cases h4:fl=2
   ·rw[if_pos h4];exact h
   rw[if_neg h4]
   by_cases h5:t.max≤t.slots.length
   ·rw[if_pos h5];exact h
   rw[if_neg h5]
   by_cases h6:1024≤t.made
   ·rw[if_pos h6];exact h
   rw[if_neg h6]
   by_cases h7:(yG V.1 (zS i t.made) vs false false).2=0
   ·rw[if_pos h7]
    intro u hu
    rcases List.mem_or_eq_of_mem_set hu with hu|rfl
    ·exact h u hu
    ·have hlen:(addR t (strOfNums ks)).slots.length=t.slots.length+1:=by
      have h8:=congrArg List.length (List.takeWhile_append_dropWhile (p:=ltK (strOfNums ks)) (l:=t.slots))
      simp only[List.length_append]at h8
      simp only[addR,List.length_append,List.length_singleton]
      omega
     refine⟨by rw[hlen];show ((t.slots.length+1:Nat):Int)≤t.max;omega,hT.max,hT.key,fun p hp=>?_⟩
     simp only[addR,List.mem_append,List.mem_singleton]at hp
     rcases hp with (hp|rfl)|hp
     ·exact hT.keys p ((List.takeWhile_sublist _).subset hp)
     ·show (strOfNums ks).size≤1000
      rw[tU]
      have:=ht.2
      have:=hT.key
      omega
     ·exact hT.keys p ((List.dropWhile_sublist _).subset hp)
   ·rw[if_neg h7];exact h
theorem rdrop_tab {T:List TM}{i:Int}{ks:List Int}(h:∀ t∈T,TabOk t):∀ t∈(xR T i ks).1,TabOk t:=by
 unfold xR
 cases hf:xE T i ks.length with
 | none=>exact h
 | some t =>
  have hT:=h t (tf_key hf).1
  simp only
  by_cases h1:t.hash=false
  ·rw[if_pos h1];exact h
  rw[if_neg h1]
  by_cases h2:(t.slots.filter (neK (strOfNums ks))).length=t.slots.length
  ·rw[if_pos h2];exact h
  rw[if_neg h2]
  intro u hu
  rcases List.mem_or_eq_of_mem_set hu with hu|rfl
  ·exact h u hu
  ·have:=List.length_filter_le (neK (strOfNums ks)) t.slots
   exact⟨by have:=hT.few;simp only;omega,hT.max,hT.key,fun p hp=>hT.keys p (List.mem_filter.1 hp).1⟩
theorem rput_ret (V:Areas×List TM)(i:Int)(ks vs:List Int)(fl:Int):u64R (rput V i ks vs fl).2.1:=by
 unfold rput
 (repeat' split)<;>(simp only[u64R];omega)
theorem rdrop_ret (T:List TM)(i:Int)(ks:List Int):u64R (xR T i ks).2.1:=by
 unfold xR
 (repeat' split)<;>(simp only[u64R];omega)
theorem tlook_ret (T:List TM)(i:Int)(ks:List Int):u64R (xT T i ks).1:=by
 unfold xT
 (repeat' split)<;>first|exact mat_le _ _|(simp only[u64R];omega)
theorem drawn_rng (id:Int)(xs:List Int):u64R (drawn id xs):=by
 unfold drawn
 (repeat' split)<;>first|exact bits_rng _ _ _ (by simp)|(simp only[u64R];omega)
theorem rest_sub (id:Int)(xs:List Int):List.Sublist (yD id xs) xs:=by
 unfold yD
 split
 ·exact List.drop_sublist _ _
 ·exact List.nil_sublist _
theorem RS.Core.drawn (h:σ.Core)(id:Int):({σ with dr:=yD id σ.dr}:RS).Core :=
 ⟨h.ok,h.tab,fun x hx=>h.dr x ((rest_sub id σ.dr).subset hx),Nat.le_trans (rest_sub id σ.dr).length_le h.drl⟩
theorem RS.Core.done (h:σ.Core){c:Cl}(hc:u64R c.ret):(σ.done c).Core:=by
 refine⟨fun e he=>?_,h.tab,h.dr,h.drl⟩
 show u64R (updN (fun j=>if 1≤j∧j≤5 then 0 else σ.R j) 0 c.ret e)
 unfold updN
 split
 ·exact hc
 ·show u64R (if 1≤e∧e≤5 then 0 else σ.R e)
  split
  ·exact⟨by decide,by decide⟩
  ·exact h.ok e he
theorem acts_tab (h:σ.Core)(c:Cl):(∀ t∈(σ.acts c).1.2,TabOk t)∧u64R (σ.acts c).2.1:=by
 unfold RS.acts
 by_cases h1:c.id=1
 ·rw[if_pos h1];exact⟨h.tab,tlook_ret _ _ _⟩
 rw[if_neg h1]
 by_cases h2:c.id=2
 ·rw[if_pos h2];exact⟨rput_tab h.tab,rput_ret _ _ _ _ _⟩
 rw[if_neg h2]
 by_cases h3:c.id=3
 ·rw[if_pos h3];exact⟨rdrop_tab h.tab,rdrop_ret _ _ _⟩
 rw[if_neg h3]
 exact⟨h.tab,by simp only[u64R];omega⟩
structure Left (σ σ':RS)(n:Nat):Prop where
 L:σ'.L=σ.L
 D:σ'.D=σ.D
 place:σ'.place=σ.place
 code:σ'.code=σ.code
 steps:σ'.steps=σ.steps
 calls:σ'.calls.length≤σ.calls.length+n
theorem Left.rfl' (n:Nat):Left σ σ n:=⟨rfl,rfl,rfl,rfl,rfl,by omega⟩
theorem pC (d:Nat)(n:Int)(m:Nat):Left σ (σ.setR d n) m:=⟨rfl,rfl,rfl,rfl,rfl,by show σ.calls.length≤_;omega⟩
theorem call_core (h:σ.Core)(x:Ins):(σ.call x).1.Core∧Left σ (σ.call x).1 1:=by
 have hd:∀ (s:RS) (c:Cl),Left σ s 0→Left σ (s.done c) 1:=fun s c hl=>⟨hl.L,hl.D,hl.place,hl.code,hl.steps,by show (s.calls++[c]).length≤_;have:=hl.calls;simp;omega⟩
 unfold RS.call
 by_cases h1:xF x.imm=false
 ·rw[if_pos h1];exact⟨h,Left.rfl' _⟩
 rw[if_neg h1]
 by_cases h2:(σ.told x.imm).2≠0
 ·rw[if_pos h2];exact⟨h,Left.rfl' _⟩
 rw[if_neg h2]
 by_cases h3:draws x.imm=true
 ·rw[if_pos h3]
  by_cases h4:yH x.imm σ.dr≠0
  ·rw[if_pos h4];exact⟨h,Left.rfl' _⟩
  rw[if_neg h4]
  exact⟨(h.drawn x.imm).done (drawn_rng _ _),hd _ _ ⟨rfl,rfl,rfl,rfl,rfl,Nat.le_refl _⟩⟩
 rw[if_neg h3]
 have ha:=acts_tab h (σ.told x.imm).1
 by_cases h4:(σ.acts (σ.told x.imm).1).2.2≠0
 ·rw[if_pos h4];exact⟨h.setV ha.1,⟨rfl,rfl,rfl,rfl,rfl,by show σ.calls.length≤_;omega⟩⟩
 rw[if_neg h4]
 exact⟨(h.setV ha.1).done ha.2,hd _ _ ⟨rfl,rfl,rfl,rfl,rfl,Nat.le_refl _⟩⟩
theorem rev_rng:∀ (k:Nat) (x o:Int),u64R o→u64R (revN k x o)
 | 0,x,o,h=>h
 | k+1,x,o,h=>by
  rw[revN]
  exact rev_rng k _ _ (by unfold u64R;omega)
theorem swap_rng {t:Bool}{n a:Int}(hn:n=16∨n=32∨n=64)(h0:0≤a)(h1:a≤18446744073709551615):u64R (kM t n a):=by
 have hc:=cutN_le h0 h1 (show wid n from .inr hn)
 unfold kM
 split
 ·exact rev_rng _ _ _ ⟨by decide,by decide⟩
 ·exact⟨hc.1,hc.2.1⟩
theorem does_core {x:Ins}{k:Wh}(h:σ.Core)(hb:BytesOk σ.V.1)(hx:x.Ok)(hk:KindOk x k):(σ.does x k).1.Core∧Left σ (σ.does x k).1 1:=by
 have hk12:k.kind=1∨k.kind=2∨k.kind=3∨k.kind=4∨k.kind=5∨(k.kind=6∨k.kind=7∨k.kind=8)∨k.kind=9∨k.kind=10∨k.kind=11∨k.kind=12:=by have:=hk.rng;omega
 have hdd:x.dst.toNat≤10:=by have:=hk.dst;omega
 have hR:=h.ok _ hdd
 have hB:=qX h.ok x k hk.src
 rcases hk12 with e|e|e|e|e|e|e|e|e|e
 ·simp only[RS.does,e,if_true]
  unfold RS.arith
  split
  ·exact⟨h,Left.rfl' _⟩
  ·refine⟨h.setR (alu_rng (hk.k1 e) hR ?_) _,pC _ _ _⟩
   unfold negB
   split
   ·exact⟨by decide,by decide⟩
   ·exact hB
 ·have hs:=hk.k2 e
  simp[RS.does,e]
  split
  ·exact⟨h,Left.rfl' _⟩
  ·exact⟨h.setR (swap_rng (by omega) hR.1 hR.2) _,pC _ _ _⟩
 ·simp[RS.does,e]
  cases hy:σ.L[σ.place.toNat+1]? with
  | none=>exact⟨h,Left.rfl' _⟩
  | some y=>exact⟨h.setR (by unfold longN u64R;omega) _,pC _ _ _⟩
 ·simp[RS.does,e]
  split
  ·exact⟨h,Left.rfl' _⟩
  ·have:=hk.k4 e
   have:=hx.imm
   exact⟨h.setR (by unfold u64R;omega) _,pC _ _ _⟩
 ·simp only[RS.does,e]
  simp
  unfold RS.load
  have hl:=uN hb (σ.addr x.src x) k.size
  split
  ·exact⟨h,Left.rfl' _⟩
  ·split
   ·exact⟨h,Left.rfl' _⟩
   ·refine⟨h.setR ?_ _,pC _ _ _⟩
    split
    ·have hsz:=hk.km (by omega) (by omega)
     exact jK (by simp only[wid];omega) hl.1 hl.2
    ·exact hl
 ·have he:k.kind≠1∧k.kind≠2∧k.kind≠3∧k.kind≠4∧k.kind≠5:=by omega
  simp only[RS.does,he.1,he.2.1,he.2.2.1,he.2.2.2.1,he.2.2.2.2,if_false,e,if_true]
  unfold RS.store RS.putM
  split
  ·exact⟨h,Left.rfl' _⟩
  ·split
   ·split
    ·exact⟨h,Left.rfl' _⟩
    ·exact⟨h.setM _,⟨rfl,rfl,rfl,rfl,rfl,by show σ.calls.length≤_;omega⟩⟩
   ·exact⟨h.setM _,⟨rfl,rfl,rfl,rfl,rfl,by show σ.calls.length≤_;omega⟩⟩
 ·simp[RS.does,e]
  exact⟨h,Left.rfl' _⟩
 ·simp[RS.does,e]
  split
  ·exact⟨h,Left.rfl' _⟩
  ·exact⟨h,Left.rfl' _⟩
 ·simp only[RS.does,e]
  simp
  exact call_core h x
 ·simp[RS.does,e]
  split
  ·exact⟨h,Left.rfl' _⟩
  ·exact⟨⟨h.ok,h.tab,h.dr,h.drl⟩,⟨rfl,rfl,rfl,rfl,rfl,by show σ.calls.length≤_;omega⟩⟩
structure RS.Inv (σ:RS):Prop where
 core:σ.Core
 prog:yX σ.L=true
 ins:InsOk σ.L
 calls:(σ.calls.length:Int)≤σ.steps
 place:0≤σ.place∧(stF false σ.L)[σ.place.toNat]?=some true
theorem RS.Inv.good (h:σ.Inv)(hs:σ.steps≤1000000):σ.Good :=
 ⟨h.core.ok,fun t ht=>by have:=h.core.tab t ht;have:=this.few;have:=(h.core.tab t ht).max;omega,h.core.dr,h.core.drl,by have:=h.calls;omega,(ProgF.of h.prog).len.2,⟨by have:=h.calls;omega,hs⟩,h.ins⟩
theorem start_on {L:List Ins}(hp:yX L=true)(hi:InsOk L){p:Nat}(hs:(stF false L)[p]?=some true):∃ x,L[p]?=some x∧x.Ok∧KindOk x (zL x)∧kU L x p=true∧((zL x).kind=3→∃ y,L[p+1]?=some y):=by
 have hlt:p < L.length:=by rw[← xP false L];exact(List.getElem?_eq_some_iff.1 hs).1
 obtain⟨x,hx⟩:∃ x,L[p]?=some x:=⟨_,List.getElem?_eq_getElem hlt⟩
 have hw:kU L x p=true:=by rw[← (jP hs hx).1];exact(ProgF.of hp).o1 p hlt
 have hsome:(xH x).isSome=true:=by
  unfold kU at hw
  rw[Bool.and_eq_true]at hw
  exact hw.1
 obtain⟨k,hk⟩:=Option.isSome_iff_exists.1 hsome
 have hz:zL x=k:=by unfold zL;rw[hk];rfl
 have hko:=kind_ok x k hk
 refine⟨x,hx,hi.at hx,by rw[hz];exact hko,hw,fun h3=>?_⟩
 have h24:x.op=24:=hko.k3.1 (.inl (by rw[← hz];exact h3))
 unfold kU at hw
 rw[Bool.and_eq_true]at hw
 have h2:=hw.2
 rw[h24]at h2
 cases hy:L[p+1]? with
 | none=>rw[hy]at h2;simp at h2
 | some y=>exact⟨y,rfl⟩
theorem RS.Inv.on (h:σ.Inv):∃ x,σ.On σ.place.toNat x:=by
 obtain⟨x,h1,h2,h3,_,h5⟩:=start_on h.prog h.ins h.place.2
 exact⟨x,by have:=h.place.1;omega,h1,h2,h3,h5⟩
theorem target_some {L:List Ins}(hp:yX L=true){p:Nat}{x:Ins}(hs:(stF false L)[p]?=some true)(hx:L[p]?=some x)(hk:(zL x).kind=9∨(zL x).kind=10):∃ t,yT L x p=some t:=by
 have h2:=(ProgF.of hp).o2 p (List.getElem?_eq_some_iff.1 hx).1
 rw[(jP hs hx).2.1]at h2
 unfold yT
 cases ht:toS x p with
 | none=>unfold toS at ht;rw[if_pos hk]at ht;cases ht
 | some t =>
  rw[ht]at h2
  simp only[kK,Bool.and_eq_true,decide_eq_true_eq]at h2
  exact⟨t,by simp only;rw[if_pos ⟨h2.1,h2.2.1⟩]⟩
theorem call_over (x:Ins):(σ.call x).1.over=σ.over:=by
 unfold RS.call
 (repeat' split)<;>rfl
theorem call_err (x:Ins)(h:(σ.call x).2≠0):(σ.call x).1.calls=σ.calls:=by
 revert h
 unfold RS.call
 (repeat' split)<;>intro h<;>first|rfl|exact absurd rfl h
theorem jW {c:Prop}[Decidable c]{a b:RS×Int×Int}{n:List Cl}(ha:a.1.calls=n)(hb:b.1.calls=n):(if c then a else b).1.calls=n:=by split<;>assumption
theorem pM {c:Prop}[Decidable c]{a b:RS×Int}{n:List Cl}(ha:a.1.calls=n)(hb:b.1.calls=n):(if c then a else b).1.calls=n:=by split<;>assumption
theorem does_calls (x:Ins)(k:Wh)(hk:k.kind≠11):(σ.does x k).1.calls=σ.calls:=by
 unfold RS.does
 rw[if_neg hk]
 refine jW (pM rfl rfl) (jW (jW rfl rfl) (jW ?_ (jW (jW rfl rfl) (jW (pM rfl (pM rfl rfl)) (jW (pM rfl (pM (pM rfl rfl) rfl)) (jW rfl (jW (jW rfl rfl) (jW (jW rfl rfl) rfl))))))))
 cases σ.L[σ.place.toNat+1]?<;>rfl
theorem does_err (x:Ins)(k:Wh)(h:(σ.does x k).2.2≠0):(σ.does x k).1.calls=σ.calls:=by
 by_cases hk:k.kind=11
 ·have e:σ.does x k=((σ.call x).1,(zT x σ.place.toNat:Int),(σ.call x).2):=by simp[RS.does,hk]
  rw[e]at h ⊢
  exact call_err x h
 ·exact does_calls x k hk
theorem does_next {x:Ins}{p:Nat}(hp:yX σ.L=true)(hon:σ.On p x)(hs:(stF false σ.L)[p]?=some true)(he:(σ.does x (zL x)).2.2=0):
  ((zL x).kind=12∧(σ.does x (zL x)).2.1=p∧(σ.does x (zL x)).1={σ with over:=true})∨((σ.does x (zL x)).2.1∈tM σ.L x p∧(σ.does x (zL x)).1.over=σ.over):=by
 obtain⟨k,hk⟩:∃ k,zL x=k:=⟨_,rfl⟩
 have hpt:σ.place.toNat=p:=by have:=hon.place;omega
 have hko:=hon.kind
 rw[hk]at he hko ⊢
 have hnext:k.kind≠12→k.kind≠9→((zT x p:Nat):Int)∈tM σ.L x p:=fun h1 h2=>mem_ahead.2 (.inl ⟨by unfold goesOn;rw[hk];simp[h1,h2],rfl⟩)
 have htgt:k.kind=9∨k.kind=10→(yT σ.L x p).getD 0∈tM σ.L x p:=fun h=>by
  obtain⟨t,ht⟩:=target_some hp hs hon.code (by rw[hk];exact h)
  rw[ht]
  exact mem_ahead.2 (.inr (by rw[ht];rfl))
 have hk12:k.kind=1∨k.kind=2∨k.kind=3∨k.kind=4∨k.kind=5∨(k.kind=6∨k.kind=7∨k.kind=8)∨k.kind=9∨k.kind=10∨k.kind=11∨k.kind=12:=by have:=hko.rng;omega
 rcases hk12 with e|e|e|e|e|e|e|e|e|e
 ·right
  refine⟨?_,?_⟩
  ·simp only[RS.does,e,if_true,hpt];exact hnext (by omega) (by omega)
  ·simp only[RS.does,e,if_true];unfold RS.arith;split<;>rfl
 ·right
  by_cases hS:σ.S x.dst.toNat=false
  ·simp[RS.does,e,hS]at he
  ·simp[RS.does,e,hS,hpt];exact⟨hnext (by omega) (by omega),rfl⟩
 ·right
  obtain⟨y,hy⟩:=hon.long (by rw[hk];exact e)
  simp[RS.does,e,hpt,hy]
  exact⟨hnext (by omega) (by omega),rfl⟩
 ·right
  by_cases hS:(σ.D.length:Int)≤x.imm
  ·simp[RS.does,e,hS]at he
  ·simp[RS.does,e,hS,hpt];exact⟨hnext (by omega) (by omega),rfl⟩
 ·right
  refine⟨?_,?_⟩
  ·simp[RS.does,e,hpt];exact hnext (by omega) (by omega)
  ·simp only[RS.does,e];simp;unfold RS.load;(repeat' split)<;>rfl
 ·right
  have he':k.kind≠1∧k.kind≠2∧k.kind≠3∧k.kind≠4∧k.kind≠5:=by omega
  refine⟨?_,?_⟩
  ·simp only[RS.does,he'.1,he'.2.1,he'.2.2.1,he'.2.2.2.1,he'.2.2.2.2,if_false,e,if_true,hpt];exact hnext (by omega) (by omega)
  ·simp only[RS.does,he'.1,he'.2.1,he'.2.2.1,he'.2.2.2.1,he'.2.2.2.2,if_false,e,if_true];unfold RS.store RS.putM;(repeat' split)<;>rfl
 ·right
  refine⟨?_,?_⟩
  ·simp[RS.does,e,hpt];exact htgt (.inl e)
  ·simp[RS.does,e]
 ·right
  by_cases hS:(σ.second x k).2=false∨σ.S x.dst.toNat=false
  ·simp only[RS.does,e]at he;simp[hS]at he
  ·refine⟨?_,?_⟩
   ·simp only[RS.does,e,hpt]
    simp only[show ¬ ((10:Int)=1) by decide,show ¬ ((10:Int)=2) by decide,show ¬ ((10:Int)=3) by decide,show ¬ ((10:Int)=4) by decide,show ¬ ((10:Int)=5) by decide,show ¬ ((10:Int)=6∨(10:Int)=7∨(10:Int)=8) by decide,show ¬ ((10:Int)=9) by decide,if_false,if_true,hS]
    split
    ·exact htgt (.inr e)
    ·exact hnext (by omega) (by omega)
   ·simp only[RS.does,e]
    simp[hS]
 ·right
  refine⟨?_,?_⟩
  ·simp[RS.does,e,hpt];exact hnext (by omega) (by omega)
  ·simp only[RS.does,e];simp;exact call_over x
 ·left
  by_cases hS:σ.S 0=false
  ·simp[RS.does,e,hS]at he
  ·refine⟨e,?_,?_⟩
   ·simp[RS.does,e,hS];exact hon.place
   ·simp[RS.does,e,hS]
theorem RS.Inv.step (h:σ.Inv)(hb:BytesOk σ.V.1):σ.step.1.Inv∧σ.step.1.L=σ.L∧σ.step.1.D=σ.D:=by
 obtain⟨x,hon⟩:=h.on
 unfold RS.step
 by_cases hov:σ.over=true
 ·rw[if_pos hov];exact⟨h,rfl,rfl⟩
 rw[if_neg hov,hon.code]
 simp only
 obtain⟨hc,hl⟩:=does_core h.core hb hon.ok hon.kind
 have hcl:=hl.calls
 have hcc:=h.calls
 by_cases he:(σ.does x (zL x)).2.2≠0
 ·rw[if_pos he]
  refine⟨⟨⟨hc.ok,hc.tab,hc.dr,hc.drl⟩,by show yX (σ.does x (zL x)).1.L=true;rw[hl.L];exact h.prog,by show InsOk (σ.does x (zL x)).1.L;rw[hl.L];exact h.ins,?_,?_⟩,hl.L,hl.D⟩
  ·show ((σ.does x (zL x)).1.calls.length:Int)≤(σ.does x (zL x)).1.steps
   rw[does_err _ _ he,hl.steps]
   exact h.calls
  ·show 0≤(σ.does x (zL x)).1.place∧(stF false (σ.does x (zL x)).1.L)[(σ.does x (zL x)).1.place.toNat]?=some true
   rw[hl.L,hl.place]
   exact h.place
 ·rw[if_neg he]
  have he0:(σ.does x (zL x)).2.2=0:=by simpa using he
  refine⟨⟨⟨hc.ok,hc.tab,hc.dr,hc.drl⟩,by show yX (σ.does x (zL x)).1.L=true;rw[hl.L];exact h.prog,by show InsOk (σ.does x (zL x)).1.L;rw[hl.L];exact h.ins,?_,?_⟩,hl.L,hl.D⟩
  ·show ((σ.does x (zL x)).1.calls.length:Int)≤(σ.does x (zL x)).1.steps+1
   rw[hl.steps]
   omega
  ·show 0≤(σ.does x (zL x)).2.1∧(stF false (σ.does x (zL x)).1.L)[(σ.does x (zL x)).2.1.toNat]?=some true
   rw[hl.L]
   rcases does_next h.prog hon h.place.2 he0 with ⟨_,h2,_⟩|⟨h2,_⟩
   ·rw[h2];exact⟨by omega,by rw[Int.toNat_natCast];exact h.place.2⟩
   ·have:=ahead_start (ProgF.of h.prog) h.place.2 hon.code h2
    exact⟨this.1,this.2.2⟩
end
theorem mread_len {M:Areas}{p s:Int}(hp:0≤p)(h:(yK M p s).2=0):((yK M p s).1.length:Int)=s:=by
 by_cases hb:s < 0∨1024 < s
 ·rw[read_bad hb]at h;simp at h
 ·cases hf:kS M p s with
  | none=>rw[gD hb hf]at h;simp at h
  | some q =>
   obtain⟨A,o⟩:=q
   cases hc:(cutL A.put o s.toNat).contains false with
   | true=>rw[vJ hb hf hc]at h;simp at h
   | false =>
    rw[tZ hb hf hc]
    have:=(tY hp (by omega) hf).1
    simp only[cutL,List.length_take,List.length_drop]
    omega
def DefsOk (D:List TDef):Prop:=∀ d∈D,1≤d.key∧1≤d.val
section
variable {σ:RS}
theorem told_tells {id:Int}(h:(σ.told id).2=0):(σ.tells (Cl.new id) 0 (zU id)).2=0∧(σ.told id).1=(σ.tells (Cl.new id) 0 (zU id)).1:=by
 unfold RS.told at h ⊢
 by_cases hz:(σ.tells (Cl.new id) 0 (zU id)).2≠0
 ·rw[if_pos hz]at h;exact absurd h hz
 ·rw[if_neg hz];exact⟨by simpa using hz,rfl⟩
theorem pick_in {α:Type}{L:List α}{i:Int}{x:α}(h:pick L i=some x):x∈L:=by
 unfold pick at h
 split at h
 ·cases h
 ·exact List.mem_of_getElem? h
theorem tell1 {c:Cl}{i:Nat}(h:(σ.tell c i 1).2=0):(∃ d,pick σ.D (σ.tell c i 1).1.map=some d)∧(σ.tell c i 1).1.key=c.key∧(σ.tell c i 1).1.val=c.val:=by
 unfold RS.tell at h ⊢
 by_cases hs:σ.S (i+1)=false
 ·rw[if_pos hs]at h;simp at h
 ·rw[if_neg hs]at h ⊢
  rw[if_pos rfl]at h ⊢
  refine⟨?_,rfl,rfl⟩
  simp only at h ⊢
  by_cases ht:tblN σ.D.length (σ.R (i+1)) < 0
  ·rw[if_pos ht]at h;cases h
  ·unfold pick
   rw[if_neg ht]
   unfold tblN at ht ⊢
   by_cases hr:12884901888≤σ.R (i+1)∧σ.R (i+1) < 12884901888+(σ.D.length:Int)
   ·rw[if_pos hr]
    exact⟨_,List.getElem?_eq_getElem (by omega)⟩
   ·rw[if_neg hr]at ht;omega
theorem tell2 {c:Cl}{i:Nat}{d:TDef}(ho:u64R (σ.R (i+1)))(hd:pick σ.D c.map=some d)(h:(σ.tell c i 2).2=0):(σ.tell c i 2).1.map=c.map∧((σ.tell c i 2).1.key.length:Int)=d.key∧(σ.tell c i 2).1.val=c.val:=by
 unfold RS.tell at h ⊢
 by_cases hs:σ.S (i+1)=false
 ·rw[if_pos hs]at h;simp at h
 ·rw[if_neg hs]at h ⊢
  rw[if_neg (by decide),if_pos rfl]at h ⊢
  simp only[hd,Option.map_some,Option.getD_some]at h ⊢
  refine⟨?_,mread_len ho.1 h,?_⟩<;>first|rfl|trivial
theorem tell3 {c:Cl}{i:Nat}{d:TDef}(ho:u64R (σ.R (i+1)))(hd:pick σ.D c.map=some d)(h:(σ.tell c i 3).2=0):(σ.tell c i 3).1.map=c.map∧(σ.tell c i 3).1.key=c.key∧((σ.tell c i 3).1.val.length:Int)=d.val:=by
 unfold RS.tell at h ⊢
 by_cases hs:σ.S (i+1)=false
 ·rw[if_pos hs]at h;simp at h
 ·rw[if_neg hs]at h ⊢
  rw[if_neg (by decide),if_neg (by decide),if_pos rfl]at h ⊢
  simp only[hd,Option.map_some,Option.getD_some]at h ⊢
  refine⟨?_,?_,mread_len ho.1 h⟩<;>first|rfl|trivial
theorem tell4 {c:Cl}{i:Nat}:(σ.tell c i 4).1.key=c.key∧(σ.tell c i 4).1.val=c.val:=by
 unfold RS.tell
 by_cases hs:σ.S (i+1)=false
 ·rw[if_pos hs];exact⟨rfl,rfl⟩
 ·rw[if_neg hs,if_neg (by decide),if_neg (by decide),if_neg (by decide)];exact⟨rfl,rfl⟩
theorem told12 {id:Int}(ho:σ.Ok)(hD:DefsOk σ.D)(ht:zU id=[1,2])(h:(σ.told id).2=0):(σ.told id).1.key≠[]∧(σ.told id).1.val=[]:=by
 obtain⟨h1,h2⟩:=told_tells h
 rw[h2]
 rw[ht]at h1 ⊢
 have a:=xN h1
 rw[a.2]
 have b:=xN (by rw[← a.2];exact h1)
 rw[b.2,RS.tells]
 obtain⟨⟨d,hd⟩,k1,v1⟩:=tell1 a.1
 obtain⟨m2,k2,v2⟩:=tell2 (ho _ (by omega)) hd b.1
 refine⟨fun e=>?_,by rw[v2,v1];rfl⟩
 have:=hD d (pick_in hd)
 rw[e]at k2
 simp at k2
 omega
theorem told1234 {id:Int}(ho:σ.Ok)(hD:DefsOk σ.D)(ht:zU id=[1,2,3,4])(h:(σ.told id).2=0):(σ.told id).1.val≠[]:=by
 obtain⟨h1,h2⟩:=told_tells h
 rw[h2]
 rw[ht]at h1 ⊢
 have a:=xN h1
 rw[a.2]
 have b:=xN (by rw[← a.2];exact h1)
 rw[b.2]
 have c:=xN (by rw[← b.2,← a.2];exact h1)
 rw[c.2]
 have e:=xN (by rw[← c.2,← b.2,← a.2];exact h1)
 rw[e.2,RS.tells]
 obtain⟨⟨d,hd⟩,k1,v1⟩:=tell1 a.1
 obtain⟨m2,k2,v2⟩:=tell2 (ho _ (by omega)) hd b.1
 obtain⟨m3,k3,v3⟩:=tell3 (ho _ (by omega)) (by rw[m2];exact hd) c.1
 simp only
 rw[tell4.2]
 intro h0
 rw[h0]at v3
 have:=hD d (pick_in hd)
 simp at v3
 omega
theorem tells4:∀ (ts:List Int) (c:Cl) (i:Nat),(∀ t∈ts,t=4)→(σ.tells c i ts).1.key=c.key∧(σ.tells c i ts).1.val=c.val
 | [],c,i,h=>⟨rfl,rfl⟩
 | t :: ts,c,i,h=>by
  obtain rfl:=h t (by simp)
  unfold RS.tells
  split
  ·exact tell4
  ·have:=tells4 ts (σ.tell c i 4).1 (i+1) (fun t ht=>h t (by simp[ht]))
   exact⟨this.1.trans tell4.1,this.2.trans tell4.2⟩
theorem told_no {id:Int}(h1:id≠1)(h2:id≠2)(h3:id≠3):(σ.told id).1.key=[]∧(σ.told id).1.val=[]:=by
 have ht:∀ t∈zU id,t=4:=by
  intro t ht
  unfold zU at ht
  rw[if_neg (by omega),if_neg (by omega)]at ht
  split at ht<;>simp at ht<;>exact ht
 unfold RS.told
 split
 ·exact⟨rfl,rfl⟩
 ·exact tells4 _ _ _ ht
end
def RS.helps (σ:RS)(c:Cl):RS×Int×Int :=
 if draws c.id=true then ((if yH c.id σ.dr≠0 then σ else {σ with dr:=yD c.id σ.dr}),drawn c.id σ.dr,yH c.id σ.dr)
 else ({σ with V:=(σ.acts c).1},(σ.acts c).2)
theorem call_helps {σ:RS}{x:Ins}{c:Cl}(hh:xF x.imm=true)(ht:σ.told x.imm=(c,0)):
  σ.call x=if (σ.helps c).2.2≠0 then ((σ.helps c).1,(σ.helps c).2.2) else (RS.done (σ.helps c).1 {c with ret:=(σ.helps c).2.1},0):=by
 have hid:c.id=x.imm:=by have:=(told_id (σ:=σ) (id:=x.imm) (by rw[ht])).1;rw[ht]at this;exact this
 unfold RS.call RS.helps
 rw[if_neg (by rw[hh];decide),ht,if_neg (by simp)]
 simp only[← hid]
 by_cases hd:draws c.id=true
 ·simp only[hd,if_true]
  by_cases he:yH c.id σ.dr≠0
  ·simp only[he,if_true,ne_eq,not_false_iff]
  ·have he0:yH c.id σ.dr=0:=by simpa using he
   simp only[he0,ne_eq,not_true_eq_false,if_false]
 ·simp only[hd,Bool.false_eq_true,if_false]
def HelpsA (Q F0 Z0:List Nat)(wf:World)(base mb:Nat)(r:RS×Int×Int)(w:World)(e:Ending)(w':World):Prop :=
 e=.returned (.tuple #[.int .u64 r.2.1,.int .i64 r.2.2])∧(∃ T',VRel (r.1.V.1,T') r.1.V∧PRelQ Q F0 Z0 wf base w' mb (r.1.vt T'))∧∀ q∈Q,∀ o,w.heap[q]?=some o→w'.heap[q]?=some o
section
variable {Q F0 Z0:List Nat} {wf w w':World} {base mb:Nat} {σ:RS} {T:List TM} {y:CB} {sv:Value}
theorem vt_of {U U':Areas×List TM}(r:VRel U U'):({σ with V:=U}:RS)=({σ with V:=U'}:RS).vt U.2∧VRel (U'.1,U.2) U':=by
 have e:U'.1=U.1:=r.mem
 refine⟨?_,?_⟩
 ·unfold RS.vt
  simp only[e]
 ·have:=r
  rw[e]
  exact this
theorem PRelQ.more {σ:RS}(h:PRelQ Q F0 Z0 wf base w mb σ){w1:World}(he:Ext w w1){Q':List Nat}(hQ:∀ q∈Q',w.heap.size≤q∧q < w1.heap.size):PRelQ (Q'++Q) F0 Z0 wf base w1 mb σ:=by
 obtain⟨h0,hl,l,h1,h2,h3,h4⟩:=h
 refine⟨h0.through (F:=[]) (Keep.of_ext he) (fun _ hj=>by cases hj),hl,l,h1.ext he,h2,h3,fun q hq=>?_⟩
 rcases List.mem_append.1 hq with hq|hq
 ·exact⟨(hQ q hq).2,fun h=>by have:=h1.lt q h;have:=(hQ q hq).1;omega,fun h=>by have:=(h1.frz q h).2;have:=(hQ q hq).1;omega⟩
 ·exact⟨Nat.lt_of_lt_of_le (h4 q hq).1 he.size,(h4 q hq).2⟩
theorem PRelQ.sub {σ:RS}{Q':List Nat}(h:PRelQ Q F0 Z0 wf base w mb σ)(hQ:∀ q∈Q',q∈Q):PRelQ Q' F0 Z0 wf base w mb σ:=by
 obtain⟨h0,hl,l,h1,h2,h3,h4⟩:=h
 exact⟨h0,hl,l,h1,h2,h3,fun q hq=>h4 q (hQ q hq)⟩
theorem pY (w:World)(y:CB)(sv:Value)(tl:Int)(dw:Bool)(mo:Int):Hid (Ext w ((w.alloc (yU y)).alloc (jM sv tl dw mo))∧((w.alloc (yU y)).alloc (jM sv tl dw mo)).heap[w.heap.size]?=some (yU y)) :=
 η ⟨by (repeat (first|exact xE0 _|assumption|refine xE1 ?_ _|refine xE2 ?_|refine xE3 ?_ _|refine xE4 ?_ (by assumption))),by (repeat (first|(refine zD _ _ ?_;simp;done)|refine zB _ ?_))⟩
set_option maxHeartbeats 2000000 in
theorem p_helps1 (h:PRelQ Q F0 Z0 wf base w mb (σ.vt T))(r:VRel (σ.V.1,T) σ.V)(hc:CAt w 0 y)(hi:y.c.id=1):
  Calls Tryz.prog 132 #[.pointer (some ⟨mb,0,none⟩),.agg y.enc.toArray,.agg #[sv,.int .u8 (tells y.c.id),.bool (draws y.c.id),.int .u64 (most y.c.id)]] w (HelpsA Q F0 Z0 wf base mb (σ.helps y.c) w):=by
 have e1:σ.helps y.c=(σ,xT T y.c.map y.c.key):=by
  have:σ.acts y.c=(σ.V,xT σ.V.2 y.c.map y.c.key):=by rw[RS.acts,if_pos hi]
  rw[RS.helps,if_neg (by rw[hi];decide),this,look_rel r]
 rw[e1,hi]
 obtain⟨tb,ct,HL,-⟩:=h.tabs
 have HR:=η h
 have HV:=η r
 have HC:=η hc
 have hlt:=h.rel.lt
 have HBX:=pY w y sv 2 false 0
 clear h r hc e1
 obtain⟨⟨id,map,key,val,n,ret⟩,ka,kc,va,vc,na,nc⟩:=y
 simp only at hi
 subst hi
 change Calls Tryz.prog 132 #[.pointer (some ⟨mb,0,none⟩),.agg #[.int .i64 1,.int .i64 map,.slice ka key.length kc,.slice va val.length vc,.slice na n.length nc,.int .u64 ret],.agg #[sv,.int .u8 2,.bool false,.int .u64 0]] w _
 go_enter Tryz.func132,Tryz.ntmps132
 go_upto_region 7 with fail
 simp only[yU,jM]at HBX
 generalize hF:(w.alloc (.cells #[.int .i64 1,.int .i64 map,.slice ka key.length kc,.slice va val.length vc,.slice na n.length nc,.int .u64 ret] 76 (0,0))).alloc (.cells #[sv,.int .u8 2,.bool false,.int .u64 0] 178 (0,0))=wa at HBX ⊢
 have x1:wa.cell? ⟨w.heap.size,1,none⟩=some (.int .i64 map):=cO HBX.out.2
 have x2:wa.cell? ⟨w.heap.size,2,none⟩=some (.slice ka key.length kc):=cO HBX.out.2
 have cm:=HBX.out.1.cellOf ct
 have x1g:=Grow.cell x1
 have x2g:=Grow.cell x2
 have cmg:=Grow.cell cm
 clear x1 x2 cm ct hF
 (refine yE (by kernel_rfl) (by kernel_rfl) ?_;(repeat (go_big_quiet_step ((go_at_call 173;exact Calls.grow (HL.out _ _ _ key (HBX.out.1.trans' (Grow.ext _)) ((HC.out.key.ext (HBX.out.1.trans' (Grow.ext _))).rd (zG _)))))));refine wpQuiet_nil ?_;rintro wz ⟨nz,hz⟩;have hwq:=nz.ext;rw[← hz]at hwq;clear hz)
 have HE:=η (HBX.out.1.trans' hwq)
 go_wp2_with fail
 go_returns
 exact⟨rfl,⟨T,HV.out,HR.out.go HE.out⟩,fun q hq o ho=>HE.out.obj ho⟩
set_option maxHeartbeats 2000000 in
theorem p_helps3 (h:PRelQ Q F0 Z0 wf base w mb (σ.vt T))(r:VRel (σ.V.1,T) σ.V)(hc:CAt w 0 y)(hi:y.c.id=3)(hv:y.c.val=[])(hk:y.c.key≠[]):
  Calls Tryz.prog 132 #[.pointer (some ⟨mb,0,none⟩),.agg y.enc.toArray,.agg #[sv,.int .u8 (tells y.c.id),.bool (draws y.c.id),.int .u64 (most y.c.id)]] w (HelpsA Q F0 Z0 wf base mb (σ.helps y.c) w):=by
 obtain⟨hd1,hd2⟩:=drop_rel r y.c.map y.c.key
 have e1:σ.helps y.c=({σ with V:=(σ.V.1,(xR σ.V.2 y.c.map y.c.key).1)},(jL T y.c.map y.c.key).2):=by
  have:σ.acts y.c=((σ.V.1,(xR σ.V.2 y.c.map y.c.key).1),(xR σ.V.2 y.c.map y.c.key).2):=by rw[RS.acts,if_neg (by omega),if_neg (by omega),if_pos hi]
  rw[RS.helps,if_neg (by rw[hi];decide),this,hd1]
 rw[e1,hi]
 obtain⟨v1,v2⟩:=vt_of (σ:=σ) hd2
 have HR:=η h
 have HV1:=η v1
 have HV2:=η v2
 have HC:=η hc
 have hlt:=h.rel.lt
 have HBX:=pY w y sv 1 false 18446744073709551615
 clear h r hc e1 hd1 hd2 v1 v2
 obtain⟨⟨id,map,key,val,n,ret⟩,ka,kc,va,vc,na,nc⟩:=y
 simp only at hi hv hk
 subst hi
 subst hv
 have hkl:decide ((0:Int) < (key.length:Int))=true:=by
  cases key with
  | nil=>exact absurd rfl hk
  | cons a l=>simp
 have hkl2:(0:Int) < (key.length:Int):=by simpa using hkl
 have hkl3:0 < key.length:=by omega
 clear hk
 change Calls Tryz.prog 132 #[.pointer (some ⟨mb,0,none⟩),.agg #[.int .i64 3,.int .i64 map,.slice ka key.length kc,.slice va 0 vc,.slice na n.length nc,.int .u64 ret],.agg #[sv,.int .u8 1,.bool false,.int .u64 18446744073709551615]] w _
 go_enter Tryz.func132,Tryz.ntmps132
 go_upto_region 11 with fail
 simp only[yU,jM,List.length_nil]at HBX
 generalize hF:(w.alloc (.cells #[.int .i64 3,.int .i64 map,.slice ka key.length kc,.slice va 0 vc,.slice na n.length nc,.int .u64 ret] 76 (0,0))).alloc (.cells #[sv,.int .u8 1,.bool false,.int .u64 18446744073709551615] 178 (0,0))=wa at HBX ⊢
 have x1:wa.cell? ⟨w.heap.size,1,none⟩=some (.int .i64 map):=cO HBX.out.2
 have x2:wa.cell? ⟨w.heap.size,2,none⟩=some (.slice ka key.length kc):=cO HBX.out.2
 have HQ1:=η (HR.out.more HBX.out.1 (Q':=[w.heap.size]) (fun q hq=>by rw[List.mem_singleton]at hq;subst hq;exact⟨Nat.le_refl _,zE HBX.out.2⟩))
 obtain⟨tb,ct,-,HPD⟩:=HQ1.out.tabs
 have HD:=η HPD.2.out
 have hmba:=HQ1.out.rel.lt
 have HS:Hid (∀ w':World,(∀ j,(j∈[w.heap.size]++Q∨j=mb)→∀ o,wa.heap[j]?=some o→w'.heap[j]?=some o)→w'.cell? ⟨mb,24,none⟩=some (.pointer (some ⟨tb,0,none⟩))∧w'.cell? ⟨w.heap.size,1,none⟩=some (.int .i64 map)∧w'.cell? ⟨w.heap.size,2,none⟩=some (.slice ka key.length kc)):=η (fun w' hk=>⟨yJ (a:=⟨mb,24,none⟩) (hk mb (.inr rfl)) ct,yJ (a:=⟨w.heap.size,1,none⟩) (hk _ (.inl (by simp))) x1,yJ (a:=⟨w.heap.size,2,none⟩) (hk _ (.inl (by simp))) x2⟩)
 clear x1 x2 ct hF HPD
 obtain⟨s1,s2,s3⟩:=HS.out wa (fun _ _ _ h=>h)
 go_region_held3 (fun w'=>w'.cell? ⟨mb,24,none⟩=some (.pointer (some ⟨tb,0,none⟩))∧w'.cell? ⟨w.heap.size,1,none⟩=some (.int .i64 map)∧w'.cell? ⟨w.heap.size,2,none⟩=some (.slice ka key.length kc))
  (first|exact HS.out _ HK5.out|exact HS.out _ (fun j hj o ho=>Ext.obj (by (repeat (first|exact xE0 _|assumption|refine xE1 ?_ _|refine xE2 ?_|refine xE3 ?_ _|refine xE4 ?_ (by assumption)))) ho))
  ((go_at_call 174;refine(HD.out _ map (.slice ka key.length kc) key (by (repeat (first|exact xE0 _|assumption|refine xE1 ?_ _|refine xE2 ?_|refine xE3 ?_ _|refine xE4 ?_ (by assumption)))) ((HC.out.key.ext (HBX.out.1.trans' (by (repeat (first|exact xE0 _|assumption|refine xE1 ?_ _|refine xE2 ?_|refine xE3 ?_ _|refine xE4 ?_ (by assumption)))))).rd (zG _))).mono ?_;rintro e w5 ⟨rfl,hR5,hK5⟩;have K5:∀ j,(j∈[w.heap.size]++Q∨j=mb)→∀ o,wa.heap[j]?=some o→w5.heap[j]?=some o:=(fun j hj o ho=>hK5 j hj o (Ext.obj (by (repeat (first|exact xE0 _|assumption|refine xE1 ?_ _|refine xE2 ?_|refine xE3 ?_ _|refine xE4 ?_ (by assumption)))) ho));have HR5:=η hR5;have HK5:=η K5;clear hR5 hK5 K5))
 all_goals
  go_wp2_with fail
  go_returns
  refine⟨rfl,⟨_,HV2.out,?_⟩,fun q hq o ho=>HK5.out q (.inl (List.mem_append_right _ hq)) o (HBX.out.1.obj ho)⟩
  rw[← HV1.out]
  exact HR5.out.sub (fun q hq=>List.mem_append_right _ hq)
set_option maxHeartbeats 4000000 in
theorem p_helps2 (h:PRelQ Q F0 Z0 wf base w mb (σ.vt T))(r:VRel (σ.V.1,T) σ.V)(hc:CAt w 0 y)(hq:∀ j∈vblk y.kv++(vblk y.vv++vblk y.nv),j∈Q)(hi:y.c.id=2)(hv:y.c.val≠[])(hn:y.c.n=[σ.R 4])(ho:σ.Ok)(hb:∀ q∈y.c.val,0≤q∧q≤255):
  Calls Tryz.prog 132 #[.pointer (some ⟨mb,0,none⟩),.agg y.enc.toArray,.agg #[sv,.int .u8 (tells y.c.id),.bool (draws y.c.id),.int .u64 (most y.c.id)]] w (HelpsA Q F0 Z0 wf base mb (σ.helps y.c) w):=by
 obtain⟨hd1,hd2⟩:=put_rel r y.c.map y.c.key y.c.val (σ.R 4)
 have e1:σ.helps y.c=({σ with V:=(rput σ.V y.c.map y.c.key y.c.val (σ.R 4)).1},(tput (σ.V.1,T) y.c.map y.c.key y.c.val (σ.R 4)).2):=by
  have:σ.acts y.c=rput σ.V y.c.map y.c.key y.c.val (σ.R 4):=by rw[RS.acts,if_neg (by omega),if_pos hi,hn];rfl
  rw[RS.helps,if_neg (by rw[hi];decide),this,hd1]
 rw[e1,hi]
 obtain⟨v1,v2⟩:=vt_of (σ:=σ) hd2
 have HR:=η h
 have HV1:=η v1
 have HV2:=η v2
 have HC:=η hc
 have HB:=η hb
 have HR4:=η (ho 4 (by decide))
 have HQB:Hid (∀ j∈y.kv.ownBlock.toList++y.vv.ownBlock.toList,j∈Q):=η (by rw[← yR hc.key,← yR hc.val];exact fun j hj=>hq j (by rcases List.mem_append.1 hj with h|h;exact List.mem_append_left _ h;exact List.mem_append_right _ (List.mem_append_left _ h)))
 have hqn:∀ j∈vblk y.nv,j∈Q:=fun j hj=>hq j (List.mem_append_right _ (List.mem_append_right _ hj))
 have hnr:=hc.n.rd (zG .u64)
 have hvb:vblk y.nv=y.nv.ownBlock.toList:=yR hc.n
 have hlt:=h.rel.lt
 have HBX:=pY w y sv 1 false 18446744073709551615
 clear h r hc e1 hd1 hd2 v1 v2 hq hb ho hvb
 obtain⟨⟨id,map,key,val,n,ret⟩,ka,kc,va,vc,na,nc⟩:=y
 simp only at hi hv hn
 subst hi
 subst hn
 simp only[CB.nv,List.length_cons,List.length_nil,Nat.zero_add]at hnr
 have HNB:Hid ((elt (.slice na 1 nc) 0).block∈Q):=η (by
  cases hna:na with
  | none=>rw[hna]at hnr;have:=hnr.of_isNil;omega
  | some a =>
   have e1:(elt (.slice (some a) 1 nc) 0).block=a.block:=by simp only[elt,Addr.add];split<;>rfl
   rw[e1]
   exact hqn a.block (by simp[CB.nv,hna,vblk]))
 have ixn:=fun W=>hnr.run_at (P:=Tryz.prog) el_u64.under el_u64.size .i64 0 (by omega) (by omega) W
 have cn:=hnr.cell (i:=0) (x:=σ.R 4) rfl (j:=0) rfl
 simp only[Nat.mul_one,Nat.add_zero,Int.toNat_zero]at ixn cn
 have hkl:decide ((0:Int) < (val.length:Int))=true:=by
  cases val with
  | nil=>exact absurd rfl hv
  | cons a l=>simp
 have hkl2:(0:Int) < (val.length:Int):=by simpa using hkl
 have hkl3:0 < val.length:=by omega
 clear hv
 change Calls Tryz.prog 132 #[.pointer (some ⟨mb,0,none⟩),.agg #[.int .i64 2,.int .i64 map,.slice ka key.length kc,.slice va val.length vc,.slice na 1 nc,.int .u64 ret],.agg #[sv,.int .u8 1,.bool false,.int .u64 18446744073709551615]] w _
 go_enter Tryz.func132,Tryz.ntmps132
 go_upto_region 9 with fail
 simp only[yU,jM,List.length_cons,List.length_nil,Nat.zero_add]at HBX
 generalize hF:(w.alloc (.cells #[.int .i64 2,.int .i64 map,.slice ka key.length kc,.slice va val.length vc,.slice na 1 nc,.int .u64 ret] 76 (0,0))).alloc (.cells #[sv,.int .u8 1,.bool false,.int .u64 18446744073709551615] 178 (0,0))=wa at HBX ⊢
 have x1:wa.cell? ⟨w.heap.size,1,none⟩=some (.int .i64 map):=cO HBX.out.2
 have x2:wa.cell? ⟨w.heap.size,2,none⟩=some (.slice ka key.length kc):=cO HBX.out.2
 have x3:wa.cell? ⟨w.heap.size,3,none⟩=some (.slice va val.length vc):=cO HBX.out.2
 have x4:wa.cell? ⟨w.heap.size,4,none⟩=some (.slice na 1 nc):=cO HBX.out.2
 have cna:=HBX.out.1.cellOf cn
 clear cn
 have HQ1:=η (HR.out.more HBX.out.1 (Q':=[w.heap.size]) (fun q hq=>by rw[List.mem_singleton]at hq;subst hq;exact⟨Nat.le_refl _,zE HBX.out.2⟩))
 obtain⟨tb,ct,-,HPD⟩:=HQ1.out.tabs
 have HD:=η HPD.1.out
 have hmba:=HQ1.out.rel.lt
 have HS:Hid (∀ w':World,(∀ j,(j∈[w.heap.size]++Q∨j=mb)→∀ o,wa.heap[j]?=some o→w'.heap[j]?=some o)→w'.cell? ⟨mb,24,none⟩=some (.pointer (some ⟨tb,0,none⟩))∧w'.cell? ⟨w.heap.size,1,none⟩=some (.int .i64 map)∧w'.cell? ⟨w.heap.size,2,none⟩=some (.slice ka key.length kc)∧w'.cell? ⟨w.heap.size,3,none⟩=some (.slice va val.length vc)∧w'.cell? ⟨w.heap.size,4,none⟩=some (.slice na 1 nc)∧w'.cell? (elt (.slice na 1 nc) 0)=some (.int .u64 (σ.R 4))):=η (fun w' hk=>⟨yJ (a:=⟨mb,24,none⟩) (hk mb (.inr rfl)) ct,yJ (a:=⟨w.heap.size,1,none⟩) (hk _ (.inl (by simp))) x1,yJ (a:=⟨w.heap.size,2,none⟩) (hk _ (.inl (by simp))) x2,yJ (a:=⟨w.heap.size,3,none⟩) (hk _ (.inl (by simp))) x3,yJ (a:=⟨w.heap.size,4,none⟩) (hk _ (.inl (by simp))) x4,yJ (a:=elt (.slice na 1 nc) 0) (hk _ (.inl (List.mem_append_right _ HNB.out))) cna⟩)
 clear x1 x2 x3 x4 cna ct hF HPD
 obtain⟨s1,s2,s3,s4,s5,s6⟩:=HS.out wa (fun _ _ _ h=>h)
 go_region_held3 (fun w'=>w'.cell? ⟨mb,24,none⟩=some (.pointer (some ⟨tb,0,none⟩))∧w'.cell? ⟨w.heap.size,1,none⟩=some (.int .i64 map)∧w'.cell? ⟨w.heap.size,2,none⟩=some (.slice ka key.length kc)∧w'.cell? ⟨w.heap.size,3,none⟩=some (.slice va val.length vc)∧w'.cell? ⟨w.heap.size,4,none⟩=some (.slice na 1 nc)∧w'.cell? (elt (.slice na 1 nc) 0)=some (.int .u64 (σ.R 4)))
  (first|exact HS.out _ HK5.out|exact HS.out _ (fun j hj o ho=>Ext.obj (by (repeat (first|exact xE0 _|assumption|refine xE1 ?_ _|refine xE2 ?_|refine xE3 ?_ _|refine xE4 ?_ (by assumption)))) ho))
  ((go_at_call 54;refine(HD.out _ 0 map (.slice ka key.length kc) key (.slice va val.length vc) val (σ.R 4) (by (repeat (first|exact xE0 _|assumption|refine xE1 ?_ _|refine xE2 ?_|refine xE3 ?_ _|refine xE4 ?_ (by assumption)))) (fun j hj=>List.mem_append_right _ (HQB.out j hj)) (HC.out.key.ext (HBX.out.1.trans' (by (repeat (first|exact xE0 _|assumption|refine xE1 ?_ _|refine xE2 ?_|refine xE3 ?_ _|refine xE4 ?_ (by assumption)))))) (HC.out.val.ext (HBX.out.1.trans' (by (repeat (first|exact xE0 _|assumption|refine xE1 ?_ _|refine xE2 ?_|refine xE3 ?_ _|refine xE4 ?_ (by assumption)))))) HB.out HR4.out).mono ?_;rintro e w5 ⟨rfl,hR5,hK5⟩;have K5:∀ j,(j∈[w.heap.size]++Q∨j=mb)→∀ o,wa.heap[j]?=some o→w5.heap[j]?=some o:=(fun j hj o ho=>hK5 j hj o (Ext.obj (by (repeat (first|exact xE0 _|assumption|refine xE1 ?_ _|refine xE2 ?_|refine xE3 ?_ _|refine xE4 ?_ (by assumption)))) ho));have HR5:=η hR5;have HK5:=η K5;clear hR5 hK5 K5))
 all_goals
  go_wp2_with fail
  go_returns
  refine⟨rfl,⟨_,HV2.out,?_⟩,fun q hq o ho=>HK5.out q (.inl (List.mem_append_right _ hq)) o (HBX.out.1.obj ho)⟩
  rw[← HV1.out]
  exact HR5.out.sub (fun q hq=>List.mem_append_right _ hq)
set_option maxHeartbeats 2000000 in
theorem p_helps6 (h:PRelQ Q F0 Z0 wf base w mb (σ.vt T))(r:VRel (σ.V.1,T) σ.V)(hi:y.c.id=6)(hv:y.c.val=[])(hk:y.c.key=[]):
  Calls Tryz.prog 132 #[.pointer (some ⟨mb,0,none⟩),.agg y.enc.toArray,.agg #[sv,.int .u8 (tells y.c.id),.bool (draws y.c.id),.int .u64 (most y.c.id)]] w (HelpsA Q F0 Z0 wf base mb (σ.helps y.c) w):=by
 have e1:σ.helps y.c=(σ,0,0):=by
  have:σ.acts y.c=(σ.V,0,0):=by rw[RS.acts,if_neg (by omega),if_neg (by omega),if_neg (by omega)]
  rw[RS.helps,if_neg (by rw[hi];decide),this]
 rw[e1,hi]
 have HR:=η h
 have HV:=η r
 clear h r e1
 obtain⟨⟨id,map,key,val,n,ret⟩,ka,kc,va,vc,na,nc⟩:=y
 simp only at hi hv hk
 subst hi
 subst hv
 subst hk
 change Calls Tryz.prog 132 #[.pointer (some ⟨mb,0,none⟩),.agg #[.int .i64 6,.int .i64 map,.slice ka 0 kc,.slice va 0 vc,.slice na n.length nc,.int .u64 ret],.agg #[sv,.int .u8 1,.bool false,.int .u64 0]] w _
 go_enter Tryz.func132,Tryz.ntmps132
 go_wp2_with fail
 go_returns
 exact⟨rfl,⟨T,HV.out,HR.out.go (by (repeat (first|exact xE0 _|assumption|refine xE1 ?_ _|refine xE2 ?_|refine xE3 ?_ _|refine xE4 ?_ (by assumption))))⟩,fun q hq o ho=>Ext.obj (by (repeat (first|exact xE0 _|assumption|refine xE1 ?_ _|refine xE2 ?_|refine xE3 ?_ _|refine xE4 ?_ (by assumption)))) ho⟩
set_option maxHeartbeats 2000000 in
theorem p_helpsD (h:PRelQ Q F0 Z0 wf base w mb (σ.vt T))(r:VRel (σ.V.1,T) σ.V)(hi:y.c.id=5∨y.c.id=7∨y.c.id=8)(hdl:σ.dr.length≤1000000):
  Calls Tryz.prog 132 #[.pointer (some ⟨mb,0,none⟩),.agg y.enc.toArray,.agg #[sv,.int .u8 (tells y.c.id),.bool (draws y.c.id),.int .u64 (most y.c.id)]] w (HelpsA Q F0 Z0 wf base mb (σ.helps y.c) w):=by
 have hdr:draws y.c.id=true:=by rcases hi with h|h|h<;>rw[h]<;>rfl
 have e1:σ.helps y.c=((if yH y.c.id σ.dr≠0 then σ else {σ with dr:=yD y.c.id σ.dr}),drawn y.c.id σ.dr,yH y.c.id σ.dr):=by rw[RS.helps,if_pos hdr]
 obtain⟨τ,n0,er,hres⟩:∃ a b c,σ.helps y.c=(a,b,c):=⟨_,_,_,rfl⟩
 rw[hres]at e1 ⊢
 rw[hdr]
 injection e1 with ee1 ee2
 injection ee2 with ee2 ee3
 subst ee2
 clear hres
 have HR:=η h
 have HV:=η r
 have hlt:=h.rel.lt
 obtain⟨h0,hl,l,g1,g2,g3,g4⟩:=h
 obtain⟨da,dn,dc,hdv,hdn,hDN⟩:=g1.draws.val
 have cd:=g1.cell 26 rfl
 have hds:=g1.draws
 rw[hdv]at cd hds
 have HMH:=η g1.head
 have HCD:=η cd
 have HDS:=η hds
 have HQM:Hid (∀ q∈Q,q≠mb):=η (fun q hq e=>(g4 q hq).2.1 (by rw[e];simp[zW]))
 have HBX:=pY w y sv (tells y.c.id) true (most y.c.id)
 have HDR:=η (fun (W:World) (v:Value) (xs:List Int) (he:Ext w W) (hO:Own W w.heap.size 29 1 (fun x=>[Value.int .u64 x]) v xs)=>HR.out.setDraw he hO)
 have HEE:=η ee1
 have HER:=η ee3
 clear h0 hl g1 g2 g3 g4 hdv hds hdr r ee1 ee3
 obtain⟨⟨id,map,key,val,n,ret⟩,ka,kc,va,vc,na,nc⟩:=y
 simp only at hi HBX HEE HER
 dsimp only
 rw[← HER.out]at HEE
 clear hi
 have HDW:=η (fun W (he:Ext w W)=>(pdraw_own id (.slice da dn dc) σ.dr W (HDS.out.ext he) (by omega)).mono (R':=fun e w'=>∃ v,e=.returned (.tuple #[.int .u64 (drawn id σ.dr),v,.int .i64 er])∧Own w' W.heap.size 29 1 (fun x=>[Value.int .u64 x]) v (yD id σ.dr)∧Ext W w') (fun e w' h=>by rw[HER.out];exact h))
 change Calls Tryz.prog 132 #[.pointer (some ⟨mb,0,none⟩),.agg #[.int .i64 id,.int .i64 map,.slice ka key.length kc,.slice va val.length vc,.slice na n.length nc,.int .u64 ret],.agg #[sv,.int .u8 (tells id),.bool true,.int .u64 (most id)]] w _
 go_enter Tryz.func132,Tryz.ntmps132
 go_upto_region 2 with fail
 simp only[yU,jM]at HBX
 generalize hF:(w.alloc (.cells #[.int .i64 id,.int .i64 map,.slice ka key.length kc,.slice va val.length vc,.slice na n.length nc,.int .u64 ret] 76 (0,0))).alloc (.cells #[sv,.int .u8 (tells id),.bool true,.int .u64 (most id)] 178 (0,0))=wa at HBX ⊢
 have x0:wa.cell? ⟨w.heap.size,0,none⟩=some (.int .i64 id):=cO HBX.out.2
 have cm:=HBX.out.1.cellOf cd
 have hmba:=HBX.out.1.size
 have HS:Hid (∀ w',Ext wa w'→w'.cell? ⟨mb,26,none⟩=some (.slice da dn dc)∧w'.cell? ⟨w.heap.size,0,none⟩=some (.int .i64 id)):=η (fun w' he=>⟨he.cellOf cm,he.cellOf x0⟩)
 clear x0 cm cd hF
 obtain⟨s1,s2⟩:=HS.out wa (Ext.rfl' _)
 go_region_held3 (fun w'=>w'.cell? ⟨mb,26,none⟩=some (.slice da dn dc)∧w'.cell? ⟨w.heap.size,0,none⟩=some (.int .i64 id))
  (exact HS.out _ (by (repeat (first|exact xE0 _|assumption|refine xE1 ?_ _|refine xE2 ?_|refine xE3 ?_ _|refine xE4 ?_ (by assumption)))))
  ((go_at_call 172;refine(HDW.out _ (HBX.out.1.trans' (by (repeat (first|exact xE0 _|assumption|refine xE1 ?_ _|refine xE2 ?_|refine xE3 ?_ _|refine xE4 ?_ (by assumption)))))).mono ?_;rintro e w5 ⟨v5,rfl,hO5,hE5⟩;obtain⟨va5,vn5,vc5,rfl,hvn,hVN⟩:=(hO5.rd (zG .u64)).val;have hE6:Ext wa w5:=(by (repeat (first|exact xE0 _|assumption|refine xE1 ?_ _|refine xE2 ?_|refine xE3 ?_ _|refine xE4 ?_ (by assumption))));have HE5:=η (HBX.out.1.trans' hE6);have HO5:Hid (Own w5 w.heap.size 29 1 (fun x=>[Value.int .u64 x]) (.slice va5 vn5 vc5) (yD id σ.dr)):=η (hO5.mono (show Ext w _ from HBX.out.1.trans' (by (repeat (first|exact xE0 _|assumption|refine xE1 ?_ _|refine xE2 ?_|refine xE3 ?_ _|refine xE4 ?_ (by assumption))))).size);clear hO5 hE5))
 all_goals
  have mc:w5.cell? ⟨mb,26,none⟩=some (.slice da dn dc):=HE5.out.cellOf HCD.out
  have mf:=fun i=>zA (i:=i) (HE5.out.obj HMH.out)
  have hmb5:=HE5.out.size
  by_cases her:er=0
  ·subst her
   obtain rfl:τ={σ with dr:=yD id σ.dr}:=by rw[HEE.out];exact if_neg (by simp)
   go_wp2_with fail
   go_returns
   exact⟨rfl,⟨T,HV.out,HDR.out _ _ _ HE5.out HO5.out⟩,fun q hq o ho=>(heap_setCell_other w5 ⟨mb,26,none⟩ q _ (HQM.out q hq)).trans (HE5.out.obj ho)⟩
  ·obtain rfl:τ=σ:=by rw[HEE.out];exact if_pos her
   have hb0:(er == 0)=false:=by simpa using her
   clear her
   go_wp2_with fail
   go_returns
   exact⟨rfl,⟨T,HV.out,HR.out.go HE5.out⟩,fun q hq o ho=>HE5.out.obj ho⟩
theorem p_helps (h:PRelQ Q F0 Z0 wf base w mb (σ.vt T))(r:VRel (σ.V.1,T) σ.V)(hc:CAt w 0 y)(hq:∀ j∈vblk y.kv++(vblk y.vv++vblk y.nv),j∈Q)(hh:xF y.c.id=true)(ht:σ.told y.c.id=(y.c,0))(ho:σ.Ok)(hD:DefsOk σ.D)(hb:BytesOk σ.V.1)(hdl:σ.dr.length≤1000000):
  Calls Tryz.prog 132 #[.pointer (some ⟨mb,0,none⟩),.agg y.enc.toArray,.agg #[sv,.int .u8 (tells y.c.id),.bool (draws y.c.id),.int .u64 (most y.c.id)]] w (HelpsA Q F0 Z0 wf base mb (σ.helps y.c) w):=by
 have h2:(σ.told y.c.id).2=0:=by rw[ht]
 have h1:(σ.told y.c.id).1=y.c:=by rw[ht]
 rcases ids y.c.id with hi|hi|hi|hi|hi|hi|hi|hi
 ·exact p_helps1 h r hc hi
 ·have a:=told1234 ho hD (by rw[hi];simp[zU]) h2
  have b:=told2_n (σ:=σ) (by rw[← hi];exact h2)
  have c:=told_val (σ:=σ) hb y.c.id
  rw[h1]at a c
  rw[← hi,h1]at b
  exact p_helps2 h r hc hq hi a b ho c
 ·have a:=told12 ho hD (by rw[hi];simp[zU]) h2
  rw[h1]at a
  exact p_helps3 h r hc hi a.2 a.1
 ·exact p_helpsD h r (.inl hi) hdl
 ·have a:=told_no (σ:=σ) (id:=y.c.id) (by omega) (by omega) (by omega)
  rw[h1]at a
  exact p_helps6 h r hi a.2 a.1
 ·exact p_helpsD h r (.inr (.inl hi)) hdl
 ·exact p_helpsD h r (.inr (.inr hi)) hdl
 ·simp[xF,hi]at hh
end
end Go.Proofs.YtppefchjoodgnaaGreat
