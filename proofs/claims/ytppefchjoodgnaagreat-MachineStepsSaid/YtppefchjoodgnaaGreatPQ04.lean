import Derived.Test.YtppefchjoodgnaaGreatPQ01
import Derived.Maps.RangeWalk
import Derived.Laws.BytesArg
import Derived.Test.YtppefchjoodgnaaGreatPQ02
import Derived.Deep.RegionLaw
set_option linter.unusedSimpArgs false
set_option linter.unusedVariables false
namespace Go.Proofs.YtppefchjoodgnaaGreat
open Go.RowKit
theorem ba_eq (a b:ByteArray):(a == b)=decide (a=b):=by
 rcases a with ⟨a⟩
 rcases b with ⟨b⟩
 have h:((⟨a⟩:ByteArray) == ⟨b⟩)=(a == b):=rfl
 rw[h]
 by_cases e:a=b
 ·subst e;simp
 ·have:(a == b)=false:=by simpa using e
  rw[this]
  symm
  simpa using e
theorem ba_self (a:ByteArray):(a == a)=true:=by rw[ba_eq];simp
theorem qF {a b:ByteArray}(h:a≠b):(a == b)=false:=by rw[ba_eq];simpa using h
instance:ReflBEq ByteArray:=⟨fun {a}=>ba_self a⟩
instance:LawfulBEq ByteArray:=⟨fun {a b} h=>by rw[ba_eq]at h;simpa using h⟩
abbrev Strs:=List (ByteArray×Value)
abbrev strs (L:Strs):List (Value×Value):=L.map fun p=>(Value.string p.1,p.2)
structure SMapAt (es:Array MapEntry)(clock:Nat)(L:Strs):Prop where
 pairs:es.toList.map (fun e=>(e.key,e.val))=strs L
 old:∀ e∈es.toList,e.born < clock
 born:(es.toList.map (·.born)).Nodup
 keys:(L.map (·.1)).Nodup
def SMap (w:World)(r:Nat)(L:Strs):Prop:=∃ es clock,w.heap[r]?=some (.map es clock)∧SMapAt es clock L
theorem SMap.lt {w:World}{r:Nat}{L:Strs}(h:SMap w r L):r < w.heap.size:=by
 obtain⟨es,c,h1,_⟩:=h
 exact zE h1
theorem SMap.keep {F:List Nat}{w w':World}{r:Nat}{L:Strs}(h:SMap w r L)(k:Keep F w w')(hF:r ∉ F):SMap w' r L:=by
 obtain⟨es,c,h1,h2⟩:=h
 exact⟨es,c,k.obj h1 hF,h2⟩
theorem SMap.ext {w w':World}{r:Nat}{L:Strs}(h:SMap w r L)(k:Ext w w'):SMap w' r L:=by
 obtain⟨es,c,h1,h2⟩:=h
 exact⟨es,c,k.obj h1,h2⟩
theorem smap_new {w:World}{r:Nat}(h:w.heap[r]?=some (.map #[] 0)):SMap w r []:=⟨#[],0,h,rfl,by simp,by simp,by simp⟩
theorem uG (s:ByteArray):∀ (es:List MapEntry) (i:Nat) (L:Strs),es.map (fun e=>(e.key,e.val))=strs L →
  (Instr.findNow .string (.string s) es i=some (match L.lookup s with|none=>none|some v=>some (i+L.findIdx (fun p=>p.1 == s),v)))
 | [],i,L,h=>by
  cases L with
  | nil=>rfl
  | cons p L=>simp at h
 | e :: es,i,L,h=>by
  cases L with
  | nil=>simp at h
  | cons p L =>
   simp only[List.map_cons,List.cons.injEq,Prod.mk.injEq]at h
   obtain⟨⟨h1,h2⟩,h3⟩:=h
   obtain⟨m,v⟩:=p
   simp only at h1 h2
   have hs:Instr.sameNow .string (.string s) e.key=some (s == m):=by rw[h1];rfl
   unfold Instr.findNow
   rw[hs]
   by_cases hnm:s=m
   ·subst hnm
    simp[List.lookup,h2,List.findIdx_cons]
   ·have hb:(s == m)=false:=qF hnm
    have hb':(m == s)=false:=qF fun e=>hnm e.symm
    simp only[hb]
    rw[uG s es (i+1) L h3]
    simp only[List.lookup,hb,List.findIdx_cons,hb',cond_false]
    cases L.lookup s with
    | none=>rfl
    | some u=>simp;omega
def tP (L:Strs)(s:ByteArray)(x:Value):Strs:=if (L.lookup s).isSome=true then qY L s x else L++[(s,x)]
def gG (L:Strs)(s:ByteArray):Strs:=L.eraseP fun p=>p.1 == s
theorem tN {L:Strs}{s:ByteArray}{v:Value}(h:L.lookup s=some v):L[L.findIdx (fun p=>p.1 == s)]?=some (s,v):=by
 induction L with
 | nil=>simp at h
 | cons p L ih =>
  obtain⟨m,u⟩:=p
  by_cases hm:s=m
  ·subst hm
   simp[List.lookup]at h
   simp[List.findIdx_cons,h]
  ·have hb:(s == m)=false:=qF hm
   have hb':(m == s)=false:=qF fun e=>hm e.symm
   simp only[List.lookup,hb]at h
   simp only[List.findIdx_cons,hb',cond_false]
   simpa using ih h
theorem lookup_none' {L:Strs}{s:ByteArray}(h:L.lookup s=none):∀ q∈L,q.1≠s:=by
 induction L with
 | nil=>simp
 | cons p L ih =>
  obtain⟨m,u⟩:=p
  by_cases hm:s=m
  ·subst hm;simp[List.lookup]at h
  ·simp only[List.lookup,qF hm]at h
   intro q hq
   rcases List.mem_cons.1 hq with rfl|hq
   ·exact fun e=>hm e.symm
   ·exact ih h q hq
theorem setKey_idx {L:Strs}{s:ByteArray}{v:Value}(x:Value)(hn:(L.map (·.1)).Nodup)(h:L.lookup s=some v)(j:Nat):(qY L s x)[j]?=if j=L.findIdx (fun p=>p.1 == s) then some (s,x) else L[j]?:=by
 rw[qY,List.getElem?_map]
 have hi:=tN h
 by_cases hj:j=L.findIdx (fun p=>p.1 == s)
 ·subst hj
  simp[hi]
 ·rw[if_neg hj]
  cases hL:L[j]? with
  | none=>rfl
  | some p =>
   have hne:p.1≠s:=by
    intro e
    have h1:(L.map (·.1))[j]?=some s:=by rw[List.getElem?_map,hL];simp[e]
    have h2:(L.map (·.1))[L.findIdx (fun p=>p.1 == s)]?=some s:=by rw[List.getElem?_map,hi];rfl
    exact hj ((List.getElem?_inj (List.getElem?_eq_some_iff.1 h1).1 hn).1 (h1.trans h2.symm))
   have hb:(p.1 == s)=false:=qF hne
   simp only[Option.map_some,hb,Bool.false_eq_true,if_false]
section
variable {P:Program} {T K E:TypeId} {w:World} {r:Nat} {L:Strs}
theorem check_str (hK:P.underlying K=some .string)(s:ByteArray)(W:World)(e:Bool):(Instr.checkKey e 10000 K (.string s)).run P W=.ok () W:=by
 have:∀ m:Nat,(Instr.checkKey e (m+1) K (.string s)).run P W=.ok () W:=fun m=>by simp[Instr.checkKey,run_underlying hK]
 exact this 9999
theorem gW (hT:P.underlying T=some (.map K E))(hK:P.underlying K=some .string){z:Value}(hz:∀ W,(zeroValue E).run P W=.ok z W)(h:SMap w r L)(s:ByteArray):
  (Instr.lookup T (.map (some r)) (.string s) false).run P w=.ok ((L.lookup s).getD z) w ∧
  (Instr.lookup T (.map (some r)) (.string s) true).run P w=.ok (.tuple #[(L.lookup s).getD z,.bool (L.lookup s).isSome]) w:=by
 obtain⟨es,clock,hb,he⟩:=h
 have hf:=check_str (P:=P) hK s w
 have hfk:(Instr.findKey K (.string s) es.toList).run P w=.ok (match L.lookup s with|none=>none|some v=>some (0+L.findIdx (fun p=>p.1 == s),v)) w:=by
  simp only[Instr.findKey,Sem.run_bind,run_underlying hK,Result.andThen,uG s es.toList 0 L he.pairs]
  rfl
 constructor
 ·unfold Instr.lookup
  simp only[Sem.run_bind,run_underlying hT,Result.andThen]
  simp[getObj,Sem.run,hb,hf,hfk,Result.andThen,hz]
  cases hl:L.lookup s with
  | none=>simp[hz,Result.andThen]
  | some v=>simp
 ·unfold Instr.lookup
  simp only[Sem.run_bind,run_underlying hT,Result.andThen]
  simp[getObj,Sem.run,hb,hf,hfk,Result.andThen,hz]
  cases hl:L.lookup s with
  | none=>simp[hz,Result.andThen]
  | some v=>simp
theorem sameBits_str (n:Nat)(a b:ByteArray):Instr.sameBits n (.string a) (.string b)=(a == b):=by cases n<;>rfl
theorem run_update_str (hT:P.underlying T=some (.map K E))(hK:P.underlying K=some .string)(h:SMap w r L)(s:ByteArray)(x:Value):
  ∃ w',(Instr.mapUpdate T (.map (some r)) (.string s) x).run P w=.ok () w'∧SMap w' r (tP L s x)∧Keep [r] w w':=by
 obtain⟨es,clock,hb,he⟩:=h
 have hf:=check_str (P:=P) hK s w false
 have hfk:(Instr.findKey K (.string s) es.toList).run P w=.ok (match L.lookup s with|none=>none|some v=>some (0+L.findIdx (fun p=>p.1 == s),v)) w:=by
  simp only[Instr.findKey,Sem.run_bind,run_underlying hK,Result.andThen,uG s es.toList 0 L he.pairs]
  rfl
 cases hl:L.lookup s with
 | none =>
  rw[hl]at hfk
  refine⟨jC w r (.map (es.push {key:=.string s,val:=x,born:=clock}) (clock+1)),?_,⟨_,_,jZ (zE hb),?_,?_,?_,?_⟩,jX _ _ _⟩
  ·unfold Instr.mapUpdate
   simp only[Sem.run_bind,run_underlying hT,Result.andThen]
   simp[getObj,setObj,Sem.run,hb,hf,hfk,Result.andThen,jC]
  ·simp[tP,hl,he.pairs]
  ·intro e hm
   simp at hm
   rcases hm with hm|rfl
   ·have:=he.old e (by simpa using hm);omega
   ·simp
  ·simp only[Array.toList_push,List.map_append,List.map_cons,List.map_nil]
   rw[List.nodup_append]
   refine⟨he.born,by simp,?_⟩
   intro a ha b hb' e
   simp at hb'
   subst hb'
   subst e
   obtain⟨e,hm,h2⟩:=List.mem_map.1 ha
   have:=he.old e hm
   omega
  ·simp only[tP,hl,Option.isSome_none,Bool.false_eq_true,if_false,List.map_append,List.map_cons,List.map_nil]
   rw[List.nodup_append]
   refine⟨he.keys,by simp,?_⟩
   intro a ha b hb' e
   simp at hb'
   subst hb'
   subst e
   obtain⟨q,hq,h2⟩:=List.mem_map.1 ha
   exact lookup_none' hl q hq h2
 | some v =>
  rw[hl]at hfk
  simp only[Nat.zero_add]at hfk
  have hi:=tN hl
  have hlen:es.toList.length=L.length:=by have:=congrArg List.length he.pairs;simpa using this
  have hk:((es[L.findIdx (fun p=>p.1 == s)]?).map (·.key)).getD (.string s)=.string s:=by
   have h1:(es.toList.map (fun e=>(e.key,e.val)))[L.findIdx (fun p=>p.1 == s)]?=some (.string s,v):=by rw[he.pairs,List.getElem?_map,hi];rfl
   rw[List.getElem?_map]at h1
   obtain⟨e,he1,he2⟩:=Option.map_eq_some_iff.1 h1
   rw[Array.getElem?_toList]at he1
   rw[he1]
   simp at he2
   simp[he2.1]
  have hst:(Instr.keyThatStays (.string s) (.string s)).run P w=.ok (.string s) w:=by
   unfold Instr.keyThatStays
   rw[sameBits_str,ba_self]
   rfl
  refine⟨jC w r (.map (es.modify (L.findIdx (fun p=>p.1 == s)) fun e=>{e with key:=.string s,val:=x}) clock),?_,⟨_,_,jZ (zE hb),?_,?_,?_,?_⟩,jX _ _ _⟩
  ·unfold Instr.mapUpdate
   simp only[Sem.run_bind,run_underlying hT,Result.andThen]
   simp[getObj,setObj,Sem.run,hb,hf,hfk,Result.andThen,jC,hk,hst]
  ·simp only[tP,hl,Option.isSome_some,if_true]
   apply List.ext_getElem?
   intro j
   rw[strs,List.getElem?_map,List.getElem?_map,setKey_idx x he.keys hl,Array.toList_modify,List.getElem?_modify]
   have h1:(es.toList.map (fun e=>(e.key,e.val)))[j]?=(strs L)[j]?:=by rw[he.pairs]
   rw[strs,List.getElem?_map,List.getElem?_map]at h1
   by_cases hj:j=L.findIdx (fun p=>p.1 == s)
   ·subst hj
    rw[hi]at h1
    obtain⟨e,he1,he2⟩:=Option.map_eq_some_iff.1 h1
    simp[he1]
   ·rw[if_neg hj,← h1]
    have:¬ L.findIdx (fun p=>p.1 == s)=j:=fun e=>hj e.symm
    simp[this]
  ·intro e hm
   rw[Array.toList_modify]at hm
   obtain⟨j,hj⟩:=List.getElem?_of_mem hm
   rw[List.getElem?_modify]at hj
   obtain⟨e',he',h2⟩:=Option.map_eq_some_iff.1 hj
   have:=he.old e' (List.mem_of_getElem? he')
   split at h2<;>subst h2<;>exact this
  ·have:(es.modify (L.findIdx (fun p=>p.1 == s)) fun e=>{e with key:=.string s,val:=x}).toList.map (·.born)=es.toList.map (·.born):=by
    apply List.ext_getElem?
    intro j
    rw[List.getElem?_map,List.getElem?_map,Array.toList_modify,List.getElem?_modify]
    cases es.toList[j]? with
    | none=>rfl
    | some e=>simp only[Option.map_some];split<;>rfl
   rw[this]
   exact he.born
  ·simp only[tP,hl,Option.isSome_some,if_true]
   have:(qY L s x).map (·.1)=L.map (·.1):=by
    rw[qY,List.map_map]
    apply List.map_congr_left
    intro p _
    simp only[Function.comp]
    split<;>rfl
   rw[this]
   exact he.keys
end
theorem del_strs {L:Strs}{s:ByteArray}:∀ {es:List MapEntry},es.map (fun e=>(e.key,e.val))=strs L→(L.lookup s).isSome=true→(es.eraseIdx (L.findIdx fun p=>p.1 == s)).map (fun e=>(e.key,e.val))=strs (gG L s):=by
 induction L with
 | nil=>intro es _ h;simp at h
 | cons p L ih =>
  intro es he h
  obtain⟨m,u⟩:=p
  cases es with
  | nil=>simp at he
  | cons e es =>
   simp only[strs,List.map_cons,List.cons.injEq]at he
   by_cases hm:m=s
   ·subst hm
    simpa[List.findIdx_cons,gG,List.eraseP_cons]using he.2
   ·have hb:(m == s)=false:=qF hm
    have hb':(s == m)=false:=qF fun e=>hm e.symm
    simp only[List.lookup,hb']at h
    simp only[List.findIdx_cons,hb,cond_false,List.eraseIdx_cons_succ,List.map_cons,gG,List.eraseP_cons,strs]
    rw[he.1]
    congr 1
    exact ih he.2 h
theorem delKey_none {L:Strs}{s:ByteArray}(h:L.lookup s=none):gG L s=L:=by
 unfold gG
 rw[List.eraseP_of_forall_not]
 intro p hp
 simpa using lookup_none' h p hp
section
variable {P:Program} {T K E:TypeId} {w:World} {r:Nat} {L:Strs}
theorem run_delete_str (hT:P.underlying T=some (.map K E))(hK:P.underlying K=some .string)(h:SMap w r L)(s:ByteArray)(ty:TypeId):
  ∃ w',(Builtin.delete_ #[T,K] ty #[.map (some r),.string s]).run P w=.ok (.tuple #[]) w'∧SMap w' r (gG L s)∧Keep [r] w w':=by
 obtain⟨es,clock,hb,he⟩:=h
 have hf:=check_str (P:=P) hK s w
 have hfk:(Instr.findKey K (.string s) es.toList).run P w=.ok (match L.lookup s with|none=>none|some v=>some (0+L.findIdx (fun p=>p.1 == s),v)) w:=by
  simp only[Instr.findKey,Sem.run_bind,run_underlying hK,Result.andThen,uG s es.toList 0 L he.pairs]
  rfl
 cases hl:L.lookup s with
 | none =>
  rw[hl]at hfk
  refine⟨jC w r (.map es clock),?_,⟨_,_,jZ (zE hb),by rw[delKey_none hl];exact he⟩,jX _ _ _⟩
  simp[Builtin.delete_,run_underlying hT,getObj,setObj,Sem.run,hb,hf,hfk,Result.andThen,jC]
 | some v =>
  rw[hl]at hfk
  simp only[Nat.zero_add]at hfk
  have hi:=tN hl
  have hlen:es.toList.length=L.length:=by have:=congrArg List.length he.pairs;simpa using this
  have hjs:L.findIdx (fun p=>p.1 == s) < es.size:=by have:=(List.getElem?_eq_some_iff.1 hi).1;simp at hlen;omega
  have hsub:(es.eraseIdxIfInBounds (L.findIdx fun p=>p.1 == s)).toList=es.toList.eraseIdx (L.findIdx fun p=>p.1 == s):=by
   unfold Array.eraseIdxIfInBounds
   rw[dif_pos hjs]
   simp
  refine⟨jC w r (.map (es.eraseIdxIfInBounds (L.findIdx fun p=>p.1 == s)) clock),?_,⟨_,_,jZ (zE hb),?_,?_,?_,?_⟩,jX _ _ _⟩
  ·simp[Builtin.delete_,run_underlying hT,getObj,setObj,Sem.run,hb,hf,hfk,Result.andThen,jC]
  ·rw[hsub];exact del_strs he.pairs (by rw[hl];rfl)
  ·rw[hsub];exact fun e hm=>he.old e ((List.eraseIdx_sublist _ _).subset hm)
  ·rw[hsub];exact List.Nodup.sublist ((List.eraseIdx_sublist _ _).map _) he.born
  ·exact List.Nodup.sublist (List.eraseP_sublist.map _) he.keys
variable {ops:Array Oper} {rest:List Oper} {o:Oper} {a:Act} {Q:Exit→Act→World→Prop}
theorem del_step {K':Act→World→Prop}{E':Prop}(hw:Region.wanted o (yielded ops a.tmps)=true)(m x:Operand)(hop:o.op=Op.call {callee:=Callee.builtin Builtin.delete,args:=#[m,x],argTypes:=#[T,K]})
  (hT:P.underlying T=some (.map K E)) (hK:P.underlying K=some .string) (hm:a.eval m=.map (some r)) (h:SMap w r L) (s:ByteArray) (hx:a.eval x=.string s)
  (hk:∀ w',SMap w' r (gG L s)→Keep [r] w w'→K' (a.put o.dst (.tuple #[])) w'):if Region.wanted o (yielded ops a.tmps)=true then Oper.wp P o a w K' Q else E':=by
 rw[if_pos hw]
 obtain⟨w',hrun,r1,r2⟩:=run_delete_str (P:=P) hT hK h s o.type
 unfold Oper.wp
 simp[execOp,hop,resolve,invoke,builtin,hm,hx,hrun,Result.andThen]
 exact hk w' r1 r2
theorem SMap.size {w:World}{r:Nat}{L:Strs}(h:SMap w r L):∃ es clock,w.heap[r]?=some (.map es clock)∧es.size=L.length:=by
 obtain⟨es,c,h1,h2⟩:=h
 have:=congrArg List.length h2.pairs
 exact⟨es,c,h1,by simpa using this⟩
theorem run_len_map (hT:P.underlying T=some (.map K E))(h:SMap w r L)(ty:TypeId):(Builtin.len_ #[T] ty #[.map (some r)]).run P w=.ok (.int .i64 (L.length:Int)) w:=by
 obtain⟨es,c,h1,h2⟩:=h.size
 simp[Builtin.len_,run_underlying hT,getObj,Sem.run,h1,h2,Result.andThen]
 rfl
structure SIter (w:World)(r q:Nat)(L:Strs)(done:List ByteArray):Prop where
 map:∃ es clock since seen c0,w.heap[r]?=some (.map es clock)∧SMapAt es clock L∧w.heap[q]?=some (.mapIter (some r) since seen c0)∧(∀ x∈es.toList,x.born < since)∧since≤c0∧since≤clock∧(∀ x∈es.toList,seen.contains x.born=true ↔ ∃ s∈done,x.key=.string s)
 nodup:done.Nodup
 sub:∀ s∈done,s∈L.map (·.1)
theorem SIter.keep {F:List Nat}{w':World}{q:Nat}{done:List ByteArray}(h:SIter w r q L done)(k:Keep F w w')(hr:r ∉ F)(hq:q ∉ F):SIter w' r q L done:=by
 obtain⟨⟨es,c,s,sn,c0,h1,h2,h3,h4⟩,hn,hs⟩:=h
 exact⟨⟨es,c,s,sn,c0,k.obj h1 hr,h2,k.obj h3 hq,h4⟩,hn,hs⟩
theorem SIter.ne {q:Nat}{done:List ByteArray}(h:SIter w r q L done):q≠r:=by
 obtain⟨⟨es,c,s,sn,c0,h1,h2,h3,h4⟩,hn,hs⟩:=h
 intro e
 rw[e,h1]at h3
 cases h3
theorem range_own (hg:o.guard=none)(m:Operand)(hop:o.op=Op.range T m)(hT:P.underlying T=some (.map K E))(hm:a.eval m=.map (some r))(h:SMap w r L)
  (hk:∀ w',SIter w' r w.heap.size L []→Ext w w'→w'.heap.size=w.heap.size+1→wpList P ops Q rest (a.put o.dst (.pointer (some ⟨w.heap.size,0,none⟩))) w'):wpList P ops Q (o :: rest) a w:=by
 refine wpList_plain hg fun K' hK'=>?_
 obtain⟨es,clock,hb,he⟩:=h
 have hrun:=run_range_map (P:=P) w T K E r es clock hT hb
 unfold Oper.wp
 simp[execOp,hop,hm,hrun,Result.andThen]
 exact hK' _ _ (hk _ ⟨⟨es,clock,clock,#[],clock,zB _ hb,he,zD _ _ rfl,he.old,Nat.le_refl _,Nat.le_refl _,fun x hx=>by simp⟩,by simp,by simp⟩ ((Ext.rfl' w).alloc' _) (by simp))
theorem key_in {es:Array MapEntry}{clock:Nat}(he:SMapAt es clock L){e:MapEntry}(hm:e∈es.toList):∃ s v,e.key=.string s∧e.val=v∧(s,v)∈L:=by
 have:(e.key,e.val)∈strs L:=by rw[← he.pairs];exact List.mem_map.2 ⟨e,hm,rfl⟩
 obtain⟨⟨s,v⟩,hp,h1⟩:=List.mem_map.1 this
 simp only[Prod.mk.injEq]at h1
 exact⟨s,v,h1.1.symm,h1.2.symm,hp⟩
theorem keys_inj {es:Array MapEntry}{clock:Nat}(he:SMapAt es clock L){x e:MapEntry}(hx:x∈es.toList)(hm:e∈es.toList)(h:x.key=e.key):x=e:=by
 obtain⟨i,hi⟩:=List.getElem?_of_mem hx
 obtain⟨j,hj⟩:=List.getElem?_of_mem hm
 have hp:∀ (i:Nat) (x:MapEntry),es.toList[i]?=some x→((L.map (·.1))[i]?).map Value.string=some x.key:=by
  intro i x hi
  have h1:(es.toList.map (fun e=>(e.key,e.val)))[i]?=(strs L)[i]?:=by rw[he.pairs]
  rw[List.getElem?_map,hi,strs,List.getElem?_map]at h1
  rw[List.getElem?_map,Option.map_map]
  have h2:=congrArg (Option.map Prod.fst) h1
  simp only[Option.map_some,Option.map_map]at h2
  rw[h2]
  rfl
 have h1:=hp i x hi
 have h2:=hp j e hj
 rw[h]at h1
 have h3:(L.map (·.1))[i]?=(L.map (·.1))[j]?:=by
  obtain⟨a,ha,ha'⟩:=Option.map_eq_some_iff.1 h1
  obtain⟨b,hb,hb'⟩:=Option.map_eq_some_iff.1 h2
  rw[ha,hb]
  rw[← hb']at ha'
  injection ha' with e1
  rw[e1]
 have hlen:(L.map (·.1)).length=es.toList.length:=by have:=congrArg List.length he.pairs;simp at this;simp[this]
 have hij:i=j:=(List.getElem?_inj (by rw[hlen];exact(List.getElem?_eq_some_iff.1 hi).1) he.keys).1 h3
 subst hij
 rw[hi]at hj
 injection hj
theorem nodup_len {α:Type}[BEq α][LawfulBEq α]:∀ l l':List α,l.Nodup→(∀ x∈l,x∈l')→l.length≤l'.length
 | [],_,_,_=>Nat.zero_le _
 | x :: l,l',hn,h=>by
  obtain⟨h1,h2⟩:=List.nodup_cons.1 hn
  have hx:=h x List.mem_cons_self
  have h3:=nodup_len l (l'.erase x) h2 (fun y hy=>by
   refine(List.mem_erase_of_ne ?_).2 (h y (List.mem_cons_of_mem _ hy))
   intro e;subst e;exact h1 hy)
  have h4:=List.length_erase_of_mem hx
  have h5:0 < l'.length:=List.length_pos_of_mem hx
  simp only[List.length_cons]
  omega
theorem next_own (hg:o.guard=none)(it:Operand)(hop:o.op=Op.next it false)(q:Nat)(done:List ByteArray)(hit:a.eval it=.pointer (some ⟨q,0,none⟩))(h:SIter w r q L done)
  (hDone:done.Perm (L.map (·.1))→wpList P ops Q rest (a.put o.dst (.tuple #[.bool false])) w)
  (hMore:∀ (s:ByteArray) (v:Value) (w':World),s ∉ done→(s,v)∈L→done.length < L.length→SIter w' r q L (done++[s])→Keep [q] w w'→w'.heap.size=w.heap.size→(Instr.entry (.pointer (some ⟨q,0,none⟩))).run P w'=.ok (.tuple #[.string s,v]) w'→wpList P ops Q rest (a.put o.dst (.tuple #[.bool true,.string s,v])) w') :
  wpList P ops Q (o :: rest) a w:=by
 refine wpList_plain hg fun K' hK'=>?_
 unfold Oper.wp
 have hne:=h.ne
 obtain⟨⟨es,clock,since,seen,c0,hb,he,hr,hold,hsc,hsk,hseen⟩,hnd,hsub⟩:=h
 have hlen:es.toList.length=L.length:=by have:=congrArg List.length he.pairs;simpa using this
 rcases run_next_at (P:=P) w o.type q r since c0 seen es clock hr hb hold hsc with ⟨h0,hrun⟩|⟨e,hm,w1,hal,hrun⟩
 ·have hall:∀ s∈L.map (·.1),s∈done:=by
   intro s hs
   obtain⟨p,hp,rfl⟩:=List.mem_map.1 hs
   have:(Value.string p.1,p.2)∈es.toList.map (fun e=>(e.key,e.val)):=by rw[he.pairs];exact List.mem_map.2 ⟨p,hp,rfl⟩
   obtain⟨x,hx,h1⟩:=List.mem_map.1 this
   obtain⟨s',hs',h2⟩:=(hseen x hx).1 (all_seen es seen h0 x hx)
   simp only[Prod.mk.injEq]at h1
   rw[h1.1]at h2
   injection h2 with h2
   rw[h2];exact hs'
  have hperm:done.Perm (L.map (·.1)):=(List.perm_ext_iff_of_nodup hnd he.keys).2 fun s=>⟨hsub s,hall s⟩
  simp[execOp,hop,hit,hrun,Result.andThen]
  exact hK' _ _ (hDone hperm)
 ·obtain⟨hem,hes⟩:=mem_left hm
  obtain⟨s,v,hk,hv,hp⟩:=key_in he hem
  have hnot:s ∉ done:=fun hs=>by
   have:=(hseen e hem).2 ⟨s,hs,hk⟩
   rw[hes]at this;cases this
  have hr1:w1.heap[q]?=some (.mapIter (some r) since seen c0):=by rcases hal with rfl|rfl<;>exact hr
  have hb1:w1.heap[r]?=some (.map es clock):=by rcases hal with rfl|rfl<;>exact hb
  have hset:=Go.MapKept.heap_set (o':=.mapIter (some r) since (seen.push e.born) clock) hr1
  have hb':=(hset.2 r (fun e1=>hne e1.symm)).trans hb1
  have hdl:done.length < L.length:=by
   have h1:(done++[s]).Nodup:=by
    rw[List.nodup_append]
    refine⟨hnd,by simp,?_⟩
    intro a ha b hb e
    simp at hb
    subst hb;subst e
    exact hnot ha
   have h2:(done++[s]).length≤(L.map (·.1)).length:=nodup_len _ _ h1 (fun x hx=>by
    rcases List.mem_append.1 hx with hx|hx
    ·exact hsub x hx
    ·simp at hx;subst hx;exact List.mem_map.2 ⟨_,hp,rfl⟩)
   simp at h2
   omega
  rw[hk,hv]at hrun
  have hen:=run_entry_at (P:=P) (Go.ChangeMaps.setBlock w1 q (.mapIter (some r) since (seen.push e.born) clock)) q r since seen es clock e hset.1 hb' hem he.born
  rw[hk,hv]at hen
  simp[execOp,hop,hit,hrun,Result.andThen]
  refine hK' _ _ (hMore s v _ hnot hp hdl ⟨⟨es,clock,since,seen.push e.born,clock,hb',he,hset.1,hold,hsk,hsk,fun x hx=>?_⟩,?_,?_⟩ ?_ ?_ hen)
  ·rw[contains_push,Bool.or_eq_true,hseen x hx]
   constructor
   ·rintro (⟨s',hs',h1⟩|h1)
    ·exact⟨s',List.mem_append_left _ hs',h1⟩
    ·have h2:x.born=e.born:=by simpa using h1
     have h3:x=e:=by
      obtain⟨i,hi⟩:=List.getElem?_of_mem hx
      obtain⟨j,hj⟩:=List.getElem?_of_mem hem
      have g1:(es.toList.map (·.born))[i]?=some x.born:=by rw[List.getElem?_map,hi];rfl
      have g2:(es.toList.map (·.born))[j]?=some e.born:=by rw[List.getElem?_map,hj];rfl
      rw[h2]at g1
      have hij:i=j:=(List.getElem?_inj (List.getElem?_eq_some_iff.1 g1).1 he.born).1 (g1.trans g2.symm)
      subst hij
      rw[hi]at hj
      injection hj
     subst h3
     exact⟨s,by simp,hk⟩
   ·rintro ⟨s',hs',h1⟩
    rcases List.mem_append.1 hs' with hs'|hs'
    ·exact .inl ⟨s',hs',h1⟩
    ·simp at hs'
     subst hs'
     right
     rw[keys_inj he hx hem (h1.trans hk.symm)]
     simp
  ·rw[List.nodup_append]
   refine⟨hnd,by simp,?_⟩
   intro a ha b hb e
   simp at hb
   subst hb;subst e
   exact hnot ha
  ·intro x hx
   rcases List.mem_append.1 hx with hx|hx
   ·exact hsub x hx
   ·simp at hx;subst hx;exact List.mem_map.2 ⟨_,hp,rfl⟩
  ·rcases hal with rfl|rfl<;>exact⟨rfl,rfl,rfl,by simp[Go.ChangeMaps.setBlock],fun i _ hi=>hset.2 i (fun e1=>hi (by simp[e1]))⟩
  ·rcases hal with rfl|rfl<;>simp[Go.ChangeMaps.setBlock]
end
theorem Rd.run_str {P:Program}{w:World}{a:Option Addr}{n c:Nat}{xs:List Int}(h:Rd w 1 (fun x=>[Value.int .u8 x]) (.slice a n c) xs){src e dst:TypeId}(hs:P.underlying src=some (.slice e))(he:P.underlying e=some (.int .u8))(hd:P.underlying dst=some .string):
  (convert src dst (.slice a n c)).run P w=.ok (.string (strOfNums xs)) w:=by
 obtain⟨a',c',hv,h2,h3,h4,h5⟩:=h
 injection hv with e1 e2 e3
 subst e1 e2 e3
 cases a with
 | none =>
  have:=(h4 rfl).1
  subst this
  exact run_convert_bytes_nil w src e hs he _ _ dst hd
 | some ad =>
  have hl:(loadCells ad xs.length).run P w=.ok (xs.map (Value.int .u8)).toArray w:=by
   have:=run_loadCells_list (P:=P) w ad (xs.map (Value.int .u8)) (fun j v hj=>by
    rw[List.getElem?_map]at hj
    obtain⟨x,hx,rfl⟩:=Option.map_eq_some_iff.1 hj
    have:=h5 j x hx 0 _ rfl
    simpa[elt]using this)
   simpa using this
  rw[run_convert_bytes_string w src dst e _ _ _ hs he hd,run_bytesToString w _ _ _ xs hl,foldl_push_bytes]
  simp[strOfNums,ByteArray.empty,ByteArray.emptyWithCapacity]
  rfl
structure TM  where
 hash:Bool
 key:Int
 val:Int
 max:Int
 slots:List (ByteArray×Nat)
 made:Nat
def TM.strs (T:TM):Strs:=T.slots.map fun p=>(p.1,.int .i64 (p.2:Int))
structure TRec  where
 a:Nat
 r:Nat
 T:TM
def TRec.cells (x:TRec):Array Value:=#[.bool x.T.hash,.int .i64 x.T.key,.int .i64 x.T.val,.int .i64 x.T.max,.map (some x.r),.int .i64 x.T.made]
def TRec.blocks (x:TRec):List Nat:=[x.a,x.r]
abbrev encT:TRec→List Value:=fun x=>[.pointer (some ⟨x.a,0,none⟩)]
theorem enc_t:Enc 1 encT:=⟨fun _=>rfl,fun x u hu=>by simp at hu;subst hu;rfl⟩
theorem el_one:El Tryz.prog 152 155 1 8 (.pointer none):=⟨Tryz.underlying152,by kernel_rfl,rfl,by decide,fun _=>by kernel_rfl⟩
structure Tabs  where
 b:Nat
 r:Nat
 L:List Rec
 mv:Value
 R:List TRec
def zM (tb:Nat)(S:Tabs):List Nat:=tb :: (S.mv.ownBlock.toList++(S.R.flatMap TRec.blocks++foot S.b S.r S.L))
structure TabAt (w:World)(base tb:Nat)(S:Tabs):Prop where
 head:w.heap[tb]?=some (.cells #[.pointer (some ⟨S.b,0,none⟩),S.mv] 154 (0,0))
 low:base≤tb
 maps:Own w base 155 1 encT S.mv S.R
 ones:∀ x∈S.R,w.heap[x.a]?=some (.cells x.cells 158 (0,0))
 slots:∀ x∈S.R,SMap w x.r x.T.strs
 mem:MemAt w S.b S.r S.L
 apart:(zM tb S).Nodup
 few:S.R.length≤8
 made:∀ x∈S.R,x.T.made≤1024∧∀ p∈x.T.slots,p.2≤1024
theorem TabAt.keep {F:List Nat}{w w':World}{base tb:Nat}{S:Tabs}(h:TabAt w base tb S)(k:Keep F w w')(hF:∀ j∈zM tb S,j ∉ F):TabAt w' base tb S:=by
 have hm:∀ x∈S.R,∀ j∈TRec.blocks x,j ∉ F:=fun x hx j hj=>hF j (by simp only[zM,List.mem_cons,List.mem_append,List.mem_flatMap];exact .inr (.inr (.inl ⟨x,hx,hj⟩)))
 exact⟨k.obj h.head (hF _ (by simp[zM])),h.low,h.maps.keep k (fun j hj=>hF j (by simp[zM,hj])),fun x hx=>k.obj (h.ones x hx) (hm x hx _ (by simp[TRec.blocks])),fun x hx=>(h.slots x hx).keep k (hm x hx _ (by simp[TRec.blocks])),
  h.mem.keep k (fun j hj=>hF j (by simp only[zM,List.mem_cons,List.mem_append];exact .inr (.inr (.inr hj)))),h.apart,h.few,h.made⟩
theorem TabAt.ext {w w':World}{base tb:Nat}{S:Tabs}(h:TabAt w base tb S)(k:Ext w w'):TabAt w' base tb S :=
 h.keep (F:=[]) (Keep.of_ext k) (fun _ _=>by simp)
theorem TabAt.lt {w:World}{base tb:Nat}{S:Tabs}(h:TabAt w base tb S):∀ j∈zM tb S,j < w.heap.size:=by
 intro j hj
 simp only[zM,List.mem_cons,List.mem_append,List.mem_flatMap,Option.mem_toList]at hj
 rcases hj with rfl|hj|⟨x,hx,hj⟩|hj
 ·exact zE h.head
 ·exact(h.maps.lt hj).2
 ·simp only[TRec.blocks,List.mem_cons,List.not_mem_nil,or_false]at hj
  rcases hj with rfl|rfl
  ·exact zE (h.ones x hx)
  ·exact(h.slots x hx).lt
 ·exact h.mem.lt j hj
theorem zero_int (W:World):(zeroValue 3).run Tryz.prog W=.ok (.int .i64 0) W:=by kernel_rfl
theorem uK (T:TM)(s:ByteArray):T.strs.lookup s=(T.slots.lookup s).map fun n=>.int .i64 (n:Int):=by
 unfold TM.strs
 induction T.slots with
 | nil=>rfl
 | cons p l ih =>
  obtain⟨m,n⟩:=p
  by_cases h:s=m
  ·subst h;simp[List.lookup]
  ·simp only[List.map_cons,List.lookup,qF h];exact ih
theorem yZ {α:Type}{L:List (ByteArray×α)}{s:ByteArray}{v:α}(h:L.lookup s=some v):(s,v)∈L:=by
 induction L with
 | nil=>simp at h
 | cons p L ih =>
  obtain⟨m,u⟩:=p
  by_cases hm:s=m
  ·subst hm;simp[List.lookup]at h;subst h;exact List.mem_cons_self
  ·simp only[List.lookup,qF hm]at h;exact List.mem_cons_of_mem _ (ih h)
def pick {α:Type}(L:List α)(i:Int):Option α:=if i < 0 then none else L[i.toNat]?
def FindT (S:Tabs)(i:Int)(n:Nat)(s:ByteArray)(w:World)(e:Ending)(w':World):Prop :=
 Ext w w'∧(((∀ x,pick S.R i=some x→((n:Int) == x.T.key)=false)∧e=.returned (.tuple #[.pointer none,.int .i64 0,.bool false,.int .i64 1])) ∨
  ∃ x,pick S.R i=some x∧(n:Int)=x.T.key∧e=.returned (.tuple #[.pointer (some ⟨x.a,0,none⟩),.int .i64 (((x.T.slots.lookup s).getD 0:Nat):Int),.bool (x.T.slots.lookup s).isSome,.int .i64 0]))
set_option maxRecDepth 20000 in
set_option maxHeartbeats 1000000 in
theorem tab_find (base tb:Nat)(S:Tabs)(i:Int)(kv:Value)(ks:List Int)(w:World)(h:TabAt w base tb S)(hk:Sl w .u8 kv ks):
  Calls Tryz.prog 87 #[.pointer (some ⟨tb,0,none⟩),.int .i64 i,kv] w (FindT S i ks.length (strOfNums ks) w):=by
 obtain⟨ka,kn,kc,rfl,hkn,hKN⟩:=hk.val
 have HK:=η hk
 have HT:=η h
 have hb1:=cO (i:=1) h.head
 simp only[gA,gB,gC]at hb1
 have RM:=η (h.maps.rd enc_t)
 obtain⟨ma,mn,mc,hmv,hmn,hMN⟩:=RM.out.val
 rw[hmv]at hb1 RM
 have HMV:=η hmv
 clear hk h hmv
 by_cases h0:i < 0
 ·go_enter Tryz.func87,Tryz.ntmps87
  go_wp2_with fail
  go_returns
  exact⟨by (repeat (first|exact xE0 _|assumption|refine xE1 ?_ _|refine xE2 ?_|refine xE3 ?_ _|refine xE4 ?_ (by assumption))),.inl ⟨fun x hx=>by simp[pick,h0]at hx,rfl⟩⟩
 ·by_cases h1:(mn:Int)≤i
  ·go_enter Tryz.func87,Tryz.ntmps87
   go_wp2_with fail
   go_returns
   refine⟨by (repeat (first|exact xE0 _|assumption|refine xE1 ?_ _|refine xE2 ?_|refine xE3 ?_ _|refine xE4 ?_ (by assumption))),.inl ⟨fun x hx=>?_,rfl⟩⟩
   rw[pick,if_neg (by omega)]at hx
   have:=(List.getElem?_eq_some_iff.1 hx).1
   have:=hMN.out
   omega
  ·obtain⟨x,hx⟩:=zK (xs:=S.R) (k:=i.toNat) (by have:=hMN.out;omega)
   have hmem:=List.mem_of_getElem? hx
   have hp:pick S.R i=some x:=by simp only[pick,h0,if_false];exact hx
   have HP:=η hp
   have o1:=HT.out.ones x hmem
   have k1:=cO (i:=1) o1
   have k4:=cO (i:=4) o1
   simp only[TRec.cells,gA,gB,gC]at k1 k4
   have cm:=RM.out.cell hx (j:=0) rfl
   have im:=fun W=>RM.out.run_at (P:=Tryz.prog) el_one.under el_one.size .i64 i (by omega) (by omega) W
   simp only[Nat.mul_one,Nat.add_zero]at cm im
   have hi0:decide (i < 0)=false:=by simpa using h0
   have hi1:decide ((mn:Int)≤i)=false:=by simpa using h1
   have hle:0≤i:=by omega
   have hlt:i < (mn:Int):=by omega
   by_cases h2:(kn:Int)=x.T.key
   ·have d2:((kn:Int) != x.T.key)=false:=by simpa using h2
    have HEQ:=η h2
    have hxd:=Ext.drew' (Ext.rfl' w)
    have st:=(HK.out.ext hxd).run_str (P:=Tryz.prog) Tryz.underlying23 Tryz.underlying5 Tryz.underlying9
    have lk:=(gW (P:=Tryz.prog) Tryz.underlying156 Tryz.underlying9 zero_int ((HT.out.slots x hmem).ext hxd) (strOfNums ks)).2
    have e1:((x.T.strs).lookup (strOfNums ks)).getD (.int .i64 0)=.int .i64 (((x.T.slots.lookup (strOfNums ks)).getD 0:Nat):Int):=by
     rw[uK];cases x.T.slots.lookup (strOfNums ks)<;>rfl
    have e2:((x.T.strs).lookup (strOfNums ks)).isSome=(x.T.slots.lookup (strOfNums ks)).isSome:=by rw[uK];simp
    rw[e1,e2]at lk
    have d1:=hxd.cellOf hb1
    have dm:=hxd.cellOf cm
    have d4:=hxd.cellOf k4
    clear o1 hmem hx h2 hp hxd e1 e2
    go_enter Tryz.func87,Tryz.ntmps87
    go_wp2_with fail
    go_region_held3 (fun w'=>w'.cell? ⟨tb,1,none⟩=some (.slice ma mn mc)∧w'.cell? (elt (.slice ma mn mc) i.toNat)=some (.pointer (some ⟨x.a,0,none⟩))∧w'.cell? ⟨x.a,4,none⟩=some (.map (some x.r))∧(convert 23 9 (.slice ka kn kc)).run Tryz.prog w'=.ok (.string (strOfNums ks)) w'∧(Instr.lookup 156 (.map (some x.r)) (.string (strOfNums ks)) true).run Tryz.prog w'=.ok (.tuple #[.int .i64 (((x.T.slots.lookup (strOfNums ks)).getD 0:Nat):Int),.bool (x.T.slots.lookup (strOfNums ks)).isSome]) w')
     (exact⟨d1,dm,d4,st,lk⟩) (skip)
    go_wp2_with fail
    go_returns
    exact⟨by (repeat (first|exact xE0 _|assumption|refine xE1 ?_ _|refine xE2 ?_|refine xE3 ?_ _|refine xE4 ?_ (by assumption))),.inr ⟨x,HP.out,by have:=hKN.out;have:=HEQ.out;omega,rfl⟩⟩
   ·have d2:((kn:Int) != x.T.key)=true:=by simpa using h2
    have HEQ:=η h2
    clear o1 k4 hmem hx h2 hp
    go_enter Tryz.func87,Tryz.ntmps87
    go_wp2_with fail
    go_returns
    refine⟨by (repeat (first|exact xE0 _|assumption|refine xE1 ?_ _|refine xE2 ?_|refine xE3 ?_ _|refine xE4 ?_ (by assumption))),.inl ⟨fun y hy=>?_,rfl⟩⟩
    rw[HP.out]at hy
    injection hy with hy
    subst hy
    have:=hKN.out
    simpa[this]using HEQ.out
def zN (S:Tabs):Areas×List TM:=(view S.L,S.R.map (·.T))
theorem pick_map {α β:Type}(f:α→β)(L:List α)(i:Int):pick (L.map f) i=(pick L i).map f:=by
 unfold pick
 split
 ·rfl
 ·rw[List.getElem?_map]
def xE (T:List TM)(i:Int)(n:Nat):Option TM:=(pick T i).bind fun t=>if (n:Int)=t.key then some t else none
def zS (i slot:Int):Int:=4096+1024 * i+slot
def xT (T:List TM)(i:Int)(ks:List Int):Int×Int :=
 match xE T i ks.length with
 | none=>(0,1)
 | some t=>match t.slots.lookup (strOfNums ks) with|none=>(0,0)|some s=>(mat (zS i s) 0,0)
def jL (T:List TM)(i:Int)(ks:List Int):List TM×Int×Int :=
 match xE T i ks.length with
 | none=>(T,0,1)
 | some t=>if t.hash=false then (T,18446744073709551594,0) else
  match t.slots.lookup (strOfNums ks) with
  | none=>(T,18446744073709551614,0)
  | some _=>(T.set i.toNat {t with slots:=t.slots.eraseP fun p=>p.1 == strOfNums ks},0,0)
theorem FindT.cases {S:Tabs}{i:Int}{ks:List Int}{w w':World}{e:Ending}(h:FindT S i ks.length (strOfNums ks) w e w'):Ext w w' ∧
  ((xE (S.R.map (·.T)) i ks.length=none∧e=.returned (.tuple #[.pointer none,.int .i64 0,.bool false,.int .i64 1])) ∨
  ∃ x,pick S.R i=some x∧xE (S.R.map (·.T)) i ks.length=some x.T∧x∈S.R∧0≤i∧i.toNat < S.R.length∧S.R[i.toNat]?=some x∧e=.returned (.tuple #[.pointer (some ⟨x.a,0,none⟩),.int .i64 (((x.T.slots.lookup (strOfNums ks)).getD 0:Nat):Int),.bool (x.T.slots.lookup (strOfNums ks)).isSome,.int .i64 0])):=by
 obtain⟨he,h|⟨x,hx,hk,rfl⟩⟩:=h
 ·refine⟨he,.inl ⟨?_,h.2⟩⟩
  unfold xE
  rw[pick_map]
  cases hp:pick S.R i with
  | none=>rfl
  | some x =>
   have:=h.1 x hp
   simp at this
   simp[this]
 ·have h0:0≤i∧S.R[i.toNat]?=some x:=by
   unfold pick at hx
   split at hx
   ·cases hx
   ·exact⟨by omega,hx⟩
  refine⟨he,.inr ⟨x,hx,?_,List.mem_of_getElem? h0.2,h0.1,(List.getElem?_eq_some_iff.1 h0.2).1,h0.2,rfl⟩⟩
  unfold xE
  rw[pick_map,hx]
  simp[hk]
theorem tab_area (i s:Int)(w:World)(h0:0≤i)(h1:i≤16)(h2:0≤s)(h3:s≤2048):Calls Tryz.prog 90 #[.int .i64 i,.int .i64 s] w fun e w'=>e=.returned (.int .i64 (zS i s))∧w'=w:=by
 go_enter Tryz.func90,Tryz.ntmps90
 go_wp2
 go_returns
 exact⟨ret_int rfl,rfl⟩
theorem xW (n:Int)(w:World)(h0:0 < n)(h1:n≤18446744073709551615):Calls Tryz.prog 88 #[.int .u64 n] w fun e w'=>e=.returned (.tuple #[.int .u64 (18446744073709551616 - n),.int .i64 0])∧w'=w:=by
 go_enter Tryz.func88,Tryz.ntmps88
 go_wp2
 go_returns
 refine⟨?_,rfl⟩
 have e:IntKind.u64.wrap (-n)=18446744073709551616 - n:=by rw[IntKind.wrap_u64];omega
 simp[e]
def LookT (S:Tabs)(i:Int)(ks:List Int)(w:World)(e:Ending)(w':World):Prop :=
 e=.returned (.tuple #[.int .u64 (xT (zN S).2 i ks).1,.int .i64 (xT (zN S).2 i ks).2])∧Ext w w'
set_option maxHeartbeats 1000000 in
theorem tab_look (base tb:Nat)(S:Tabs)(i:Int)(kv:Value)(ks:List Int)(w:World)(h:TabAt w base tb S)(hk:Sl w .u8 kv ks):
  Calls Tryz.prog 173 #[.pointer (some ⟨tb,0,none⟩),.int .i64 i,kv] w (LookT S i ks w):=by
 have HT:=η h
 have HK:=η hk
 clear h hk
 go_enter Tryz.func173,Tryz.ntmps173
 go_wp2_with fail
 refine(tab_find base tb S i kv ks _ HT.out HK.out).mono ?_
 intro e w1 hf
 obtain⟨he,⟨hn,rfl⟩|⟨x,hp,hx,hm,h0,hl,hg,rfl⟩⟩:=hf.cases
 ·have HN:=η hn
  clear hn hf
  go_wp2_with fail
  go_returns
  exact⟨by simp only[xT,zN,HN.out];rfl,he⟩
 ·have HX:=η hx
  have hfew:=HT.out.few
  have HM:=η (HT.out.made x hm)
  clear hp hx hg hf
  cases hlk:x.T.slots.lookup (strOfNums ks) with
  | none =>
   have HLK:=η hlk
   clear hlk
   go_wp2_with fail
   go_returns
   exact⟨by simp only[xT,zN,HX.out,HLK.out];rfl,he⟩
  | some n =>
   have HLK:=η hlk
   have hn:=HM.out.2 _ (yZ hlk)
   simp only at hn
   clear hlk
   simp only[Option.getD_some,Option.isSome_some]
   go_wp2_with fail
   refine(tab_area i n _ h0 (by omega) (by omega) (by omega)).mono ?_
   rintro e w2 ⟨rfl,rfl⟩
   go_wp2_with fail
   refine(tT (zS i n) 0 _).mono ?_
   rintro e w3 ⟨rfl,rfl⟩
   go_wp2_with fail
   go_returns
   exact⟨by simp only[xT,zN,HX.out,HLK.out];rfl,he⟩
theorem TabAt.put {w w':World}{base tb:Nat}{S:Tabs}{x:TRec}{i:Nat}(h:TabAt w base tb S)(hx:S.R[i]?=some x)(T:TM)(ht:T.made≤1024∧∀ p∈T.slots,p.2≤1024){F:List Nat}(k:Keep F w w')(hF:∀ j∈F,j∈TRec.blocks x)
  (h1:w'.heap[x.a]?=some (.cells (TRec.cells {x with T:=T}) 158 (0,0))) (h2:SMap w' x.r T.strs) :
  TabAt w' base tb {S with R:=S.R.set i {x with T:=T}}∧zM tb {S with R:=S.R.set i {x with T:=T}}=zM tb S:=by
 have hi:=(List.getElem?_eq_some_iff.1 hx).1
 have hxi:=(List.getElem?_eq_some_iff.1 hx).2
 have hm:x∈S.R:=List.mem_of_getElem? hx
 have e0:∀ {β:Type} (f:TRec→β),f {x with T:=T}=f x→(S.R.set i {x with T:=T}).map f=S.R.map f:=by
  intro β f hf
  rw[List.map_set,hf]
  apply List.ext_getElem?
  intro j
  rw[List.getElem?_set]
  by_cases hj:i=j
  ·subst hj;simp[hi,hxi]
  ·simp[hj]
 have fm:∀ {β:Type} (f:TRec→List β),f {x with T:=T}=f x→(S.R.set i {x with T:=T}).flatMap f=S.R.flatMap f:=by
  intro β f hf
  rw[List.flatMap_def,List.flatMap_def,e0 f hf]
 have e1:=fm TRec.blocks rfl
 have e2:=fm encT rfl
 have n0:=List.nodup_cons.1 h.apart
 have n1:=List.nodup_append.1 n0.2
 have n2:=List.nodup_append.1 n1.2.1
 have hin:∀ j∈TRec.blocks x,j∈S.R.flatMap TRec.blocks:=fun j hj=>List.mem_flatMap.2 ⟨x,hm,hj⟩
 have hother:∀ y∈S.R.set i {x with T:=T},y={x with T:=T}∨(y∈S.R∧∀ j∈TRec.blocks y,j ∉ F):=by
  intro y hy
  obtain⟨j,hj⟩:=List.getElem?_of_mem hy
  rw[List.getElem?_set]at hj
  by_cases hij:i=j
  ·subst hij
   simp[hi]at hj
   exact .inl hj.symm
  ·simp[hij]at hj
   have hjl:=(List.getElem?_eq_some_iff.1 hj).1
   refine .inr ⟨List.mem_of_getElem? hj,fun k hk hkF=>?_⟩
   have hpw:=(List.pairwise_flatMap.1 n2.1).2
   have hkx:=hF k hkF
   rw[List.pairwise_iff_getElem]at hpw
   rcases Nat.lt_or_gt_of_ne hij with hlt|hlt
   ·have:=hpw i j hi hjl hlt
    rw[hxi,(List.getElem?_eq_some_iff.1 hj).2]at this
    exact this k hkx k hk rfl
   ·have:=hpw j i hjl hi hlt
    rw[hxi,(List.getElem?_eq_some_iff.1 hj).2]at this
    exact this k hk k hkx rfl
 refine⟨⟨k.obj h.head (fun hj=>n0.1 ?_),h.low,?_,?_,?_,h.mem.keep k (fun j hj hjF=>?_),?_,by simpa using h.few,?_⟩,by simp only[zM,e1]⟩
 ·exact List.mem_append_right _ (List.mem_append_left _ (hin _ (hF _ hj)))
 ·show World.ownsRow _ _ _ _ _ _ _
  rw[e2,List.length_set]
  exact h.maps.keep k (fun j hj hjF=>n1.2.2 j (by simpa using hj) j (List.mem_append_left _ (hin j (hF j hjF))) rfl)
 ·intro y hy
  rcases hother y hy with rfl|⟨hy',ho⟩
  ·exact h1
  ·exact k.obj (h.ones y hy') (ho _ (by simp[TRec.blocks]))
 ·intro y hy
  rcases hother y hy with rfl|⟨hy',ho⟩
  ·exact h2
  ·exact(h.slots y hy').keep k (ho _ (by simp[TRec.blocks]))
 ·exact n2.2.2 j (hin j (hF j hjF)) j hj rfl
 ·simp only[zM,e1];exact h.apart
 ·intro y hy
  rcases hother y hy with rfl|⟨hy',ho⟩
  ·exact ht
  ·exact h.made y hy'
theorem TabAt.rec_ne {w:World}{base tb:Nat}{S:Tabs}{x:TRec}(h:TabAt w base tb S)(hx:x∈S.R):x.a≠x.r∧x.a∈zM tb S∧x.r∈zM tb S:=by
 have n0:=List.nodup_cons.1 h.apart
 have n1:=List.nodup_append.1 n0.2
 have n2:=List.nodup_append.1 n1.2.1
 have h1:=(List.pairwise_flatMap.1 n2.1).1 x hx
 have hin:∀ j∈TRec.blocks x,j∈zM tb S:=fun j hj=>by simp only[zM,List.mem_cons,List.mem_append,List.mem_flatMap];exact .inr (.inr (.inl ⟨x,hx,hj⟩))
 exact⟨by simpa[TRec.blocks]using h1,hin _ (by simp[TRec.blocks]),hin _ (by simp[TRec.blocks])⟩
def DropT (base tb:Nat)(S:Tabs)(i:Int)(ks:List Int)(w:World)(e:Ending)(w':World):Prop :=
 e=.returned (.tuple #[.int .u64 (jL (zN S).2 i ks).2.1,.int .i64 (jL (zN S).2 i ks).2.2])∧Keep (zM tb S) w w'∧∃ S',TabAt w' base tb S'∧zN S'=((zN S).1,(jL (zN S).2 i ks).1)∧zM tb S'=zM tb S∧S'.b=S.b
theorem del_slots (T:TM)(s:ByteArray):gG T.strs s=TM.strs {T with slots:=T.slots.eraseP fun p=>p.1 == s}:=by
 unfold gG TM.strs
 induction T.slots with
 | nil=>rfl
 | cons p l ih =>
  obtain⟨m,n⟩:=p
  simp only[List.map_cons,List.eraseP_cons]
  by_cases h:m=s
  ·subst h;simp
  ·simp only[qF h,Bool.false_eq_true,cond_false,List.map_cons,ih]
set_option maxRecDepth 20000 in
set_option maxHeartbeats 1000000 in
theorem tab_drop (base tb:Nat)(S:Tabs)(i:Int)(kv:Value)(ks:List Int)(w:World)(h:TabAt w base tb S)(hk:Sl w .u8 kv ks):
  Calls Tryz.prog 174 #[.pointer (some ⟨tb,0,none⟩),.int .i64 i,kv] w (DropT base tb S i ks w):=by
 have HT:=η h
 obtain⟨ka,kn,kc,rfl,hkn,hKN⟩:=hk.val
 have HK:=η hk
 clear h hk
 go_enter Tryz.func174,Tryz.ntmps174
 go_wp2_with fail
 refine(tab_find base tb S i _ ks _ HT.out HK.out).mono ?_
 intro e w1 hf
 obtain⟨he,⟨hn,rfl⟩|⟨x,hp,hx,hm,h0,hl,hg,rfl⟩⟩:=hf.cases
 ·have HN:=η hn
  clear hn hf
  go_wp2_with fail
  go_returns
  exact⟨by simp only[jL,zN,HN.out];rfl,Keep.of_ext he,S,HT.out.ext he,by simp only[jL,zN,HN.out],rfl,rfl⟩
 ·have HX:=η hx
  have HG:=η hg
  have HM:=η hm
  have k0:=cO (i:=0) ((HT.out.ext he).ones x hm)
  simp only[TRec.cells,gA,gB,gC]at k0
  clear hp hx hg hf hm
  cases hh:x.T.hash with
  | false =>
   have HH:=η hh
   rw[hh]at k0
   clear hh
   go_wp2_with fail
   refine(xW 22 _ (by decide) (by decide)).mono ?_
   rintro e w2 ⟨rfl,rfl⟩
   go_wp2_with fail
   go_returns
   exact⟨by simp only[jL,zN,HX.out,HH.out,if_true];rfl,Keep.of_ext he,S,HT.out.ext he,by simp only[jL,zN,HX.out,HH.out,if_true],rfl,rfl⟩
  | true =>
   have HH:=η hh
   rw[hh]at k0
   clear hh
   cases hlk:x.T.slots.lookup (strOfNums ks) with
   | none =>
    have HLK:=η hlk
    clear hlk
    go_wp2_with fail
    refine(xW 2 _ (by decide) (by decide)).mono ?_
    rintro e w2 ⟨rfl,rfl⟩
    go_wp2_with fail
    go_returns
    exact⟨by simp only[jL,zN,HX.out,HH.out,HLK.out,Bool.true_eq_false,if_false];rfl,Keep.of_ext he,S,HT.out.ext he,by simp only[jL,zN,HX.out,HH.out,HLK.out,Bool.true_eq_false,if_false],rfl,rfl⟩
   | some n =>
    have HLK:=η hlk
    clear hlk
    have k4:=cO (i:=4) ((HT.out.ext he).ones x HM.out)
    simp only[TRec.cells,gA,gB,gC]at k4
    have st:=(HK.out.ext (he.drew')).run_str (P:=Tryz.prog) Tryz.underlying23 Tryz.underlying5 Tryz.underlying9
    have hs:=η ((HT.out.ext he.drew').slots x HM.out)
    have hk1:=η (HT.out.ext he.drew')
    go_wp2_with fail
    go_region_law ((apply del_step;(case hw=>rfl);(case hop=>rfl);(case hT=>exact Tryz.underlying156);(case hK=>exact Tryz.underlying9);(case hm=>rfl);(case h=>exact hs.out);(case hx=>rfl);intro w5 hs5 hk5))
    all_goals
     have hk6:Keep [x.r] w1 w5:=⟨hk5.os,hk5.tape,hk5.output,hk5.size,hk5.block⟩
     rw[del_slots]at hs5
     have H5:=η hs5
     clear hs5 hk5
     go_wp2_with fail
     go_returns
     have hT1:=HT.out.ext he
     have hne:=hT1.rec_ne HM.out
     have hmd:=hT1.made x HM.out
     have hput:=hT1.put HG.out {x.T with slots:=x.T.slots.eraseP fun p=>p.1 == strOfNums ks} ⟨hmd.1,fun p hp=>hmd.2 p (List.mem_of_mem_eraseP hp)⟩ hk6 (by simp[TRec.blocks]) (hk6.obj (hT1.ones x HM.out) (by simpa using hne.1)) H5.out
     refine⟨by simp only[jL,zN,HX.out,HH.out,HLK.out,Bool.true_eq_false,if_false];rfl,(Keep.of_ext he).trans (hk6.mono fun j hj=>.inl ?_),_,hput.1,?_,hput.2,rfl⟩
     ·simp at hj;subst hj;exact hne.2.2
     ·simp only[jL,zN,HX.out,HH.out,HLK.out,Bool.true_eq_false,if_false,List.map_set]
end Go.Proofs.YtppefchjoodgnaaGreat
