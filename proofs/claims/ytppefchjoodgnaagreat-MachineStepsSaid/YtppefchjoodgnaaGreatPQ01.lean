import Derived.WalkKit
import Derived.WalkSpells
import Derived.WalkLawsBesides
import Derived.Lib.Hide
import Derived.Lib.SliceRun
import Derived.Laws.AppendOwnNone
import Derived.Handy
import Derived.Deep.QuietTactic
import Derived.BigQuiet
import Derived.Deep.RegionHeld3
import Derived.Test.YtppefchjoodgnaaGreatRows
set_option linter.unusedSimpArgs false
set_option linter.unusedVariables false
namespace Go.Proofs.YtppefchjoodgnaaGreat
open Go.RowKit
abbrev Ext (w w':World):Prop:=Below w.heap.size w w'
theorem Ext.rfl' (w:World):Ext w w:=Below.refl _ _
theorem Ext.trans' {a b c:World}(h:Ext a b)(k:Ext b c):Ext a c:=Below.trans h (Below.mono k h.size)
theorem Ext.drewN' {w W:World}(h:Ext w W)(n:Nat):Ext w (W.drewN n):=h.trans ⟨rfl,rfl,rfl,Nat.le_refl _,fun _ _=>rfl⟩
theorem Ext.drew' {w W:World}(h:Ext w W):Ext w W.drew:=Below.drew h
theorem Ext.alloc' {w W:World}(h:Ext w W)(o:Obj):Ext w (W.alloc o):=Below.alloc h h.size o
theorem Ext.cellOf {w w':World}(h:Ext w w'){a:Addr}{v:Value}(hc:w.cell? a=some v):w'.cell? a=some v :=
 (Below.cell h (World.block_lt_of_cell? w a hc)).trans hc
theorem bcell {B:Nat}{W w1:World}(hb:Below B W w1):(∀ b o,b < B→w1.cell? ⟨b,o,none⟩=W.cell? ⟨b,o,none⟩)∧(∀ b o,b < B→w1.frozen? ⟨b,o,none⟩=W.frozen? ⟨b,o,none⟩) :=
 ⟨fun b o h=>hb.cell (p:=⟨b,o,none⟩) h,fun b o h=>hb.frozen (p:=⟨b,o,none⟩) h⟩
theorem Ext.facts {w w1:World}(h:Ext w w1):(∀ b o,b < w.heap.size→w1.cell? ⟨b,o,none⟩=w.cell? ⟨b,o,none⟩)∧(∀ b o,b < w.heap.size→w1.frozen? ⟨b,o,none⟩=w.frozen? ⟨b,o,none⟩)∧w.heap.size≤w1.heap.size :=
 ⟨(bcell h).1,(bcell h).2,h.size⟩
theorem Ext.keep {w w1:World}(h:Ext w w1){a:Addr}{v:Value}(hc:w.cell? a=some v):w1.cell? a=some v∧a.block < w1.heap.size :=
 ⟨h.cellOf hc,World.block_lt_of_cell? w1 a (h.cellOf hc)⟩
theorem cut_le (need old:Nat)(e:TypeId)(t:Nat)(h:need≤maxLen):(Question.appendCap need old e).cut t≤maxLen:=by
 have hlt:=Nat.mod_lt t (show 0 < 2 ^ 63 - need by simp only[maxLen]at h;omega)
 simp only[Question.cut,maxLen]at h ⊢
 omega
def elt (v:Value)(i:Nat):Addr :=
 match v with
 | .slice (some a) _ _=>a.add i
 | _=>⟨0,0,none⟩
def cutV (v:Value)(l h s:Nat):Value :=
 match v with
 | .slice a _ c=>sliced a l h c s
 | _=>v
def isNilV (v:Value):Bool :=
 match v with
 | .slice none _ _=>true
 | _=>false
def Rd {α:Type}(w:World)(sz:Nat)(enc:α→List Value)(v:Value)(xs:List α):Prop :=
 ∃ a c,v=.slice a xs.length c∧xs.length≤c∧c≤maxLen∧(a=none→xs=[]∧c=0) ∧
  ∀ i x,xs[i]?=some x→∀ j u,(enc x)[j]?=some u→w.cell? (elt v (i * sz+j))=some u
abbrev Sl (w:World)(k:IntKind)(v:Value)(xs:List Int):Prop:=Rd w 1 (fun x=>[Value.int k x]) v xs
section
variable {α:Type} {w w':World} {sz:Nat} {enc:α→List Value} {v:Value} {xs:List α}
theorem Rd.ext (h:Rd w sz enc v xs)(he:Ext w w'):Rd w' sz enc v xs:=by
 obtain⟨a,c,h1,h2,h3,h4,h5⟩:=h
 exact⟨a,c,h1,h2,h3,h4,fun i x hx j u hu=>he.cellOf (h5 i x hx j u hu)⟩
theorem Rd.nil (w:World)(sz:Nat)(enc:α→List Value):Rd w sz enc (.slice none 0 0) ([]:List α) :=
 ⟨none,0,rfl,Nat.le_refl _,Nat.zero_le _,fun _=>⟨rfl,rfl⟩,fun i x hx=>by simp at hx⟩
theorem Rd.le (h:Rd w sz enc v xs):xs.length≤9223372036854775807:=by
 obtain⟨a,c,h1,h2,h3,h4,h5⟩:=h
 simp only[maxLen]at h3;omega
theorem Rd.cell (h:Rd w sz enc v xs){i:Nat}{x:α}(hx:xs[i]?=some x){j:Nat}{u:Value}(hu:(enc x)[j]?=some u):w.cell? (elt v (i * sz+j))=some u:=by
 obtain⟨a,c,h1,h2,h3,h4,h5⟩:=h
 exact h5 i x hx j u hu
theorem Rd.val (h:Rd w sz enc v xs):∃ a n c,v=.slice a n c∧n≤9223372036854775807∧Hid (n=xs.length):=by
 have:=h.le
 obtain⟨a,c,h1,_⟩:=h;exact⟨a,_,c,h1,this,Lib.hid rfl⟩
theorem Rd.num {a:Option Addr}{n c:Nat}(h:Rd w sz enc (.slice a n c) xs):n=xs.length:=by
 obtain⟨a',c',h1,_⟩:=h;injection h1
theorem qC {enc:α→List Value}{sz:Nat}(h:∀ x,(enc x).length=sz):∀ l:List α,(l.flatMap enc).length=l.length * sz
 | []=>by simp
 | x :: l=>by rw[List.flatMap_cons,List.length_append,h,qC h l,List.length_cons,Nat.add_mul];omega
theorem qJ {β:Type}(f:α→β):∀ l:List α,l.flatMap (fun x=>[f x])=l.map f
 | []=>rfl
 | x :: l=>by rw[List.flatMap_cons,qJ f l];rfl
theorem Rd.own {e:TypeId}{base:Nat}(h:w.ownsRow base e sz v xs.length (xs.flatMap enc))(hlen:∀ x,(enc x).length=sz):Rd w sz enc v xs:=by
 have hcells:=@World.ownsRow.cells w base e sz v xs.length (xs.flatMap enc) h
 obtain⟨h1,h2⟩:=h
 have key:∀ (l:List α) (i:Nat) (x:α),l[i]?=some x→∀ j u,(enc x)[j]?=some u→(l.flatMap enc)[i * sz+j]?=some u:=by
  intro l
  induction l with
  | nil=>intro i x hx;simp at hx
  | cons y l ih =>
   intro i x hx j u hu
   have hj:j < sz:=by rw[← hlen x];exact(List.getElem?_eq_some_iff.1 hu).1
   cases i with
   | zero =>
    simp at hx;subst hx
    rw[List.flatMap_cons,List.getElem?_append_left (by rw[hlen];omega)]
    simpa using hu
   | succ i =>
    rw[List.flatMap_cons,List.getElem?_append_right (by rw[hlen,Nat.add_mul];omega),hlen]
    have:=ih i x (by simpa using hx) j u hu
    rwa[show (i+1) * sz+j - sz=i * sz+j from by rw[Nat.add_mul];omega]
 rcases h2 with ⟨hv,hn⟩|⟨g,cap,cur,hv,hb,hg,hnc,hcm,hcs,ht⟩
 ·have:xs=[]:=List.eq_nil_of_length_eq_zero hn
  subst this;subst hv
  exact Rd.nil _ _ _
 ·refine⟨some ⟨g,0,none⟩,cap,hv,hnc,hcm,(fun e=>by cases e),?_⟩
  intro i x hx j u hu
  have:=hcells (g:=g) (by rw[hv];rfl) (i * sz+j) u (key xs i x hx j u hu)
  subst hv
  exact this
variable {P:Program} {a:Option Addr} {n c:Nat}
theorem Rd.run_at (h:Rd w sz enc (.slice a n c) xs){t:TypeId}{e:TypeId}(ht:P.underlying t=some (.slice e))(hs:∀ W,(Go.sizeOf e).run P W=.ok sz W)(k:IntKind)(i:Int)(h0:0≤i)(h1:i < n)(W:World):
  (Instr.indexAt t (.slice a n c) (.int k i)).run P W=.ok (.pointer (some (elt (.slice a n c) (i.toNat * sz)))) W:=by
 have hn:=h.num
 obtain⟨a',c',hv,h2,h3,h4,h5⟩:=h
 injection hv with e1 e2 e3
 subst e1
 cases a with
 | none =>
  have:=(h4 rfl).1;subst this;simp at hn;omega
 | some a =>
  simp[Instr.indexAt,run_underlying ht,asIntOf,h0,h1,hs,elt]
theorem Rd.run_nil (_h:Rd w sz enc (.slice a n c) xs){t:TypeId}{e:TypeId}(ht:P.underlying t=some (.slice e))(W:World):
  (binOp .eql t (.slice a n c) (.slice none 0 0)).run P W=.ok (.bool (isNilV (.slice a n c))) W:=by
 rw[Lib.run_eql_slice_nil (h:=ht)]
 cases a<;>rfl
theorem Rd.of_isNil (h:Rd w sz enc (.slice none n c) xs):n=0∧c=0∧xs=[]:=by
 have hn:=h.num
 obtain⟨a',c',hv,h2,h3,h4,h5⟩:=h
 injection hv with e1 e2 e3
 obtain⟨h6,h7⟩:=h4 e1.symm
 subst h6;subst e3
 exact⟨hn,h7,rfl⟩
theorem Rd.cut (h:Rd w sz enc v xs){l m:Nat}(hl:l≤m)(hm:m≤xs.length):Rd w sz enc (cutV v l m sz) ((xs.drop l).take (m - l)):=by
 obtain⟨a,c,hv,h2,h3,h4,h5⟩:=h
 subst hv
 have hlen:((xs.drop l).take (m - l)).length=m - l:=by simp;omega
 refine⟨if c=l then a else a.map (·.add (l * sz)),c - l,?_,by omega,by omega,?_,?_⟩
 ·simp only[cutV,sliced,hlen]
 ·intro hn
  have:a=none:=by
   by_cases hc:c=l
   ·simpa[hc]using hn
   ·simpa[hc]using hn
  obtain⟨h6,h7⟩:=h4 this
  subst h6
  simp at hm ⊢;omega
 ·intro i x hx j u hu
  have hi:i < m - l:=by have:=(List.getElem?_eq_some_iff.1 hx).1;omega
  have hx':xs[l+i]?=some x:=by
   rw[List.getElem?_take_of_lt hi,List.getElem?_drop]at hx;exact hx
  have hcl:c≠l:=by omega
  have:=h5 (l+i) x hx' j u hu
  cases a with
  | none=>have:=(h4 rfl).1;subst this;simp at hm;omega
  | some a =>
   simp only[cutV,sliced,hcl,if_false,Option.map_some,elt,Addr.add_add]at this ⊢
   rw[show l * sz+(i * sz+j)=(l+i) * sz+j from by rw[Nat.add_mul];omega]
   exact this
theorem Rd.run_cut_lh (h:Rd w sz enc (.slice a n c) xs){t:TypeId}{e:TypeId}(ht:P.underlying t=some (.slice e))(hs:∀ W,(Go.sizeOf e).run P W=.ok sz W)(kl kh:IntKind)(l m:Int)(h0:0≤l)(h1:l≤m)(h2:m≤n)(W:World):
  (Instr.sliceAt t (.slice a n c) (some (.int kl l)) (some (.int kh m)) none).run P W=.ok (cutV (.slice a n c) l.toNat m.toNat sz) W:=by
 have hn:=h.num
 obtain⟨a',c',hv,h3,_⟩:=h
 injection hv with e1 e2 e3
 have em:(m.toNat:Int)=m:=Int.toNat_of_nonneg (by omega)
 simp[Instr.sliceAt,Instr.slice,run_underlying ht,Instr.sliceBounds,run_sliceBound,sliced,cutV,hs,em,h0,h1,(by omega:m≤c),(by omega:0≤m)]
theorem Rd.run_cut_h (h:Rd w sz enc (.slice a n c) xs){t:TypeId}{e:TypeId}(ht:P.underlying t=some (.slice e))(hs:∀ W,(Go.sizeOf e).run P W=.ok sz W)(kh:IntKind)(m:Int)(h1:0≤m)(h2:m≤n)(W:World):
  (Instr.sliceAt t (.slice a n c) none (some (.int kh m)) none).run P W=.ok (cutV (.slice a n c) 0 m.toNat sz) W:=by
 have hn:=h.num
 obtain⟨a',c',hv,h3,_⟩:=h
 injection hv with e1 e2 e3
 simp[Instr.sliceAt,Instr.slice,run_underlying ht,Instr.sliceBounds,run_sliceBound,sliced,cutV,hs,h1,(by omega:m≤c)]
theorem Rd.run_cut_l (h:Rd w sz enc (.slice a n c) xs){t:TypeId}{e:TypeId}(ht:P.underlying t=some (.slice e))(hs:∀ W,(Go.sizeOf e).run P W=.ok sz W)(kl:IntKind)(l:Int)(h0:0≤l)(h1:l≤n)(W:World):
  (Instr.sliceAt t (.slice a n c) (some (.int kl l)) none none).run P W=.ok (cutV (.slice a n c) l.toNat n sz) W:=by
 have hn:=h.num
 obtain⟨a',c',hv,h3,_⟩:=h
 injection hv with e1 e2 e3
 simp[Instr.sliceAt,Instr.slice,run_underlying ht,Instr.sliceBounds,run_sliceBound,sliced,cutV,hs,h0,h1]
end
structure El (P:Program)(t e:TypeId)(sz bytes:Nat)(z:Value):Prop where
 under:P.underlying t=some (.slice e)
 info:(P.info? e).map (fun i=>(i.zero,i.size,i.bytes))=some (some z,sz,bytes)
 zs:z.cells.size=sz
 pos:0 < sz
 size:∀ W,(Go.sizeOf e).run P W=.ok sz W
structure Enc {α:Type}(sz:Nat)(enc:α→List Value):Prop where
 len:∀ x,(enc x).length=sz
 one:∀ x u,u∈enc x→u.oneCell'=true
theorem zG (k:IntKind):Enc 1 (fun x=>[Value.int k x]):=⟨fun _=>rfl,fun x u hu=>by simp at hu;subst hu;rfl⟩
theorem xU:Enc 1 (fun x=>[Value.bool x]):=⟨fun _=>rfl,fun x u hu=>by simp at hu;subst hu;rfl⟩
def Own {α:Type}(w:World)(base:Nat)(e:TypeId)(sz:Nat)(enc:α→List Value)(v:Value)(xs:List α):Prop :=
 w.ownsRow base e sz v xs.length (xs.flatMap enc)
section
variable {α:Type} {w w':World} {sz:Nat} {enc:α→List Value} {v:Value} {xs:List α} {base:Nat} {e:TypeId}
theorem Own.rd (h:Own w base e sz enc v xs)(he:Enc sz enc):Rd w sz enc v xs:=Rd.own h he.len
theorem Own.nil (w:World)(base:Nat)(e:TypeId)(sz:Nat)(enc:α→List Value):Own w base e sz enc (.slice none 0 0) ([]:List α):=World.ownsRow_nil w base e sz
theorem Own.made (w:World)(base:Nat)(e:TypeId)(sz:Nat)(enc:α→List Value){b:Nat}(hw:b=w.heap.size)(hb:base≤w.heap.size):Own (w.alloc (.cells #[] e)) base e sz enc (.slice (some ⟨b,0,none⟩) 0 0) ([]:List α):=by
 subst hw
 exact World.ownsRow_made w #[] 0 hb (Nat.zero_le _) (by simp)
theorem Own.lt {k:Nat}(h:Own w base e sz enc v xs)(hk:v.ownBlock=some k):base≤k∧k < w.heap.size:=World.ownsRow.lt h k hk
theorem Own.below {B:Nat}{W:World}{v0:Value}{xs0:List α}(h:Own w base e sz enc v0 xs0)(hg:w.grownBy w' v0.ownBlock)(hb:Below B W w)(hB:B≤w.heap.size)(hB':B≤base):Below B W w' :=
 hb.grown hg hB (fun k hk=>by have:=h.lt hk;omega)
theorem Own.alloc (h:Own w base e sz enc v xs)(o:Obj):Own (w.alloc o) base e sz enc v xs:=World.ownsRow.alloc h o
theorem Own.ext (h:Own w base e sz enc v xs)(he:Ext w w'):Own w' base e sz enc v xs :=
 World.ownsRow.kept h ⟨he.os,he.tape,he.output,he.size,fun k hk _=>he.block k hk⟩ (row:=none) (by cases hv:v.ownBlock<;>simp)
theorem Own.drew (h:Own w base e sz enc v xs):Own w.drew base e sz enc v xs:=h
theorem Own.mono {base':Nat}(h:Own w base e sz enc v xs)(hb:base'≤base):Own w base' e sz enc v xs:=by
 obtain⟨h1,h2⟩:=h
 refine⟨h1,?_⟩
 rcases h2 with h2|⟨g,cap,cur,hv,hg,r⟩
 ·exact .inl h2
 ·exact .inr ⟨g,cap,cur,hv,by omega,r⟩
variable {P:Program} {ops:Array Oper} {rest:List Oper} {o:Oper} {a:Act} {Q:Exit→Act→World→Prop}
theorem xM {t:TypeId}{bytes:Nat}{z:Value}(T:El P t e sz bytes z)(E:Enc sz enc)(hgd:o.guard=none)(s x:Operand)
  (ho:o.op=.call {callee:=.builtin .append,args:=#[s,x],argTypes:=#[t,t]})
  (hs:a.eval s=v) (hown:Own w base e sz enc v xs) {y:Value} {ys:List α} (hx:a.eval x=y) (hy:Rd w sz enc y ys)
  (hbytes:(xs.length+ys.length) * bytes≤140737488355328∧xs.length+ys.length≤9223372036854775807) (hbase:base≤w.heap.size)
  (h:∀ v' w',Own w' base e sz enc v' (xs++ys)→w.grownBy w' v.ownBlock→(∀ B W,Below B W w→B≤base→Below B W w')→wpList P ops Q rest (a.put o.dst v') w'):wpList P ops Q (o :: rest) a w:=by
 obtain⟨i0,hi,hz0,hz1,hz2⟩:=info_parts T.info
 obtain⟨ya,yc,rfl,h2,h3,h4,h5⟩:=hy
 cases ya with
 | none =>
  obtain⟨rfl,rfl⟩:=h4 rfl
  exact wpList_append_own_none hgd s x t ho base e i0 sz T.under hi v xs.length (xs.flatMap enc) hs hown hx (h v w (by simpa using hown) (World.grownBy.refl _ _) (fun _ _ hB _=>hB))
 | some ad =>
  have key:∀ (l:List α) (k:Nat),(∀ i x,l[i]?=some x→∀ j u,(enc x)[j]?=some u→w.cell? (ad.add ((k+i) * sz+j))=some u)→∀ j u,(l.flatMap enc)[j]?=some u→w.cell? (ad.add (k * sz+j))=some u:=by
   intro l
   induction l with
   | nil=>intro k _ j u hj;simp at hj
   | cons q l ih =>
    intro k hk j u hj
    rw[List.flatMap_cons]at hj
    by_cases hlt:j < sz
    ·rw[List.getElem?_append_left (by rw[E.len];exact hlt)]at hj
     simpa using hk 0 q rfl j u hj
    ·rw[List.getElem?_append_right (by rw[E.len];omega),E.len]at hj
     have:=ih (k+1) (fun i x hx' j' u' hu'=>by
      have:=hk (i+1) x (by simpa using hx') j' u' hu'
      rwa[show k+1+i=k+(i+1) from by omega]) (j - sz) u hj
     rwa[show (k+1) * sz+(j - sz)=k * sz+j from by rw[Nat.add_mul];omega]at this
  refine wpList_append_own w hgd s x t ho base e i0 z sz bytes T.under hi hz0 hz1 hz2 T.zs T.pos v xs.length (xs.flatMap enc) hs hown ad ys.length yc (ys.flatMap enc) hx ?_ ?_ ?_ (by simp only[maxLen];omega) hbytes.1 hbase ?_
  ·exact qC E.len ys
  ·intro j u hj
   have:=key ys 0 (fun i x hx' j' u' hu'=>by simpa[elt]using h5 i x hx' j' u' hu') j u hj
   simpa using this
  ·intro u hu
   obtain⟨x,_,hx⟩:=List.mem_flatMap.1 hu
   exact E.one x u hx
  ·intro v' w' h1 hg _
   exact h v' w' (by show World.ownsRow _ _ _ _ _ _ _;rw[List.flatMap_append,List.length_append];exact h1) hg (fun B W hB hle=>hown.below hg hB (Nat.le_trans hle hbase) hle)
end
abbrev After (W:World):Type:={u:World // Ext W u}
instance (W:World):Nonempty (After W):=⟨⟨W,Ext.rfl' W⟩⟩
theorem xE0 (w : World) : Ext w w := Ext.rfl' w
theorem xE1 {w w' : World} (h : Ext w w') (n : Nat) : Ext w (w'.drewN n) := Ext.drewN' h n
theorem xE2 {w w' : World} (h : Ext w w') : Ext w w'.drew := Ext.drew' h
theorem xE3 {w w' : World} (h : Ext w w') (o : Obj) : Ext w (w'.alloc o) := Ext.alloc' h o
theorem xE4 {a b c : World} (h : Ext a b) (h' : Ext b c) : Ext a c := Ext.trans' h h'
theorem gA {α : Type} {l : List α} {i : Nat} : l.toArray[i]? = l[i]? := List.getElem?_toArray
theorem gB {α : Type} {a : α} {l : List α} : (a :: l)[0]? = some a := List.getElem?_cons_zero
theorem gC {α : Type} {a : α} {l : List α} {i : Nat} : (a :: l)[i + 1]? = l[i]? := List.getElem?_cons_succ
theorem η {p : Prop} (h : p) : RowKit.Hid p := Lib.hid h
section
variable {α:Type} {w w':World} {sz:Nat} {enc:α→List Value} {v:Value} {xs:List α} {base:Nat} {e:TypeId}
variable {P:Program} {ops:Array Oper} {o:Oper} {a:Act} {Q:Exit→Act→World→Prop} {K:Act→World→Prop}
theorem app_wp {t:TypeId}{bytes:Nat}{z:Value}(T:El P t e sz bytes z)(E:Enc sz enc)(s x:Operand)
  (ho:o.op=.call {callee:=.builtin .append,args:=#[s,x],argTypes:=#[t,t]})
  (hs:a.eval s=v) (hown:Own w base e sz enc v xs) {y:Value} {ys:List α} (hx:a.eval x=y) (hy:Rd w sz enc y ys)
  (hbytes:(xs.length+ys.length) * bytes≤140737488355328∧xs.length+ys.length≤9223372036854775807) (hbase:base≤w.heap.size)
  (h:∀ v' w',Own w' base e sz enc v' (xs++ys)→w.grownBy w' v.ownBlock→(∀ B W,Below B W w→B≤base→Below B W w')→K (a.put o.dst v') w'):o.wp P a w K Q:=by
 obtain⟨i0,hi,hz0,hz1,hz2⟩:=info_parts T.info
 obtain⟨ya,yc,rfl,h2,h3,h4,h5⟩:=hy
 cases ya with
 | none =>
  obtain⟨rfl,rfl⟩:=h4 rfl
  have hrun:=run_append_owned_none (P:=P) (w:=w) base t o.type e i0 sz T.under hi v xs.length (xs.flatMap enc) hown
  unfold Oper.wp
  simp[execOp,ho,resolve,invoke,builtin,hs,hx,hrun,Result.andThen]
  exact h v w (by simpa using hown) (World.grownBy.refl _ _) (fun _ _ hB _=>hB)
 | some ad =>
  have hcells:=fun (i:Nat) (q:α) (hq:ys[i]?=some q) j u hu=>h5 i q hq j u hu
  have flat:∀ (l:List α) (k:Nat),(∀ i q,l[i]?=some q→∀ j u,(enc q)[j]?=some u→w.cell? (ad.add ((k+i) * sz+j))=some u)→∀ j u,(l.flatMap enc)[j]?=some u→w.cell? (ad.add (k * sz+j))=some u:=by
   intro l
   induction l with
   | nil=>intro k _ j u hj;simp at hj
   | cons q l ih =>
    intro k hk j u hj
    rw[List.flatMap_cons]at hj
    by_cases hlt:j < sz
    ·rw[List.getElem?_append_left (by rw[E.len];exact hlt)]at hj
     simpa using hk 0 q rfl j u hj
    ·rw[List.getElem?_append_right (by rw[E.len];omega),E.len]at hj
     have:=ih (k+1) (fun i x hx' j' u' hu'=>by
      have:=hk (i+1) x (by simpa using hx') j' u' hu'
      rwa[show k+1+i=k+(i+1) from by omega]) (j - sz) u hj
     rwa[show (k+1) * sz+(j - sz)=k * sz+j from by rw[Nat.add_mul];omega]at this
  refine wp_append_own w s x t ho base e i0 z sz bytes T.under hi hz0 hz1 hz2 T.zs T.pos v xs.length (xs.flatMap enc) hs hown ad ys.length yc (ys.flatMap enc) hx ?_ ?_ ?_ (by simp only[maxLen];omega) hbytes.1 hbase ?_
  ·exact qC E.len ys
  ·intro j u hj
   have:=flat ys 0 (fun i x hx' j' u' hu'=>by simpa[elt]using hcells i x hx' j' u' hu') j u hj
   simpa using this
  ·intro u hu
   obtain⟨x,_,hx⟩:=List.mem_flatMap.1 hu
   exact E.one x u hx
  ·intro v' w' h1 hg _
   exact h v' w' (by show World.ownsRow _ _ _ _ _ _ _;rw[List.flatMap_append,List.length_append];exact h1) hg (fun B W hB hle=>hown.below hg hB (Nat.le_trans hle hbase) hle)
theorem app_step {E':Prop}{t:TypeId}{bytes:Nat}{z:Value}(T:El P t e sz bytes z)(E:Enc sz enc)(hw:Region.wanted o (yielded ops a.tmps)=true)(s x:Operand)
  (ho:o.op=.call {callee:=.builtin .append,args:=#[s,x],argTypes:=#[t,t]})
  (hs:a.eval s=v) (hown:Own w base e sz enc v xs) {y:Value} {ys:List α} (hx:a.eval x=y) (hy:Rd w sz enc y ys)
  (hbytes:(xs.length+ys.length) * bytes≤140737488355328∧xs.length+ys.length≤9223372036854775807) (hbase:base≤w.heap.size)
  (h:∀ v' w',Own w' base e sz enc v' (xs++ys)→w.grownBy w' v.ownBlock→(∀ B W,Below B W w→B≤base→Below B W w')→K (a.put o.dst v') w') :
  if Region.wanted o (yielded ops a.tmps)=true then Oper.wp P o a w K Q else E':=by
 rw[if_pos hw]
 exact app_wp T E s x ho hs hown hx hy hbytes hbase h
end
section
variable {α:Type} {w:World} {f:α→Value} {v:Value} {xs:List α} {base:Nat} {e:TypeId}
theorem Own.at (h:Own w base e 1 (fun x=>[f x]) v xs){k:Nat}{x:α}(hx:xs[k]?=some x):
  w.cell? (elt v k)=some (f x)∧w.frozen? (elt v k)=false∧v.ownBlock=some (elt v k).block∧(elt v k).block < w.heap.size ∧
  ∀ y:α,Own (w.setCell (elt v k) (f y)) base e 1 (fun x=>[f x]) v (xs.set k y)∧(∀ B W,Below B W w→B≤base→Below B W (w.setCell (elt v k) (f y))):=by
 have hlt:k < xs.length:=(List.getElem?_eq_some_iff.1 hx).1
 have hO:=h
 have hmap:xs.flatMap (fun x=>[f x])=xs.map f:=qJ f xs
 rcases h.2 with ⟨_,hn⟩|⟨g,cap,cur,rfl,hb,hg,r⟩
 ·omega
 ·have hO':w.ownsRow base e 1 (.slice (some ⟨g,0,none⟩) xs.length cap) xs.length (xs.map f):=by rw[← hmap];exact hO
  have he:elt (.slice (some ⟨g,0,none⟩) xs.length cap) k=⟨g,k,none⟩:=by simp[elt,Addr.add_lit]
  rw[he]
  refine⟨?_,hO'.frozenAt k,rfl,(Array.getElem?_eq_some_iff.1 hg).1,fun y=>⟨?_,fun B W hB hle=>hB.setCell (Nat.le_trans hle hb) _⟩⟩
  ·rw[hO'.cellAt k (by omega),List.getElem?_map,hx];rfl
  ·show World.ownsRow _ _ _ _ _ _ _
   have h2:=(hO'.stored k (f y)).1
   rw[qJ,List.length_set,List.map_set]
   exact h2
end
theorem Own.other {α:Type}{sz:Nat}{enc:α→List Value}{w:World}{v:Value}{xs:List α}{base:Nat}{e:TypeId}(h:Own w base e sz enc v xs){a:Addr}(ha:a.block < base)(u:Value):Own (w.setCell a u) base e sz enc v xs :=
 ownsRow_setCell_below h ha u
theorem Own.lit {α:Type}{sz:Nat}{enc:α→List Value}(E:Enc sz enc){w:World}{base b n:Nat}{e:TypeId}(xs:List α)(hb:b=w.heap.size)(hn:n=xs.length)(hle:base≤w.heap.size)(hm:xs.length≤maxLen):
  Own (w.alloc (.cells (xs.flatMap enc).toArray e)) base e sz enc (.slice (some ⟨b,0,none⟩) n n) xs:=by
 subst hb;subst hn
 have h:=World.ownsRow_lit (base:=base) (e:=e) (size:=sz) w (xs.flatMap enc).toArray xs.length hle hm (by simp[qC E.len])
 simpa[Own]using h
end Go.Proofs.YtppefchjoodgnaaGreat
namespace Go.Proofs.YtppefchjoodgnaaGreat
open Go.RowKit
structure Keep (F:List Nat)(w w':World):Prop where
 os:w'.os=w.os
 tape:w'.tape=w.tape
 output:w'.output=w.output
 size:w.heap.size≤w'.heap.size
 block:∀ k,k < w.heap.size→k ∉ F→w'.heap[k]?=w.heap[k]?
theorem Keep.rfl' (F:List Nat)(w:World):Keep F w w:=⟨rfl,rfl,rfl,Nat.le_refl _,fun _ _ _=>rfl⟩
theorem Keep.trans {F:List Nat}{a b c:World}(h:Keep F a b)(k:Keep F b c):Keep F a c :=
 ⟨k.os.trans h.os,k.tape.trans h.tape,k.output.trans h.output,Nat.le_trans h.size k.size,fun i hi hF=>(k.block i (Nat.lt_of_lt_of_le hi h.size) hF).trans (h.block i hi hF)⟩
theorem Keep.mono {F G:List Nat}{w w':World}(h:Keep F w w')(hs:∀ k∈F,k∈G∨w.heap.size≤k):Keep G w w' :=
 ⟨h.os,h.tape,h.output,h.size,fun k hk hG=>h.block k hk (fun hF=>(hs k hF).elim hG (fun h'=>by omega))⟩
theorem Keep.of_ext {F:List Nat}{w w':World}(h:Ext w w'):Keep F w w':=⟨h.os,h.tape,h.output,h.size,fun k hk _=>h.block k hk⟩
theorem Keep.ext {F:List Nat}{w w':World}(h:Keep F w w')(hF:∀ k∈F,w.heap.size≤k):Ext w w' :=
 ⟨h.os,h.tape,h.output,h.size,fun k hk=>h.block k hk (fun hk'=>by have:=hF k hk';omega)⟩
theorem Keep.below {F:List Nat}{B:Nat}{W w w':World}(h:Keep F w w')(hb:Below B W w)(hB:B≤w.heap.size)(hF:∀ k∈F,B≤k):Below B W w' :=
 ⟨h.os.trans hb.os,h.tape.trans hb.tape,h.output.trans hb.output,Nat.le_trans hb.size h.size,fun k hk=>(h.block k (by omega) (fun hk'=>by have:=hF k hk';omega)).trans (hb.block k hk)⟩
theorem Keep.setCell {F:List Nat}{w W:World}(h:Keep F w W){a:Addr}(ha:a.block∈F)(v:Value):Keep F w (W.setCell a v) :=
 ⟨h.os,h.tape,h.output,by simpa using h.size,fun k hk hF=>(Below.heap_setCell _ _ _ _ (fun e=>hF (by rw[e];exact ha))).trans (h.block k hk hF)⟩
theorem Keep.drew {F:List Nat}{w W:World}(h:Keep F w W):Keep F w W.drew:=⟨h.os,h.tape,h.output,h.size,h.block⟩
theorem zE {w:World}{k:Nat}{o:Obj}(h:w.heap[k]?=some o):k < w.heap.size:=(Array.getElem?_eq_some_iff.1 h).1
theorem Keep.obj {F:List Nat}{w w':World}(h:Keep F w w'){k:Nat}{o:Obj}(ho:w.heap[k]?=some o)(hF:k ∉ F):w'.heap[k]?=some o :=
 (h.block k (zE ho) hF).trans ho
theorem Ext.obj {w w':World}(h:Ext w w'){k:Nat}{o:Obj}(ho:w.heap[k]?=some o):w'.heap[k]?=some o:=(h.block k (zE ho)).trans ho
theorem cO {w:World}{k i:Nat}{cs:Array Value}{t:TypeId}{fr:Nat×Nat}(h:w.heap[k]?=some (.cells cs t fr)):w.cell? ⟨k,i,none⟩=cs[i]?:=by simp[World.cell?,h]
theorem zA {w:World}{k i:Nat}{cs:Array Value}{t:TypeId}(h:w.heap[k]?=some (.cells cs t (0,0))):w.frozen? ⟨k,i,none⟩=false:=by simp[World.frozen?,h]
theorem zD (w:World)(o:Obj){k:Nat}(h:k=w.heap.size):(w.alloc o).heap[k]?=some o:=by subst h;exact heap_alloc_new w o
theorem zB {w:World}{k:Nat}{x:Obj}(o:Obj)(h:w.heap[k]?=some x):(w.alloc o).heap[k]?=some x:=(heap_alloc_old w o (zE h)).trans h
theorem own_obj {α:Type}{w:World}{base k n:Nat}{e:TypeId}{sz:Nat}{enc:α→List Value}{xs:List α}(E:Enc sz enc)(h:w.heap[k]?=some (.cells (xs.flatMap enc).toArray e (0,0)))(hb:base≤k)(hn:n=xs.length)(hm:xs.length≤maxLen):
  Own w base e sz enc (.slice (some ⟨k,0,none⟩) n n) xs:=by
 subst hn
 refine⟨qC E.len xs,.inr ⟨k,xs.length,_,rfl,hb,h,Nat.le_refl _,hm,by simp[qC E.len],?_⟩⟩
 simp only[]
 exact List.take_of_length_le (by simp[qC E.len])
def MapObj (w:World)(r:Nat)(ps:List (Value×Value)):Prop :=
 ∃ es clock,w.heap[r]?=some (.map es clock)∧es.toList.map (fun e=>(e.key,e.val))=ps
theorem MapObj.lt {w:World}{r:Nat}{ps:List (Value×Value)}(h:MapObj w r ps):r < w.heap.size:=by
 obtain⟨es,c,h1,_⟩:=h
 exact zE h1
theorem MapObj.keep {F:List Nat}{w w':World}{r:Nat}{ps:List (Value×Value)}(h:MapObj w r ps)(k:Keep F w w')(hF:r ∉ F):MapObj w' r ps:=by
 obtain⟨es,c,h1,h2⟩:=h
 exact⟨es,c,k.obj h1 hF,h2⟩
def jC (w:World)(r:Nat)(o:Obj):World:={w with heap:=w.heap.setIfInBounds r o}
theorem jZ {w:World}{r:Nat}{o:Obj}(h:r < w.heap.size):(jC w r o).heap[r]?=some o:=by
 simp[jC,h]
theorem jX (w:World)(r:Nat)(o:Obj):Keep [r] w (jC w r o) :=
 ⟨rfl,rfl,rfl,by simp[jC],fun k hk hF=>by simp only[jC];rw[Array.getElem?_setIfInBounds_ne (by simpa using fun e=>hF (by simp[e]))]⟩
abbrev ints (k:IntKind)(L:List (Int×Value)):List (Value×Value):=L.map fun p=>(Value.int k p.1,p.2)
theorem gY (k:IntKind)(n:Int):∀ (es:List MapEntry) (i:Nat) (L:List (Int×Value)),es.map (fun e=>(e.key,e.val))=ints k L →
  (Instr.findNow (.int k) (.int k n) es i=some (match L.lookup n with|none=>none|some v=>some (i+L.findIdx (fun p=>p.1 == n),v)))
 | [],i,L,h=>by
  cases L with
  | nil=>rfl
  | cons p L=>simp at h
 | e :: es,i,L,h=>by
  cases L with
  | nil=>simp at h
  | cons p L =>
   simp only[List.map_cons,List.cons.injEq,Prod.mk.injEq]at h
   obtain⟨⟨h1,h2⟩,h3⟩:=h
   obtain⟨m,v⟩:=p
   simp only at h1 h2
   have hs:Instr.sameNow (.int k) (.int k n) e.key=some (n == m):=by rw[h1];simp[Instr.sameNow]
   unfold Instr.findNow
   rw[hs]
   by_cases hnm:n=m
   ·subst hnm
    simp[List.lookup,h2,List.findIdx_cons]
   ·have hb:(n == m)=false:=by simpa using hnm
    have hb':(m == n)=false:=by simpa using fun e=>hnm e.symm
    simp only[hb]
    rw[gY k n es (i+1) L h3]
    simp only[List.lookup,hb,List.findIdx_cons,hb',cond_false]
    cases L.lookup n with
    | none=>rfl
    | some u=>simp;omega
section
variable {P:Program} {T K E:TypeId} {k:IntKind} {w:World} {r:Nat} {L:List (Int×Value)}
theorem vE (hT:P.underlying T=some (.map K E))(hK:P.underlying K=some (.int k)){z:Value}(hz:∀ W,(zeroValue E).run P W=.ok z W)(h:MapObj w r (ints k L))(n:Int):
  (Instr.lookup T (.map (some r)) (.int k n) false).run P w=.ok ((L.lookup n).getD z) w ∧
  (Instr.lookup T (.map (some r)) (.int k n) true).run P w=.ok (.tuple #[(L.lookup n).getD z,.bool (L.lookup n).isSome]) w:=by
 obtain⟨es,clock,hb,he⟩:=h
 have hf:∀ e:Bool,(Instr.checkKey e 10000 K (.int k n)).run P w=.ok () w:=fun e=>by
  have:∀ m:Nat,(Instr.checkKey e (m+1) K (.int k n)).run P w=.ok () w:=fun m=>by simp[Instr.checkKey,run_underlying hK]
  exact this 9999
 have hfk:(Instr.findKey K (.int k n) es.toList).run P w=.ok (match L.lookup n with|none=>none|some v=>some (0+L.findIdx (fun p=>p.1 == n),v)) w:=by
  simp only[Instr.findKey,Sem.run_bind,run_underlying hK,Result.andThen,gY k n es.toList 0 L he]
  rfl
 have hg:∀ {α:Type} (f:Obj→Sem α),(getObj r >>= f).run P w=(f (.map es clock)).run P w:=fun f=>by
  simp[getObj,Sem.run_bind,Sem.run,hb]
 constructor
 ·unfold Instr.lookup
  simp only[Sem.run_bind,run_underlying hT,Result.andThen]
  simp[getObj,Sem.run,hb,hf,hfk,Result.andThen,hz]
  cases hl:L.lookup n with
  | none=>simp[hz,Result.andThen]
  | some v=>simp
 ·unfold Instr.lookup
  simp only[Sem.run_bind,run_underlying hT,Result.andThen]
  simp[getObj,Sem.run,hb,hf,hfk,Result.andThen,hz]
  cases hl:L.lookup n with
  | none=>simp[hz,Result.andThen]
  | some v=>simp
theorem run_update_new (hT:P.underlying T=some (.map K E))(hK:P.underlying K=some (.int k))(h:MapObj w r (ints k L))(n:Int)(x:Value)(hl:L.lookup n=none):
  ∃ w',(Instr.mapUpdate T (.map (some r)) (.int k n) x).run P w=.ok () w'∧MapObj w' r (ints k (L++[(n,x)]))∧Keep [r] w w':=by
 obtain⟨es,clock,hb,he⟩:=h
 have hf:∀ e:Bool,(Instr.checkKey e 10000 K (.int k n)).run P w=.ok () w:=fun e=>by
  have:∀ m:Nat,(Instr.checkKey e (m+1) K (.int k n)).run P w=.ok () w:=fun m=>by simp[Instr.checkKey,run_underlying hK]
  exact this 9999
 have hfk:(Instr.findKey K (.int k n) es.toList).run P w=.ok none w:=by
  simp only[Instr.findKey,Sem.run_bind,run_underlying hK,Result.andThen,gY k n es.toList 0 L he,hl]
  rfl
 refine⟨jC w r (.map (es.push {key:=.int k n,val:=x,born:=clock}) (clock+1)),?_,⟨_,_,jZ (zE hb),?_⟩,jX _ _ _⟩
 ·unfold Instr.mapUpdate
  simp only[Sem.run_bind,run_underlying hT,Result.andThen]
  simp[getObj,setObj,Sem.run,hb,hf,hfk,Result.andThen,jC]
 ·simp[he]
def qY {α β:Type}[BEq α](L:List (α×β))(n:α)(x:β):List (α×β):=L.map fun p=>if p.1 == n then (p.1,x) else p
end
theorem κ2 {w : World} {k : Nat} {v0 v1 : Value} {vs : List Value} {t : TypeId} {f : Nat × Nat} (h : w.heap[k]? = some (.cells (v0 :: v1 :: vs).toArray t f)) : w.cell? ⟨k, 0, none⟩ = some v0 ∧ w.cell? ⟨k, 1, none⟩ = some v1 :=
  ⟨by rw [cO (i := 0) h]; rfl, by rw [cO (i := 1) h]; rfl⟩
theorem κ3 {w : World} {k : Nat} {v0 v1 v2 : Value} {vs : List Value} {t : TypeId} {f : Nat × Nat} (h : w.heap[k]? = some (.cells (v0 :: v1 :: v2 :: vs).toArray t f)) : w.cell? ⟨k, 0, none⟩ = some v0 ∧ w.cell? ⟨k, 1, none⟩ = some v1 ∧ w.cell? ⟨k, 2, none⟩ = some v2 :=
  ⟨by rw [cO (i := 0) h]; rfl, by rw [cO (i := 1) h]; rfl, by rw [cO (i := 2) h]; rfl⟩
theorem κ4 {w : World} {k : Nat} {v0 v1 v2 v3 : Value} {vs : List Value} {t : TypeId} {f : Nat × Nat} (h : w.heap[k]? = some (.cells (v0 :: v1 :: v2 :: v3 :: vs).toArray t f)) : w.cell? ⟨k, 0, none⟩ = some v0 ∧ w.cell? ⟨k, 1, none⟩ = some v1 ∧ w.cell? ⟨k, 2, none⟩ = some v2 ∧ w.cell? ⟨k, 3, none⟩ = some v3 :=
  ⟨by rw [cO (i := 0) h]; rfl, by rw [cO (i := 1) h]; rfl, by rw [cO (i := 2) h]; rfl, by rw [cO (i := 3) h]; rfl⟩
theorem κ5 {w : World} {k : Nat} {v0 v1 v2 v3 v4 : Value} {vs : List Value} {t : TypeId} {f : Nat × Nat} (h : w.heap[k]? = some (.cells (v0 :: v1 :: v2 :: v3 :: v4 :: vs).toArray t f)) : w.cell? ⟨k, 0, none⟩ = some v0 ∧ w.cell? ⟨k, 1, none⟩ = some v1 ∧ w.cell? ⟨k, 2, none⟩ = some v2 ∧ w.cell? ⟨k, 3, none⟩ = some v3 ∧ w.cell? ⟨k, 4, none⟩ = some v4 :=
  ⟨by rw [cO (i := 0) h]; rfl, by rw [cO (i := 1) h]; rfl, by rw [cO (i := 2) h]; rfl, by rw [cO (i := 3) h]; rfl, by rw [cO (i := 4) h]; rfl⟩
theorem κ6 {w : World} {k : Nat} {v0 v1 v2 v3 v4 v5 : Value} {vs : List Value} {t : TypeId} {f : Nat × Nat} (h : w.heap[k]? = some (.cells (v0 :: v1 :: v2 :: v3 :: v4 :: v5 :: vs).toArray t f)) : w.cell? ⟨k, 0, none⟩ = some v0 ∧ w.cell? ⟨k, 1, none⟩ = some v1 ∧ w.cell? ⟨k, 2, none⟩ = some v2 ∧ w.cell? ⟨k, 3, none⟩ = some v3 ∧ w.cell? ⟨k, 4, none⟩ = some v4 ∧ w.cell? ⟨k, 5, none⟩ = some v5 :=
  ⟨by rw [cO (i := 0) h]; rfl, by rw [cO (i := 1) h]; rfl, by rw [cO (i := 2) h]; rfl, by rw [cO (i := 3) h]; rfl, by rw [cO (i := 4) h]; rfl, by rw [cO (i := 5) h]; rfl⟩
theorem χ2 {ι : Type} {F : ι → World} {k : Nat} {v0 v1 : Value} {vs : List Value} {t : TypeId} {f : Nat × Nat} (h : ∀ n : ι, (F n).heap[k]? = some (.cells (v0 :: v1 :: vs).toArray t f)) : (∀ n : ι, (F n).cell? ⟨k, 0, none⟩ = some v0) ∧ (∀ n : ι, (F n).cell? ⟨k, 1, none⟩ = some v1) :=
  ⟨fun n => by rw [cO (i := 0) (h n)]; rfl, fun n => by rw [cO (i := 1) (h n)]; rfl⟩
theorem χ3 {ι : Type} {F : ι → World} {k : Nat} {v0 v1 v2 : Value} {vs : List Value} {t : TypeId} {f : Nat × Nat} (h : ∀ n : ι, (F n).heap[k]? = some (.cells (v0 :: v1 :: v2 :: vs).toArray t f)) : (∀ n : ι, (F n).cell? ⟨k, 0, none⟩ = some v0) ∧ (∀ n : ι, (F n).cell? ⟨k, 1, none⟩ = some v1) ∧ (∀ n : ι, (F n).cell? ⟨k, 2, none⟩ = some v2) :=
  ⟨fun n => by rw [cO (i := 0) (h n)]; rfl, fun n => by rw [cO (i := 1) (h n)]; rfl, fun n => by rw [cO (i := 2) (h n)]; rfl⟩
theorem χ4 {ι : Type} {F : ι → World} {k : Nat} {v0 v1 v2 v3 : Value} {vs : List Value} {t : TypeId} {f : Nat × Nat} (h : ∀ n : ι, (F n).heap[k]? = some (.cells (v0 :: v1 :: v2 :: v3 :: vs).toArray t f)) : (∀ n : ι, (F n).cell? ⟨k, 0, none⟩ = some v0) ∧ (∀ n : ι, (F n).cell? ⟨k, 1, none⟩ = some v1) ∧ (∀ n : ι, (F n).cell? ⟨k, 2, none⟩ = some v2) ∧ (∀ n : ι, (F n).cell? ⟨k, 3, none⟩ = some v3) :=
  ⟨fun n => by rw [cO (i := 0) (h n)]; rfl, fun n => by rw [cO (i := 1) (h n)]; rfl, fun n => by rw [cO (i := 2) (h n)]; rfl, fun n => by rw [cO (i := 3) (h n)]; rfl⟩
theorem χ5 {ι : Type} {F : ι → World} {k : Nat} {v0 v1 v2 v3 v4 : Value} {vs : List Value} {t : TypeId} {f : Nat × Nat} (h : ∀ n : ι, (F n).heap[k]? = some (.cells (v0 :: v1 :: v2 :: v3 :: v4 :: vs).toArray t f)) : (∀ n : ι, (F n).cell? ⟨k, 0, none⟩ = some v0) ∧ (∀ n : ι, (F n).cell? ⟨k, 1, none⟩ = some v1) ∧ (∀ n : ι, (F n).cell? ⟨k, 2, none⟩ = some v2) ∧ (∀ n : ι, (F n).cell? ⟨k, 3, none⟩ = some v3) ∧ (∀ n : ι, (F n).cell? ⟨k, 4, none⟩ = some v4) :=
  ⟨fun n => by rw [cO (i := 0) (h n)]; rfl, fun n => by rw [cO (i := 1) (h n)]; rfl, fun n => by rw [cO (i := 2) (h n)]; rfl, fun n => by rw [cO (i := 3) (h n)]; rfl, fun n => by rw [cO (i := 4) (h n)]; rfl⟩
theorem χ6 {ι : Type} {F : ι → World} {k : Nat} {v0 v1 v2 v3 v4 v5 : Value} {vs : List Value} {t : TypeId} {f : Nat × Nat} (h : ∀ n : ι, (F n).heap[k]? = some (.cells (v0 :: v1 :: v2 :: v3 :: v4 :: v5 :: vs).toArray t f)) : (∀ n : ι, (F n).cell? ⟨k, 0, none⟩ = some v0) ∧ (∀ n : ι, (F n).cell? ⟨k, 1, none⟩ = some v1) ∧ (∀ n : ι, (F n).cell? ⟨k, 2, none⟩ = some v2) ∧ (∀ n : ι, (F n).cell? ⟨k, 3, none⟩ = some v3) ∧ (∀ n : ι, (F n).cell? ⟨k, 4, none⟩ = some v4) ∧ (∀ n : ι, (F n).cell? ⟨k, 5, none⟩ = some v5) :=
  ⟨fun n => by rw [cO (i := 0) (h n)]; rfl, fun n => by rw [cO (i := 1) (h n)]; rfl, fun n => by rw [cO (i := 2) (h n)]; rfl, fun n => by rw [cO (i := 3) (h n)]; rfl, fun n => by rw [cO (i := 4) (h n)]; rfl, fun n => by rw [cO (i := 5) (h n)]; rfl⟩
structure Ar  where
 bytes:List Int
 put:List Bool
 fixed:Bool
abbrev Areas:=List (Int×Ar)
def kS (M:Areas)(at_ size:Int):Option (Ar×Nat) :=
 match M.lookup (at_ / 4294967296) with
 | none=>none
 | some A=>if (A.bytes.length:Int) < at_%4294967296∨(A.bytes.length:Int) - at_%4294967296 < size then none else some (A,(at_%4294967296).toNat)
def cutL {α:Type}(l:List α)(o n:Nat):List α:=(l.drop o).take n
def yK (M:Areas)(at_ size:Int):List Int×Int :=
 if size < 0∨1024 < size then ([],1) else
 match kS M at_ size with
 | none=>([],80)
 | some (A,o)=>if (cutL A.put o size.toNat).contains false then ([],81) else (cutL A.bytes o size.toNat,0)
def vU (n:Int):Bool:=n == 1 || n == 2 || n == 4 || n == 8
def le:List Int→Int
 | []=>0
 | b :: bs=>b+256 * le bs
def zY (n:Int):Nat→List Int
 | 0=>[]
 | k+1=>n%256 :: zY (n / 256) k
def kE (M:Areas)(at_ size:Int):Int×Int :=
 if vU size=true then (le (yK M at_ size).1,(yK M at_ size).2) else (0,1)
def over {α:Type}(l:List α)(o:Nat)(s:List α):List α:=l.take o++s++l.drop (o+s.length)
def Ar.write (A:Ar)(o:Nat)(s:List Int):Ar:={A with bytes:=over A.bytes o s,put:=over A.put o (s.map fun _=>true)}
def yP (M:Areas)(at_ size n:Int):Areas×Int :=
 if vU size=true then
  match kS M at_ size with
  | none=>(M,80)
  | some (A,o)=>if A.fixed=true then (M,82) else (qY M (at_ / 4294967296) (A.write o (zY n size.toNat)),0)
 else (M,1)
def yG (M:Areas)(n:Int)(b:List Int)(blank fixed:Bool):Areas×Int :=
 if (M.lookup n).isSome=true∨n < 1∨2147483647 < n then (M,1)
 else if 1024 < b.length then (M,3)
 else (M++[(n,⟨b,b.map fun _=>!blank,fixed⟩)],0)
def mat (area off:Int):Int:=(area * 4294967296+off)%18446744073709551616
structure Rec  where
 n:Int
 a:Nat
 g:Nat
 p:Nat
 A:Ar
def Rec.blocks (r:Rec):List Nat:=[r.a,r.g,r.p]
def Rec.pair (r:Rec):Int×Value:=(r.n,.pointer (some ⟨r.a,0,none⟩))
structure RecAt (w:World)(r:Rec):Prop where
 area:w.heap[r.a]?=some (.cells #[.slice (some ⟨r.g,0,none⟩) r.A.bytes.length r.A.bytes.length,.slice (some ⟨r.p,0,none⟩) r.A.bytes.length r.A.bytes.length,.bool r.A.fixed] 151 (0,0))
 bytes:w.heap[r.g]?=some (.cells (r.A.bytes.flatMap fun x=>[Value.int .u8 x]).toArray 5 (0,0))
 put:w.heap[r.p]?=some (.cells (r.A.put.flatMap fun x=>[Value.bool x]).toArray 4 (0,0))
 len:r.A.put.length=r.A.bytes.length
 small:r.A.bytes.length≤1024
 u8:∀ x∈r.A.bytes,0≤x∧x≤255
structure MemAt (w:World)(b r:Nat)(L:List Rec):Prop where
 head:w.heap[b]?=some (.cells #[.map (some r)] 147 (0,0))
 map:MapObj w r (ints .i64 (L.map Rec.pair))
 recs:∀ x∈L,RecAt w x
 apart:(b :: r :: L.flatMap Rec.blocks).Nodup
 keys:∀ x∈L,1≤x.n∧x.n≤2147483647
 uniq:(L.map (·.n)).Nodup
def foot (b r:Nat)(L:List Rec):List Nat:=b :: r :: L.flatMap Rec.blocks
def view (L:List Rec):Areas:=L.map fun x=>(x.n,x.A)
theorem RecAt.keep {F:List Nat}{w w':World}{r:Rec}(h:RecAt w r)(k:Keep F w w')(ha:r.a ∉ F)(hg:r.g ∉ F)(hp:r.p ∉ F):RecAt w' r :=
 ⟨k.obj h.area ha,k.obj h.bytes hg,k.obj h.put hp,h.len,h.small,h.u8⟩
theorem MemAt.keep {F:List Nat}{w w':World}{b r:Nat}{L:List Rec}(h:MemAt w b r L)(k:Keep F w w')(hF:∀ x∈foot b r L,x ∉ F):MemAt w' b r L:=by
 refine⟨k.obj h.head (hF _ (by simp[foot])),h.map.keep k (hF _ (by simp[foot])),fun x hx=>?_,h.apart,h.keys,h.uniq⟩
 have hb:∀ y∈Rec.blocks x,y ∉ F:=fun y hy=>hF y (by simp only[foot,List.mem_cons];exact .inr (.inr (List.mem_flatMap.2 ⟨x,hx,hy⟩)))
 exact(h.recs x hx).keep k (hb _ (by simp[Rec.blocks])) (hb _ (by simp[Rec.blocks])) (hb _ (by simp[Rec.blocks]))
theorem MemAt.ext {w w':World}{b r:Nat}{L:List Rec}(h:MemAt w b r L)(k:Ext w w'):MemAt w' b r L :=
 h.keep (F:=[]) (Keep.of_ext k) (fun _ _=>by simp)
theorem MemAt.lt {w:World}{b r:Nat}{L:List Rec}(h:MemAt w b r L):∀ x∈foot b r L,x < w.heap.size:=by
 intro x hx
 simp only[foot,List.mem_cons,List.mem_flatMap]at hx
 rcases hx with rfl|rfl|⟨y,hy,hx⟩
 ·exact zE h.head
 ·exact h.map.lt
 ·simp only[Rec.blocks,List.mem_cons,List.not_mem_nil,or_false]at hx
  rcases hx with rfl|rfl|rfl
  ·exact zE (h.recs y hy).area
  ·exact zE (h.recs y hy).bytes
  ·exact zE (h.recs y hy).put
theorem pw_of {α:Type}{R:α→α→Prop}(hs:∀ a b,R a b→R b a){L:List α}(h:L.Pairwise R){x y:α}(hx:x∈L)(hy:y∈L)(hne:x≠y):R x y:=by
 induction h with
 | nil=>cases hx
 | cons h1 _ ih =>
  cases hx with
  | head=>cases hy with
   | head=>exact absurd rfl hne
   | tail _ hy=>exact h1 _ hy
  | tail _ hx=>cases hy with
   | head=>exact hs _ _ (h1 _ hx)
   | tail _ hy=>exact ih hx hy
theorem MemAt.rec_apart {w:World}{b r:Nat}{L:List Rec}(h:MemAt w b r L){x:Rec}(hx:x∈L):x.a ∉ [x.g,x.p]∧x.g≠x.p:=by
 have h1:=(List.nodup_cons.1 (List.nodup_cons.1 h.apart).2).2
 have h2:(Rec.blocks x).Nodup:=(List.pairwise_flatMap.1 h1).1 x hx
 simp only[Rec.blocks,List.nodup_cons,List.mem_cons,List.not_mem_nil,or_false,not_or]at h2 ⊢
 exact⟨h2.1,h2.2.1⟩
theorem MemAt.other {w:World}{b r:Nat}{L:List Rec}(h:MemAt w b r L){x y:Rec}(hx:x∈L)(hy:y∈L)(hne:x≠y){k:Nat}(hk:k∈Rec.blocks x):k ∉ Rec.blocks y∧k≠b∧k≠r:=by
 have h0:=List.nodup_cons.1 h.apart
 have h1:=List.nodup_cons.1 h0.2
 have hm:k∈L.flatMap Rec.blocks:=List.mem_flatMap.2 ⟨x,hx,hk⟩
 refine⟨fun hk'=>?_,fun e=>h0.1 (by subst e;exact List.mem_cons_of_mem _ hm),fun e=>h1.1 (by subst e;exact hm)⟩
 have h2:=(List.pairwise_flatMap.1 h1.2).2
 exact pw_of (R:=fun a b=>∀ x∈Rec.blocks a,∀ y∈Rec.blocks b,x≠y) (fun a b hab u hu v hv e=>hab v hv u hu e.symm) h2 hx hy hne k hk k hk' rfl
theorem uniq_eq {L:List Rec}(h:(L.map (·.n)).Nodup){x y:Rec}(hx:x∈L)(hy:y∈L)(e:x.n=y.n):x=y:=by
 induction L with
 | nil=>cases hx
 | cons z L ih =>
  simp only[List.map_cons,List.nodup_cons,List.mem_map,not_exists,not_and]at h
  cases hx with
  | head=>cases hy with
   | head=>rfl
   | tail _ hy=>exact absurd e.symm (h.1 y hy)
  | tail _ hx=>cases hy with
   | head=>exact absurd e (h.1 x hx)
   | tail _ hy=>exact ih h.2 hx hy
theorem pG (L:List Rec)(n:Int):((L.map Rec.pair).lookup n=none∧(view L).lookup n=none) ∨
  ∃ x∈L,x.n=n∧(L.map Rec.pair).lookup n=some (.pointer (some ⟨x.a,0,none⟩))∧(view L).lookup n=some x.A:=by
 induction L with
 | nil=>left;simp[view]
 | cons y L ih =>
  by_cases h:n=y.n
  ·right
   exact⟨y,List.mem_cons_self,h.symm,by simp[List.lookup,Rec.pair,h],by simp[view,List.lookup,h]⟩
  ·have hb:(n == y.n)=false:=by simpa using h
   rcases ih with ⟨h1,h2⟩|⟨x,hx,h1,h2,h3⟩
   ·left;exact⟨by simpa[List.lookup,Rec.pair,hb]using h1,by simpa[view,List.lookup,hb]using h2⟩
   ·right;exact⟨x,List.mem_cons_of_mem _ hx,h1,by simpa[List.lookup,Rec.pair,hb]using h2,by simpa[view,List.lookup,hb]using h3⟩
def uL (L:List Rec)(x:Rec)(A:Ar):List Rec:=L.map fun y=>if y.n == x.n then {y with A:=A} else y
theorem updRec_same (L:List Rec)(x:Rec)(A:Ar):(uL L x A).map Rec.pair=L.map Rec.pair∧(uL L x A).flatMap Rec.blocks=L.flatMap Rec.blocks∧(uL L x A).map (·.n)=L.map (·.n):=by
 induction L with
 | nil=>exact⟨rfl,rfl,rfl⟩
 | cons y L ih =>
  obtain⟨h1,h2,h3⟩:=ih
  have e:uL (y :: L) x A=(if y.n == x.n then {y with A:=A} else y) :: uL L x A:=rfl
  rw[e]
  simp only[List.map_cons,List.flatMap_cons,h1,h2,h3]
  by_cases hn:y.n == x.n<;>simp[hn,Rec.pair,Rec.blocks]
theorem view_upd (L:List Rec)(x:Rec)(A:Ar):view (uL L x A)=qY (view L) x.n A:=by
 simp only[view,uL,qY,List.map_map]
 apply List.map_congr_left
 intro y _
 by_cases hn:y.n=x.n
 ·simp[hn]
 ·simp[hn]
theorem foot_upd (b r:Nat)(L:List Rec)(x:Rec)(A:Ar):foot b r (uL L x A)=foot b r L:=by
 simp only[foot,(updRec_same L x A).2.1]
theorem MemAt.upd {w w':World}{b r:Nat}{L:List Rec}(h:MemAt w b r L){x:Rec}(hx:x∈L)(A:Ar)(hf:A.fixed=x.A.fixed)(hl:A.bytes.length=x.A.bytes.length)(hp:A.put.length=A.bytes.length)(hu:∀ q∈A.bytes,0≤q∧q≤255)
  (k:Keep [x.g,x.p] w w') (HG:w'.heap[x.g]?=some (.cells (A.bytes.flatMap fun x=>[Value.int .u8 x]).toArray 5 (0,0))) (HP:w'.heap[x.p]?=some (.cells (A.put.flatMap fun x=>[Value.bool x]).toArray 4 (0,0))) :
  MemAt w' b r (uL L x A):=by
 obtain⟨s1,s2,s3⟩:=updRec_same L x A
 have h0:=List.nodup_cons.1 h.apart
 have h1:=List.nodup_cons.1 h0.2
 have hmem:∀ j∈Rec.blocks x,j∈L.flatMap Rec.blocks:=fun j hj=>List.mem_flatMap.2 ⟨x,hx,hj⟩
 have hbF:b ∉ [x.g,x.p]:=by
  intro hb
  simp only[List.mem_cons,List.not_mem_nil,or_false]at hb
  exact h0.1 (List.mem_cons_of_mem _ (hmem b (by simp only[Rec.blocks,List.mem_cons,List.not_mem_nil,or_false];exact .inr hb)))
 have hrF:r ∉ [x.g,x.p]:=by
  intro hb
  simp only[List.mem_cons,List.not_mem_nil,or_false]at hb
  exact h1.1 (hmem r (by simp only[Rec.blocks,List.mem_cons,List.not_mem_nil,or_false];exact .inr hb))
 refine⟨k.obj h.head hbF,by rw[s1];exact h.map.keep k hrF,?_,by rw[s2];exact h.apart,?_,by rw[s3];exact h.uniq⟩
 ·intro y' hy'
  obtain⟨y,hy,rfl⟩:=List.mem_map.1 hy'
  by_cases hn:y.n == x.n
  ·have e:y=x:=uniq_eq h.uniq hy hx (by simpa using hn)
   subst e
   have hR:=h.recs y hy
   simp only[hn,if_true]
   refine⟨?_,HG,HP,hp,by rw[hl];exact hR.small,hu⟩
   have:=k.obj hR.area (h.rec_apart hy).1
   simp only[hl,hf]
   exact this
  ·have hne:y≠x:=fun e=>hn (by rw[e];simp)
   simp only[hn,Bool.false_eq_true,if_false]
   have ho:∀ j∈Rec.blocks y,j ∉ [x.g,x.p]:=by
    intro j hj hj'
    refine(h.other hy hx hne hj).1 ?_
    simp only[List.mem_cons,List.not_mem_nil,or_false]at hj'
    simp only[Rec.blocks,List.mem_cons,List.not_mem_nil,or_false]
    exact .inr hj'
   exact(h.recs y hy).keep k (ho _ (by simp[Rec.blocks])) (ho _ (by simp[Rec.blocks])) (ho _ (by simp[Rec.blocks]))
 ·intro y' hy'
  obtain⟨y,hy,rfl⟩:=List.mem_map.1 hy'
  have:=h.keys y hy
  by_cases hn:y.n == x.n<;>simpa[hn]using this
theorem lookup_none {α:Type}{L:List (Int×α)}{n:Int}(h:L.lookup n=none):∀ q∈L,q.1≠n:=by
 induction L with
 | nil=>simp
 | cons y L ih =>
  by_cases e:n == y.1
  ·simp[List.lookup,e]at h
  ·have e':(n == y.1)=false:=by simpa using e
   simp only[List.lookup,e']at h
   intro q hq
   rcases List.mem_cons.1 hq with rfl|hq
   ·exact fun e'=>e (by simp[e'])
   ·exact ih h q hq
theorem MemAt.push {w w':World}{b r:Nat}{L:List Rec}(h:MemAt w b r L){x:Rec}(hl:(view L).lookup x.n=none)(hn:1≤x.n∧x.n≤2147483647)(k:Keep [r] w w')(hm:MapObj w' r (ints .i64 (L.map Rec.pair++[x.pair])))
  (hx:RecAt w' x) {B:Nat} (hB:∀ j∈foot b r L,j < B) (hfr:B≤x.a∧B≤x.g∧B≤x.p) (hap:x.a≠x.g∧x.a≠x.p∧x.g≠x.p) :
  MemAt w' b r (L++[x]):=by
 have h0:=List.nodup_cons.1 h.apart
 have h1:=List.nodup_cons.1 h0.2
 refine⟨k.obj h.head (by simp only[List.mem_singleton];intro e;exact h0.1 (by rw[e];exact List.mem_cons_self)),by rw[List.map_append];exact hm,?_,?_,?_,?_⟩
 ·intro y hy
  rcases List.mem_append.1 hy with hy|hy
  ·have hb:∀ j∈Rec.blocks y,j ∉ [r]:=by
    intro j hj hj'
    rw[List.mem_singleton]at hj'
    subst hj'
    exact h1.1 (List.mem_flatMap.2 ⟨y,hy,hj⟩)
   exact(h.recs y hy).keep k (hb _ (by simp[Rec.blocks])) (hb _ (by simp[Rec.blocks])) (hb _ (by simp[Rec.blocks]))
  ·rw[List.mem_singleton]at hy
   subst hy
   exact hx
 ·have e:b :: r :: (L++[x]).flatMap Rec.blocks=(b :: r :: L.flatMap Rec.blocks)++Rec.blocks x:=by simp
  rw[e,List.nodup_append]
  refine⟨h.apart,by simp[Rec.blocks,hap],?_⟩
  intro j hj j' hj' e'
  have:=hB j hj
  simp only[Rec.blocks,List.mem_cons,List.not_mem_nil,or_false]at hj'
  rcases hj' with rfl|rfl|rfl<;>omega
 ·intro y hy
  rcases List.mem_append.1 hy with hy|hy
  ·exact h.keys y hy
  ·rw[List.mem_singleton]at hy
   subst hy
   exact hn
 ·rw[List.map_append,List.nodup_append]
  refine⟨h.uniq,by simp,?_⟩
  intro j hj j' hj' e'
  obtain⟨y,hy,rfl⟩:=List.mem_map.1 hj
  simp only[List.map_cons,List.map_nil,List.mem_singleton]at hj'
  subst hj'
  exact lookup_none hl (y.n,y.A) (List.mem_map.2 ⟨y,hy,rfl⟩) e'
theorem foot_push (b r:Nat)(L:List Rec)(x:Rec):∀ k∈foot b r (L++[x]),k∈foot b r L∨k∈Rec.blocks x:=by
 intro k hk
 simp only[foot,List.flatMap_append,List.flatMap_cons,List.flatMap_nil,List.append_nil,List.mem_cons,List.mem_append]at hk ⊢
 rcases hk with h|h|h|h
 ·exact .inl (.inl h)
 ·exact .inl (.inr (.inl h))
 ·exact .inl (.inr (.inr h))
 ·exact .inr h
theorem el_u8:El Tryz.prog 23 5 1 1 (.int .u8 0):=⟨Tryz.underlying23,by kernel_rfl,rfl,by decide,fun _=>by kernel_rfl⟩
theorem el_bool:El Tryz.prog 54 4 1 1 (.bool false):=⟨Tryz.underlying54,by kernel_rfl,rfl,by decide,fun _=>by kernel_rfl⟩
theorem zero_area (W:World):(zeroValue 148).run Tryz.prog W=.ok (.pointer none) W:=by kernel_rfl
theorem ret_int {k:IntKind}{a b:Int}(h:a=b):Ending.returned (.int k a)=.returned (.int k b):=by rw[h]
theorem xX {a b:Int}(h:a=b):Ending.returned (.int .u64 a)=.returned (.int .u64 b):=by rw[h]
theorem yS {x y:Bool}(h:x=y):Ending.returned (.bool x)=.returned (.bool y):=by rw[h]
def NewAns (w:World)(e:Ending)(w':World):Prop:=∃ b r,e=.returned (.pointer (some ⟨b,0,none⟩))∧MemAt w' b r []∧w.heap.size≤b∧w.heap.size≤r∧Ext w w'
set_option maxHeartbeats 400000 in
theorem mem_new (w:World):Calls Tryz.prog 49 #[] w (NewAns w):=by
 have hmm:=@run_makeMap Tryz.prog
 go_enter Tryz.func49,Tryz.ntmps49
 go_wp2
 go_returns
 refine⟨w.heap.size+1,w.heap.size,rfl,⟨?_,⟨#[],0,?_,rfl⟩,fun x hx=>by simp at hx,by simp,fun x hx=>by simp at hx,by simp⟩,by omega,Nat.le_refl _,by (repeat (first|exact xE0 _|assumption|refine xE1 ?_ _|refine xE2 ?_|refine xE3 ?_ _|refine xE4 ?_ (by assumption)))⟩
 ·exact zD _ _ (by simp)
 ·exact zB _ (zD _ _ rfl)
set_option maxHeartbeats 400000 in
theorem tT (a o:Int)(w:World):Calls Tryz.prog 29 #[.int .i64 a,.int .i64 o] w fun e w'=>e=.returned (.int .u64 (mat a o))∧w'=w:=by
 go_enter Tryz.func29,Tryz.ntmps29
 go_wp2
 go_returns
 exact⟨xX (by simp only[IntKind.wrap_u64,mat];omega),rfl⟩
set_option maxHeartbeats 400000 in
theorem mem_find (b r:Nat)(L:List Rec)(p s:Int)(w:World)(h:MemAt w b r L)(hp:0≤p)(hs:0≤s)(hs1:s≤1024)(H:Hid (p≤18446744073709551615)):
  Calls Tryz.prog 125 #[.pointer (some ⟨b,0,none⟩),.int .u64 p,.int .i64 s] w fun e w'=>w'=w ∧
   ((kS (view L) p s=none∧e=.returned (.tuple #[.pointer none,.int .i64 0]))∨∃ x∈L,x.n=p / 4294967296∧kS (view L) p s=some (x.A,(p%4294967296).toNat)∧e=.returned (.tuple #[.pointer (some ⟨x.a,0,none⟩),.int .i64 (p%4294967296)])):=by
 have hq0:0≤p / 4294967296:=by omega
 have hq1:p / 4294967296≤4294967295:=by have:=H.out;omega
 have hb:=cO (i:=0) h.head
 have HM:=η h
 have hlk:=(vE (P:=Tryz.prog) Tryz.underlying145 Tryz.underlying3 zero_area h.map (p / 4294967296)).1
 rcases pG L (p / 4294967296) with ⟨h1,h2⟩|⟨x,hx,hxn,h1,h2⟩
 ·rw[h1]at hlk
  simp only[Option.getD_none]at hlk
  have H2:=η h2
  clear h h1 h2
  go_enter Tryz.func125,Tryz.ntmps125
  go_wp2_with fail
  go_returns
  exact⟨rfl,.inl ⟨by simp[kS,H2.out],rfl⟩⟩
 ·rw[h1]at hlk
  simp only[Option.getD_some]at hlk
  have H2:=η h2
  have HX:=η hx
  have HXN:=η hxn
  have hR:=h.recs x hx
  have hsm:=hR.small
  have c0:=cO (i:=0) hR.area
  have c1:=cO (i:=1) hR.area
  clear h h1 h2 hx hxn hR
  have ho0:0≤p%4294967296:=by omega
  have ho1:p%4294967296≤4294967295:=by omega
  by_cases hA:(x.A.bytes.length:Int) < p%4294967296
  ·go_enter Tryz.func125,Tryz.ntmps125
   go_wp2_with fail
   go_returns
   exact⟨rfl,.inl ⟨by simp only[kS,H2.out];rw[if_pos (.inl hA)],rfl⟩⟩
  ·have hA':decide ((x.A.bytes.length:Int) < p%4294967296)=false:=by simpa using hA
   by_cases hB:(x.A.bytes.length:Int) - p%4294967296 < s
   ·go_enter Tryz.func125,Tryz.ntmps125
    go_wp2_with fail
    go_returns
    exact⟨rfl,.inl ⟨by simp only[kS,H2.out];rw[if_pos (.inr hB)],rfl⟩⟩
   ·go_enter Tryz.func125,Tryz.ntmps125
    go_wp2_with fail
    go_returns
    exact⟨rfl,.inr ⟨x,HX.out,HXN.out,by simp only[kS,H2.out];rw[if_neg (fun h=>by omega)],rfl⟩⟩
end Go.Proofs.YtppefchjoodgnaaGreat
