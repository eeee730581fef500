import Derived.Test.YtppefchjoodgnaaGreatPQ18
set_option linter.unusedSimpArgs false
set_option linter.unusedVariables false
namespace Go.Proofs.YtppefchjoodgnaaGreat
open Go.RowKit
section
variable {F0 Z0:List Nat} {wf w w':World} {base mb:Nat} {σ:RS} {l:RLay}
theorem mat3 (i:Nat)(h:i≤9223372036854775807):mat 3 i=12884901888+i:=by unfold mat;omega
theorem m_Word (i:Nat)(w:World)(h:i≤9223372036854775807):Calls Tryz.prog 102 #[.int .i64 i] w fun e w'=>e=.returned (.int .u64 (12884901888+i))∧w'=w:=by
 go_enter Tryz.func102,Tryz.ntmps102
 go_wp2_with fail
 refine(ref_at _ _ _).mono ?_
 rintro e w1 ⟨rfl,rfl⟩
 go_wp2_with fail
 go_returns
 exact⟨by rw[mat3 i h];rfl,rfl⟩
set_option maxHeartbeats 1000000 in
theorem m_table (h:MRel F0 Z0 wf base w mb σ)(n:Int)(hn:u64R n):
  Calls Tryz.prog 186 #[.pointer (some ⟨mb,0,none⟩),.int .u64 n] w fun e w'=>e=.returned (.int .i64 (tblN σ.D.length n))∧Ext w w':=by
 have HM:=η h
 obtain⟨h0,hl,l,g1,g2,g3⟩:=h
 obtain⟨a,m,c,hdv,hm,hN⟩:=g1.defs.val
 have HDV:=η (fun W (he:Ext w W)=>(by have:=(g1.ext he).cell 25 rfl;rw[hdv]at this;exact this:W.cell? ⟨mb,25,none⟩=some (.slice a m c)))
 have hlt:=zE g1.head
 have HN:=η hn
 have HD:Hid (m=σ.D.length):=hN
 clear h0 hl g1 g2 g3 hn hdv
 go_enter Tryz.func186,Tryz.ntmps186
 go_wp2_with fail
 go_loopw [5] (fun q wr=>∃ k:Nat,k≤m∧q=.int .i64 k∧Hid (¬ (12884901888≤n∧n < 12884901888+(k:Int)))∧Hid (Ext w wr)) (fun q _=>m - (intOf q).toNat)
 case atStart=>exact⟨0,Nat.zero_le _,rfl,η (by simp only[Int.ofNat_zero,Int.cast_ofNat_Int];omega),η (Ext.rfl' _)⟩
 case round =>
  obtain⟨k,hk,rfl,HK,HE⟩:=hrel
  have cd:=HDV.out _ HE.out
  have hmb:=HE.out.size
  by_cases hlt2:(k:Int) < m
  ·by_cases he:(12884901888+(k:Int) == n)=true
   ·go_wp2_with fail
    refine(m_Word k _ (by omega)).mono ?_
    rintro e w2 ⟨rfl,rfl⟩
    go_wp2_with fail
    go_returns
    have:=HD.out
    have he':12884901888+(k:Int)=n:=by simpa using he
    have e3:n - 12884901888=k:=by omega
    exact⟨by rw[tblN,if_pos (by omega),e3];rfl,HE.out⟩
   ·have he1:(12884901888+(k:Int) == n)=false:=by simpa using he
    have HE1:=η he
    clear he
    go_wp2_with fail
    refine(m_Word k _ (by omega)).mono ?_
    rintro e w2 ⟨rfl,rfl⟩
    go_wp2_with fail
    go_roundw
    case rel=>exact⟨k+1,by omega,by go_num,η (by have:=HK.out;have:=HE1.out;simp at this;omega),HE⟩
    case measure=>simp[intOf];omega
  ·go_wp2_with fail
   go_returns
   have:=HD.out
   have:=HK.out
   exact⟨by rw[tblN,if_neg (by omega)];rfl,HE.out⟩
structure CAt (w:World)(base:Nat)(x:CB):Prop where
 key:Own w base 5 1 encB x.kv x.c.key
 val:Own w base 5 1 encB x.vv x.c.val
 n:Own w base 29 1 (fun x=>[Value.int .u64 x]) x.nv x.c.n
theorem CAt.ext {w w':World}{base:Nat}{x:CB}(h:CAt w base x)(k:Ext w w'):CAt w' base x:=⟨h.key.ext k,h.val.ext k,h.n.ext k⟩
theorem CAt.mono {w:World}{base b:Nat}{x:CB}(h:CAt w base x)(k:b≤base):CAt w b x:=⟨h.key.mono k,h.val.mono k,h.n.mono k⟩
theorem CAt.set {w:World}{base:Nat}{x:CB}(h:CAt w base x){b i:Nat}(hb:b < base)(v:Value):CAt (w.setCell ⟨b,i,none⟩ v) base x:=⟨h.key.other hb _,h.val.other hb _,h.n.other hb _⟩
theorem CAt.chain6 {w:World}{base:Nat}{x:CB}(h:CAt w base x){b:Nat}(hb:b < base)(v0 v1 v2 v3 v4 v5:Value):CAt ((((((w.setCell ⟨b,0,none⟩ v0).setCell ⟨b,1,none⟩ v1).setCell ⟨b,2,none⟩ v2).setCell ⟨b,3,none⟩ v3).setCell ⟨b,4,none⟩ v4).setCell ⟨b,5,none⟩ v5) base x:=(((((h.set hb _).set hb _).set hb _).set hb _).set hb _).set hb _
abbrev yU (x:CB):Obj:=.cells #[.int .i64 x.c.id,.int .i64 x.c.map,.slice x.ka x.c.key.length x.kc,.slice x.va x.c.val.length x.vc,.slice x.na x.c.n.length x.nc,.int .u64 x.c.ret] 76 (0,0)
abbrev jM (sv:Value)(tl:Int)(dw:Bool)(mo:Int):Obj:=.cells #[sv,.int .u8 tl,.bool dw,.int .u64 mo] 178 (0,0)
def ToldA (c:Cl)(er:Int)(w:World)(e:Ending)(w':World):Prop :=
 ∃ x:CB,e=.returned (.tuple #[.agg x.enc.toArray,.int .i64 er])∧x.c=c∧CAt w' w.heap.size x∧Ext w w'
def CB.new (id:Int):CB:=⟨Cl.new id,none,0,none,0,none,0⟩
theorem CAt.new (w:World)(b:Nat)(id:Int):CAt w b (CB.new id):=⟨Own.nil _ _ _ _ _,Own.nil _ _ _ _ _,Own.nil _ _ _ _ _⟩
theorem qL {α:Type}:∀ {l:List α} {k:Nat} {t:α},l[k]?=some t→l.drop k=t :: l.drop (k+1)
 | [],k,t,h=>by simp at h
 | a :: l,0,t,h=>by simp at h;simp[h]
 | a :: l,k+1,t,h=>by simp only[List.getElem?_cons_succ]at h;simpa using qL h
theorem tolds_in {id t:Int}(h:t∈zU id):t=1∨t=2∨t=3∨t=4:=by
 unfold zU at h
 split at h
 ·simp at h;omega
 ·split at h
  ·simp at h;omega
  ·split at h
   ·simp at h;omega
   ·simp at h
theorem tV (id:Int):(zU id).length≤4:=by unfold zU;(repeat' split)<;>simp
theorem qV {id t:Int}{i:Nat}(h:(zU id)[i]?=some t)(ht:t=2∨t=3):1≤i∧(zU id)[0]?=some 1:=by
 revert h
 unfold zU
 (repeat' split)
 all_goals
  intro h
  match i,h with
  | 0,h=>simp at h<;>omega
  | i+1,h=>first|exact⟨by omega,rfl⟩|(exfalso;match i,h with|0,h=>(simp at h<;>omega)|i+1,h=>simp at h)
theorem uS {w0 w:World}{B:Nat}{t:TypeId}{a0 a1 a2 a3 a4 a5:Value}(h:w.heap[B]?=some (.cells #[a0,a1,a2,a3,a4,a5] t (0,0)))(he:Ext w0 w)(hb:w0.heap.size≤B)(v0 v1 v2 v3 v4 v5:Value):
  ((((((w.setCell ⟨B,0,none⟩ v0).setCell ⟨B,1,none⟩ v1).setCell ⟨B,2,none⟩ v2).setCell ⟨B,3,none⟩ v3).setCell ⟨B,4,none⟩ v4).setCell ⟨B,5,none⟩ v5).heap[B]?=some (.cells #[v0,v1,v2,v3,v4,v5] t (0,0)) ∧
  Ext w0 ((((((w.setCell ⟨B,0,none⟩ v0).setCell ⟨B,1,none⟩ v1).setCell ⟨B,2,none⟩ v2).setCell ⟨B,3,none⟩ v3).setCell ⟨B,4,none⟩ v4).setCell ⟨B,5,none⟩ v5):=by
 refine⟨?_,(((((he.setCell hb _).setCell hb _).setCell hb _).setCell hb _).setCell hb _).setCell hb _⟩
 have h1:=heap_setCell_same w B 0 _ _ v0 h
 have h2:=heap_setCell_same _ B 1 _ _ v1 h1
 have h3:=heap_setCell_same _ B 2 _ _ v2 h2
 have h4:=heap_setCell_same _ B 3 _ _ v3 h3
 have h5:=heap_setCell_same _ B 4 _ _ v4 h4
 have h6:=heap_setCell_same _ B 5 _ _ v5 h5
 simpa using h6
structure TInv (F0 Z0:List Nat)(wf:World)(base mb:Nat)(σ:RS)(id tl mo:Int)(dw:Bool)(sv:Value)(w wr:World)(i:Nat)(x:CB):Prop where
 ext:Ext w wr
 sig:wr.heap[w.heap.size]?=some (jM sv tl dw mo)
 res:wr.heap[w.heap.size+1]?=some (yU (CB.new 0))
 box:wr.heap[w.heap.size+1+1]?=some (yU x)
 c:CAt wr (w.heap.size+1+1+1) x
 eq:σ.tells x.c i ((zU id).drop i)=σ.tells (Cl.new id) 0 (zU id)
 map:1≤i→(zU id)[0]?=some 1→∃ d,pick σ.D x.c.map=some d
 few:x.c.n.length≤i
theorem TInv.other {id tl mo:Int}{dw:Bool}{sv:Value}{wr:World}{k:Nat}{x:CB}(h:TInv F0 Z0 wf base mb σ id tl mo dw sv w wr k x){w3:World}(he:Ext wr w3)(j:Nat)(v:Value):
  Ext w (w3.setCell ⟨w.heap.size+1+1,j,none⟩ v)∧(w3.setCell ⟨w.heap.size+1+1,j,none⟩ v).heap[w.heap.size+1]?=some (yU (CB.new 0)) :=
 ⟨(h.ext.trans' he).setCell (by show w.heap.size≤w.heap.size+1+1;omega) _,(heap_setCell_other w3 _ _ _ (show w.heap.size+1≠w.heap.size+1+1 by omega)).trans (he.obj h.res)⟩
theorem TInv.next {id tl mo:Int}{dw:Bool}{sv:Value}{wr:World}{k:Nat}{x:CB}(h:TInv F0 Z0 wf base mb σ id tl mo dw sv w wr k x){w3:World}(he:Ext wr w3)(j:Nat)(v:Value)(y:CB)
  (hy:([.int .i64 x.c.id,.int .i64 x.c.map,.slice x.ka x.c.key.length x.kc,.slice x.va x.c.val.length x.vc,.slice x.na x.c.n.length x.nc,.int .u64 x.c.ret]:List Value).set j v=[.int .i64 y.c.id,.int .i64 y.c.map,.slice y.ka y.c.key.length y.kc,.slice y.va y.c.val.length y.vc,.slice y.na y.c.n.length y.nc,.int .u64 y.c.ret])
  (hc:CAt w3 (w.heap.size+1+1+1) y) (heq:σ.tells y.c (k+1) ((zU id).drop (k+1))=σ.tells (Cl.new id) 0 (zU id)) (hm:(zU id)[0]?=some 1→∃ d,pick σ.D y.c.map=some d) (hf:y.c.n.length≤k+1) :
  TInv F0 Z0 wf base mb σ id tl mo dw sv w (w3.setCell ⟨w.heap.size+1+1,j,none⟩ v) (k+1) y:=by
 refine⟨(h.other he j v).1,(heap_setCell_other w3 _ _ _ (show w.heap.size≠w.heap.size+1+1 by omega)).trans (he.obj h.sig),(h.other he j v).2,?_,hc.set (by omega) v,heq,fun _=>hm,hf⟩
 have:=heap_setCell_same w3 (w.heap.size+1+1) j _ _ v (he.obj h.box)
 rw[this]
 have e:(#[.int .i64 x.c.id,.int .i64 x.c.map,.slice x.ka x.c.key.length x.kc,.slice x.va x.c.val.length x.vc,.slice x.na x.c.n.length x.nc,.int .u64 x.c.ret]:Array Value).setIfInBounds j v=#[.int .i64 y.c.id,.int .i64 y.c.map,.slice y.ka y.c.key.length y.kc,.slice y.va y.c.val.length y.vc,.slice y.na y.c.n.length y.nc,.int .u64 y.c.ret]:=by
  apply Array.ext'
  rw[Array.toList_setIfInBounds]
  exact hy
 first|rw[e]|(simp only[yU];rw[e])
theorem pP:5≠29:=by decide
theorem TInv.push {id tl mo:Int}{dw:Bool}{sv:Value}{wr:World}{k:Nat}{x:CB}(h:TInv F0 Z0 wf base mb σ id tl mo dw sv w wr k x){w3:World}(hb:Below (w.heap.size+1+1+1) wr w3)(he:Ext w w3){y:CB}(j:Nat)(v:Value)
  (hy:([.int .i64 x.c.id,.int .i64 x.c.map,.slice x.ka x.c.key.length x.kc,.slice x.va x.c.val.length x.vc,.slice x.na x.c.n.length x.nc,.int .u64 x.c.ret]:List Value).set j v=[.int .i64 y.c.id,.int .i64 y.c.map,.slice y.ka y.c.key.length y.kc,.slice y.va y.c.val.length y.vc,.slice y.na y.c.n.length y.nc,.int .u64 y.c.ret])
  (hc:CAt w3 (w.heap.size+1+1+1) y) (heq:σ.tells y.c (k+1) ((zU id).drop (k+1))=σ.tells (Cl.new id) 0 (zU id)) (hm:(zU id)[0]?=some 1→∃ d,pick σ.D y.c.map=some d) (hf:y.c.n.length≤k+1) :
  TInv F0 Z0 wf base mb σ id tl mo dw sv w (w3.setCell ⟨w.heap.size+1+1,j,none⟩ v) (k+1) y:=by
 refine⟨he.setCell (by show w.heap.size≤w.heap.size+1+1;omega) _,(heap_setCell_other w3 _ _ _ (show w.heap.size≠w.heap.size+1+1 by omega)).trans (kH hb h.sig (by omega)),(heap_setCell_other w3 _ _ _ (show w.heap.size+1≠w.heap.size+1+1 by omega)).trans (kH hb h.res (by omega)),?_,hc.set (by omega) v,heq,fun _=>hm,hf⟩
 have:=heap_setCell_same w3 (w.heap.size+1+1) j _ _ v (kH hb h.box (by omega))
 rw[this]
 have e:(#[.int .i64 x.c.id,.int .i64 x.c.map,.slice x.ka x.c.key.length x.kc,.slice x.va x.c.val.length x.vc,.slice x.na x.c.n.length x.nc,.int .u64 x.c.ret]:Array Value).setIfInBounds j v=#[.int .i64 y.c.id,.int .i64 y.c.map,.slice y.ka y.c.key.length y.kc,.slice y.va y.c.val.length y.vc,.slice y.na y.c.n.length y.nc,.int .u64 y.c.ret]:=by
  apply Array.ext'
  rw[Array.toList_setIfInBounds]
  exact hy
 first|rw[e]|(simp only[yU];rw[e])
theorem qB {id t:Int}{c:Cl}{k:Nat}(h:σ.tells c k ((zU id).drop k)=σ.tells (Cl.new id) 0 (zU id))(ht:(zU id)[k]?=some t)(he:(σ.tell c k t).2≠0):σ.told id=(Cl.new 0,(σ.tell c k t).2):=by
 have hd:(zU id).drop k=t :: (zU id).drop (k+1):=qL ht
 rw[hd,RS.tells,if_pos he]at h
 rw[RS.told,← h,if_pos he]
theorem uA {id t:Int}{c:Cl}{k:Nat}(h:σ.tells c k ((zU id).drop k)=σ.tells (Cl.new id) 0 (zU id))(ht:(zU id)[k]?=some t)(he:(σ.tell c k t).2=0):σ.tells (σ.tell c k t).1 (k+1) ((zU id).drop (k+1))=σ.tells (Cl.new id) 0 (zU id):=by
 have hd:(zU id).drop k=t :: (zU id).drop (k+1):=qL ht
 rw[hd,RS.tells,if_neg (by simpa using he)]at h
 exact h
theorem told_end {id:Int}{c:Cl}{k:Nat}(h:σ.tells c k ((zU id).drop k)=σ.tells (Cl.new id) 0 (zU id))(hk:(zU id).length≤k):σ.told id=(c,0):=by
 rw[List.drop_eq_nil_of_le hk,RS.tells]at h
 rw[RS.told,← h,if_neg (by simp)]
set_option maxRecDepth 20000 in
set_option maxHeartbeats 4000000 in
theorem m_told (id tl mo:Int)(dw:Bool)(sv:Value)(h:MRel F0 Z0 wf base w mb σ)(ho:σ.Ok)(hs:Sl w .u8 sv (zU id)):
  Calls Tryz.prog 145 #[.pointer (some ⟨mb,0,none⟩),.int .i64 id,.agg #[sv,.int .u8 tl,.bool dw,.int .u64 mo]] w (ToldA (σ.told id).1 (σ.told id).2 w):=by
 obtain⟨sa,sn,sc,rfl,hsn,hSN⟩:=hs.val
 have HM:=η h
 have HS:=η hs
 have HO:=η ho
 have hlt:=h.lt
 have h4:sn≤4:=by rw[hSN.out];exact tV id
 clear h hs ho
 go_enter Tryz.func145,Tryz.ntmps145
 go_wp2_with fail
 go_loopw [9,10,11] (fun q _ _ wr=>∃ (k:Nat) (x:CB),k≤sn∧q=.int .i64 k∧Hid (TInv F0 Z0 wf base mb σ id tl mo dw (.slice sa sn sc) w wr k x)) (fun q _ _ _=>sn - (intOf q).toNat)
 case atStart=>exact⟨0,CB.new id,Nat.zero_le _,rfl,η ⟨by (repeat (first|exact xE0 _|assumption|refine xE1 ?_ _|refine xE2 ?_|refine xE3 ?_ _|refine xE4 ?_ (by assumption))),zB _ (zB _ (zD _ _ rfl)),zB _ (zD _ _ (by simp)),zD _ _ (by simp),CAt.new _ _ _,rfl,fun h=>absurd h (by decide),Nat.le_refl _⟩⟩
 case round =>
  obtain⟨k,x,hk,rfl,HI⟩:=hrel
  have hE:=HI.out.ext
  have hsz:=hE.size
  have HR:=η HI.out.res
  have HB:=η HI.out.box
  have s0:wr.cell? ⟨w.heap.size,0,none⟩=some (.slice sa sn sc):=cO HI.out.sig
  have HG:Hid (∃ l,MAt wr base mb σ l):=η (by obtain⟨h0,hl,l,g1,g2,g3⟩:=HM.out.go hE;exact⟨l,g1⟩)
  by_cases hlt2:(k:Int) < sn
  ·obtain⟨t,ht⟩:∃ t,(zU id)[k]?=some t:=⟨_,List.getElem?_eq_getElem (by have:=hSN.out;omega)⟩
   have ht4:=tolds_in (List.mem_of_getElem? ht)
   have HT:=η ht
   have ix:=fun W=>(HS.out.ext hE).run_at (P:=Tryz.prog) el_u8.under el_u8.size .i64 (k:Int) (by omega) (by have:=hSN.out;omega) W
   have cx:=(HS.out.ext hE).cell ht (j:=0) rfl
   simp only[Nat.mul_one,Nat.add_zero,Int.toNat_natCast]at ix cx
   obtain⟨h0,hl,l,g0,g2,g3⟩:=HM.out
   have g1:=g0.ext hE
   clear h0 hl g2 g3
   have hw:wrap64 ((k:Int)+1)=((k+1:Nat):Int):=by unfold wrap64;omega
   have c1:wr.cell? ⟨mb,1+(k+1),none⟩=some (.int .u64 (σ.R (k+1))):=g1.cell _ (qM σ l (by omega))
   have c2:wr.cell? ⟨mb,12+(k+1),none⟩=some (.bool (σ.S (k+1))):=g1.cell _ (jT σ l (by omega))
   have hd3:((k+1:Nat):Int) < 11:=by omega
   have hd2:(0:Int)≤((k+1:Nat):Int):=by omega
   cases hs:σ.S (k+1)
   ·rw[hs]at c2
    have HTE:=η (qB HI.out.eq HT.out (by rw[RS.tell,if_pos hs];simp))
    have HTL:Hid ((σ.tell x.c k t).2=110):=η (by rw[RS.tell,if_pos hs])
    have HSF:=η (uS HR.out hE (Nat.le_succ _) (.int .i64 0) (.int .i64 0) (.slice none 0 0) (.slice none 0 0) (.slice none 0 0) (.int .u64 0))
    clear g1 g0
    (obtain⟨r0,r1,r2,r3,r4,r5⟩:=κ6 (HR.out);have rf:=fun i=>zA (i:=i) (HR.out);skip)
    go_wp2_with fail
    (have hsf:=HSF.out;generalize hF:(World.setCell (World.setCell (World.setCell (World.setCell (World.setCell (World.setCell wr ⟨w.heap.size+1,0,none⟩ (.int .i64 0)) ⟨w.heap.size+1,1,none⟩ (.int .i64 0)) ⟨w.heap.size+1,2,none⟩ (.slice none 0 0)) ⟨w.heap.size+1,3,none⟩ (.slice none 0 0)) ⟨w.heap.size+1,4,none⟩ (.slice none 0 0)) ⟨w.heap.size+1,5,none⟩ (.int .u64 0))=wF at hsf ⊢;obtain⟨hs,he⟩:=hsf;clear hF;(try simp only[Exit.then]);(repeat (first|go_skip|go_step));obtain⟨r0,r1,r2,r3,r4,r5⟩:=κ6 hs;refine bodyPost_ret (by simp[results,Tryz.results145,go_sem,r0,r1,r2,r3,r4,r5];try rfl) rfl ?_)
    exact⟨CB.new 0,by rw[HTE.out,HTL.out];rfl,by rw[HTE.out];rfl,CAt.new _ _ _,he⟩
   ·rw[hs]at c2
    have HTS:=η hs
    rcases ht4 with rfl|rfl|rfl|rfl
    ·have HRr:=η (HO.out (k+1) (by omega))
     have HTB:=η (fun W (he:Ext wr W)=>m_table (HM.out.go (hE.trans' he)) (σ.R (k+1)) HRr.out)
     obtain⟨tb,htb⟩:∃ tb,tblN σ.D.length (σ.R (k+1))=tb:=⟨_,rfl⟩
     have hTe:σ.tell x.c k 1=({x.c with map:=tb},if tb < 0 then 113 else 0):=by rw[RS.tell,if_neg (by simp[hs]),if_pos rfl,htb]
     rw[htb]at HTB
     have HTE:=η hTe
     have hmp:¬ tb < 0→∃ d,pick σ.D tb=some d:=fun h=>by
      rw[← htb,tblN]at h ⊢
      split
      ·rename_i h1
       rw[pick,if_neg (by omega)]
       exact⟨_,List.getElem?_eq_getElem (by omega)⟩
      ·rename_i h1
       rw[if_neg h1]at h
       omega
     have HMP:=η hmp
     clear g1 g0 hs hTe htb hmp
     (obtain⟨b0,b1,b2,b3,b4,b5⟩:=κ6 (HB.out);have bf:=fun i=>zA (i:=i) (HB.out);skip)
     go_wp2_with fail
     refine(HTB.out _ (Ext.rfl' _)).mono ?_
     rintro e w3 ⟨rfl,hE3⟩
     have HE3:=η hE3
     have HB3:=η (hE3.obj HB.out)
     have hz3:=hE3.size
     clear b0 b1 b2 b3 b4 b5 bf
     (obtain⟨b0,b1,b2,b3,b4,b5⟩:=κ6 (HB3.out);have bf:=fun i=>zA (i:=i) (HB3.out);skip)
     by_cases htn:tb < 0
     ·have HER:=η (qB HI.out.eq HT.out (by rw[HTE.out];simp[htn]))
      rw[HTE.out,if_pos htn]at HER
      obtain⟨hX,hr⟩:=HI.out.other hE3 1 (.int .i64 tb)
      have HSF:=η (uS hr hX (Nat.le_succ _) (.int .i64 0) (.int .i64 0) (.slice none 0 0) (.slice none 0 0) (.slice none 0 0) (.int .u64 0))
      have HRR:=η hr
      clear hX hr
      (obtain⟨r0,r1,r2,r3,r4,r5⟩:=κ6 (HRR.out);have rf:=fun i=>zA (i:=i) (HRR.out);skip)
      go_wp2_with fail
      (have hsf:=HSF.out;generalize hF:(World.setCell (World.setCell (World.setCell (World.setCell (World.setCell (World.setCell (World.setCell w3 ⟨w.heap.size+1+1,1,none⟩ (.int .i64 tb)) ⟨w.heap.size+1,0,none⟩ (.int .i64 0)) ⟨w.heap.size+1,1,none⟩ (.int .i64 0)) ⟨w.heap.size+1,2,none⟩ (.slice none 0 0)) ⟨w.heap.size+1,3,none⟩ (.slice none 0 0)) ⟨w.heap.size+1,4,none⟩ (.slice none 0 0)) ⟨w.heap.size+1,5,none⟩ (.int .u64 0))=wF at hsf ⊢;obtain⟨hs,he⟩:=hsf;clear hF;(try simp only[Exit.then]);(repeat (first|go_skip|go_step));obtain⟨r0,r1,r2,r3,r4,r5⟩:=κ6 hs;refine bodyPost_ret (by simp[results,Tryz.results145,go_sem,r0,r1,r2,r3,r4,r5];try rfl) rfl ?_)
      exact⟨CB.new 0,by rw[HER.out];rfl,by rw[HER.out];rfl,CAt.new _ _ _,he⟩
     ·have HNX:=η (HI.out.next hE3 1 (.int .i64 tb) {x with c:={x.c with map:=tb}} rfl (have q:=HI.out.c.ext hE3;⟨q.key,q.val,q.n⟩) (by have:=uA HI.out.eq HT.out (by rw[HTE.out];simp[htn]);rw[HTE.out]at this;exact this) (fun _=>HMP.out (by omega)) (Nat.le_succ_of_le HI.out.few))
      go_wp2_with fail
      go_roundw
      case rel=>exact⟨k+1,_,by omega,by go_num,HNX⟩
      case measure=>simp[intOf];omega
    ·obtain⟨hk1,h01⟩:=qV ht (by simp)
     obtain⟨d,hd⟩:=HI.out.map hk1 h01
     have hmp:0≤x.c.map∧σ.D[x.c.map.toNat]?=some d:=by
      rw[pick]at hd
      split at hd
      ·cases hd
      ·exact⟨by omega,hd⟩
     obtain⟨m,hm⟩:∃ m:Nat,x.c.map=m:=⟨x.c.map.toNat,by omega⟩
     have hdm:σ.D[m]?=some d:=by have:=hmp.2;rwa[hm,Int.toNat_natCast]at this
     have HRr:=η (HO.out (k+1) (by omega))
     obtain⟨rb,lv,L,cm,HV,HRF,_⟩:=(HM.out.go hE).mem
     obtain⟨da,dn,dc,hdv,hdn,hDN⟩:=g1.defs.val
     have hfz:=fun j (hj:j∈fblk l.dv)=>(g0.frz j (by simp[mfrz,hj])).2
     rw[hdv]at hfz
     have cd:wr.cell? ⟨mb,25,none⟩=some (.slice da dn dc):=by have:=g1.cell 25 rfl;rw[hdv]at this;exact this
     have hdf:=g1.defs
     rw[hdv]at hdf
     have hml:m < dn:=by rw[hDN.out];exact(List.getElem?_eq_some_iff.1 hdm).1
     have ixd:=fun W=>hdf.run_at (P:=Tryz.prog) el_def.under el_def.size .i64 (m:Int) (by omega) (by omega) W
     simp only[Int.toNat_natCast]at ixd
     have hblk:(elt (.slice da dn dc) (m * 4)).block < w.heap.size:=by
      cases da with
      | none =>
       obtain⟨e1,e2,e3⟩:=hdf.of_isNil
       first|omega|(rw[e3]at hdm;simp at hdm)
      | some a =>
       have e1:(elt (.slice (some a) dn dc) (m * 4)).block=a.block:=by simp only[elt,Addr.add];split<;>rfl
       rw[e1]
       exact hfz a.block (by cases dn with
        | zero=>omega
        | succ q=>simp[fblk])
     clear hfz g0
     have HCK:Hid (∀ W,Ext wr W→W.cell? ⟨(elt (.slice da dn dc) (m * 4)).block,(elt (.slice da dn dc) (m * 4)).off+1,none⟩=some (.int .i64 d.key)):=η (fun W he=>by
      have E:=(hdf.ext he).elt_add hdm
      have F:∀ (p:Addr) (j:Nat),j≠0→(⟨p.block,p.off+j,none⟩:Addr)=p.add j:=fun p j h=>by simp[Addr.add,h]
      rw[F _ 1 (by decide),E]
      exact(hdf.ext he).cell hdm (j:=1) rfl)
     obtain⟨bs,er,hrd⟩:∃ bs er,yK σ.V.1 (σ.R (k+1)) d.key=(bs,er):=⟨_,_,rfl⟩
     have hTe:σ.tell x.c k 2=({x.c with key:=bs},er):=by rw[RS.tell,if_neg (by simp[hs])];simp[hd,hrd]
     have HTE:=η hTe
     have HRD:=η hrd
     have HMM:=η hm
     have HCM:=η (fun W (he:Ext wr W)=>he.cellOf cm)
     have HCD:=η (fun W (he:Ext wr W)=>he.cellOf cd)
     clear g1 hs hTe hd hdm hmp hdv hdf hrd h01
     (obtain⟨b0,b1,b2,b3,b4,b5⟩:=κ6 (HB.out);have bf:=fun i=>zA (i:=i) (HB.out);skip)
     rw[HMM.out]at b1
     have HB1:=η (fun W (he:Ext wr W)=>he.cellOf b1)
     have HRDC:=η (fun W (he:Ext wr W)=>(ref_read base rb lv L (σ.R (k+1)) d.key W (HRF.out W he) HRr.out.1 (η HRr.out.2)).mono (R':=fun e w'=>∃ v,e=.returned (.tuple #[v,.int .i64 er])∧Own w' W.heap.size 5 1 encB v bs∧Ext W w') (fun e w' h=>by obtain⟨v,h1,h2,h3⟩:=h;rw[HV.out,HRD.out]at h1 h2;exact⟨v,h1,h2,h3⟩))
     go_upto_region 15 with fail
     go_region_held3 (fun w'=>w'.cell? ⟨mb,23,none⟩=some (.pointer (some ⟨rb,0,none⟩))∧w'.cell? ⟨mb,25,none⟩=some (.slice da dn dc)∧w'.cell? ⟨w.heap.size+1+1,1,none⟩=some (.int .i64 (m:Int))∧w'.cell? ⟨(elt (.slice da dn dc) (m * 4)).block,(elt (.slice da dn dc) (m * 4)).off+1,none⟩=some (.int .i64 d.key))
      (first|exact s5|exact⟨HCM.out _ (by (repeat (first|exact xE0 _|assumption|refine xE1 ?_ _|refine xE2 ?_|refine xE3 ?_ _|refine xE4 ?_ (by assumption)))),HCD.out _ (by (repeat (first|exact xE0 _|assumption|refine xE1 ?_ _|refine xE2 ?_|refine xE3 ?_ _|refine xE4 ?_ (by assumption)))),HB1.out _ (by (repeat (first|exact xE0 _|assumption|refine xE1 ?_ _|refine xE2 ?_|refine xE3 ?_ _|refine xE4 ?_ (by assumption)))),HCK.out _ (by (repeat (first|exact xE0 _|assumption|refine xE1 ?_ _|refine xE2 ?_|refine xE3 ?_ _|refine xE4 ?_ (by assumption))))⟩)
      ((go_at_call 185;refine(HRDC.out _ (by (repeat (first|exact xE0 _|assumption|refine xE1 ?_ _|refine xE2 ?_|refine xE3 ?_ _|refine xE4 ?_ (by assumption))))).mono ?_;rintro e w5 ⟨v5,rfl,hO5,hE5⟩;obtain⟨a5,n5,c5,rfl,hn5,hN5⟩:=(hO5.rd (zG _)).val;have hE6:Ext wr w5:=(by (repeat (first|exact xE0 _|assumption|refine xE1 ?_ _|refine xE2 ?_|refine xE3 ?_ _|refine xE4 ?_ (by assumption))));have hb5:=hE6.obj HB.out;have y2:=cO (i:=2) hb5;have yf:=zA (i:=2) hb5;simp only[gA,gB,gC]at y2;have HO5:=η hO5;have HE6:=η hE6;have s5:=And.intro ((cell?_setCell_ne_block w5 ⟨w.heap.size+1+1,2,none⟩ ⟨mb,23,none⟩ (.slice a5 n5 c5) (by show mb≠w.heap.size+1+1;omega)).trans (HCM.out _ hE6)) (And.intro ((cell?_setCell_ne_block w5 ⟨w.heap.size+1+1,2,none⟩ ⟨mb,25,none⟩ (.slice a5 n5 c5) (by show mb≠w.heap.size+1+1;omega)).trans (HCD.out _ hE6)) (And.intro (show (w5.setCell ⟨w.heap.size+1+1,2,none⟩ (.slice a5 n5 c5)).cell? ⟨w.heap.size+1+1,1,none⟩=some (.int .i64 (m:Int)) from by (have q:=heap_setCell_same w5 (w.heap.size+1+1) 2 _ _ (.slice a5 n5 c5) hb5);(have q1:=cO (i:=1) q);(rw[← HMM.out]);(simpa using q1)) ((cell?_setCell_ne_block w5 ⟨w.heap.size+1+1,2,none⟩ ⟨(elt (.slice da dn dc) (m * 4)).block,(elt (.slice da dn dc) (m * 4)).off+1,none⟩ (.slice a5 n5 c5) (by show (elt (.slice da dn dc) (m * 4)).block≠w.heap.size+1+1;omega)).trans (HCK.out _ hE6))));clear hO5 hb5))
     all_goals
      obtain rfl:=hN5.out
      clear b0 b1 b2 b3 b4 b5 bf y2 yf s5
      by_cases her:(er != 0)=true
      ·have HER:=η (qB HI.out.eq HT.out (by rw[HTE.out];simpa using her))
       rw[HTE.out]at HER
       obtain⟨hX,hr⟩:=HI.out.other HE6.out 2 (.slice a5 bs.length c5)
       have HSF:=η (uS hr hX (Nat.le_succ _) (.int .i64 0) (.int .i64 0) (.slice none 0 0) (.slice none 0 0) (.slice none 0 0) (.int .u64 0))
       have HRR:=η hr
       clear hX hr
       (obtain⟨r0,r1,r2,r3,r4,r5⟩:=κ6 (HRR.out);have rf:=fun i=>zA (i:=i) (HRR.out);skip)
       go_wp2_with fail
       (have hsf:=HSF.out;generalize hF:(World.setCell (World.setCell (World.setCell (World.setCell (World.setCell (World.setCell (World.setCell w5 ⟨w.heap.size+1+1,2,none⟩ (.slice a5 bs.length c5)) ⟨w.heap.size+1,0,none⟩ (.int .i64 0)) ⟨w.heap.size+1,1,none⟩ (.int .i64 0)) ⟨w.heap.size+1,2,none⟩ (.slice none 0 0)) ⟨w.heap.size+1,3,none⟩ (.slice none 0 0)) ⟨w.heap.size+1,4,none⟩ (.slice none 0 0)) ⟨w.heap.size+1,5,none⟩ (.int .u64 0))=wF at hsf ⊢;obtain⟨hs,he⟩:=hsf;clear hF;(try simp only[Exit.then]);(repeat (first|go_skip|go_step));obtain⟨r0,r1,r2,r3,r4,r5⟩:=κ6 hs;refine bodyPost_ret (by simp[results,Tryz.results145,go_sem,r0,r1,r2,r3,r4,r5];try rfl) rfl ?_)
       exact⟨CB.new 0,by rw[HER.out];rfl,by rw[HER.out];rfl,CAt.new _ _ _,he⟩
      ·obtain rfl:er=0:=by simpa using her
       have HNX:=η (HI.out.next HE6.out 2 (.slice a5 bs.length c5) {x with c:={x.c with key:=bs},ka:=a5,kc:=c5} rfl (have q:=HI.out.c.ext HE6.out;⟨HO5.out.mono (by have:=zE HB.out;simp;omega),q.val,q.n⟩) (by have:=uA HI.out.eq HT.out (by rw[HTE.out]);rw[HTE.out]at this;exact this) (fun h0=>HI.out.map (by have:=(qV HT.out (by simp)).1;omega) h0) (Nat.le_succ_of_le HI.out.few))
       go_wp2_with fail
       go_roundw
       case rel=>exact⟨k+1,_,by omega,by go_num,HNX⟩
       case measure=>simp[intOf];omega
    ·obtain⟨hk1,h01⟩:=qV ht (by simp)
     obtain⟨d,hd⟩:=HI.out.map hk1 h01
     have hmp:0≤x.c.map∧σ.D[x.c.map.toNat]?=some d:=by
      rw[pick]at hd
      split at hd
      ·cases hd
      ·exact⟨by omega,hd⟩
     obtain⟨m,hm⟩:∃ m:Nat,x.c.map=m:=⟨x.c.map.toNat,by omega⟩
     have hdm:σ.D[m]?=some d:=by have:=hmp.2;rwa[hm,Int.toNat_natCast]at this
     have HRr:=η (HO.out (k+1) (by omega))
     obtain⟨rb,lv,L,cm,HV,HRF,_⟩:=(HM.out.go hE).mem
     obtain⟨da,dn,dc,hdv,hdn,hDN⟩:=g1.defs.val
     have hfz:=fun j (hj:j∈fblk l.dv)=>(g0.frz j (by simp[mfrz,hj])).2
     rw[hdv]at hfz
     have cd:wr.cell? ⟨mb,25,none⟩=some (.slice da dn dc):=by have:=g1.cell 25 rfl;rw[hdv]at this;exact this
     have hdf:=g1.defs
     rw[hdv]at hdf
     have hml:m < dn:=by rw[hDN.out];exact(List.getElem?_eq_some_iff.1 hdm).1
     have ixd:=fun W=>hdf.run_at (P:=Tryz.prog) el_def.under el_def.size .i64 (m:Int) (by omega) (by omega) W
     simp only[Int.toNat_natCast]at ixd
     have hblk:(elt (.slice da dn dc) (m * 4)).block < w.heap.size:=by
      cases da with
      | none =>
       obtain⟨e1,e2,e3⟩:=hdf.of_isNil
       first|omega|(rw[e3]at hdm;simp at hdm)
      | some a =>
       have e1:(elt (.slice (some a) dn dc) (m * 4)).block=a.block:=by simp only[elt,Addr.add];split<;>rfl
       rw[e1]
       exact hfz a.block (by cases dn with
        | zero=>omega
        | succ q=>simp[fblk])
     clear hfz g0
     have HCK:Hid (∀ W,Ext wr W→W.cell? ⟨(elt (.slice da dn dc) (m * 4)).block,(elt (.slice da dn dc) (m * 4)).off+2,none⟩=some (.int .i64 d.val)):=η (fun W he=>by
      have E:=(hdf.ext he).elt_add hdm
      have F:∀ (p:Addr) (j:Nat),j≠0→(⟨p.block,p.off+j,none⟩:Addr)=p.add j:=fun p j h=>by simp[Addr.add,h]
      rw[F _ 2 (by decide),E]
      exact(hdf.ext he).cell hdm (j:=2) rfl)
     obtain⟨bs,er,hrd⟩:∃ bs er,yK σ.V.1 (σ.R (k+1)) d.val=(bs,er):=⟨_,_,rfl⟩
     have hTe:σ.tell x.c k 3=({x.c with val:=bs},er):=by rw[RS.tell,if_neg (by simp[hs])];simp[hd,hrd]
     have HTE:=η hTe
     have HRD:=η hrd
     have HMM:=η hm
     have HCM:=η (fun W (he:Ext wr W)=>he.cellOf cm)
     have HCD:=η (fun W (he:Ext wr W)=>he.cellOf cd)
     clear g1 hs hTe hd hdm hmp hdv hdf hrd h01
     (obtain⟨b0,b1,b2,b3,b4,b5⟩:=κ6 (HB.out);have bf:=fun i=>zA (i:=i) (HB.out);skip)
     rw[HMM.out]at b1
     have HB1:=η (fun W (he:Ext wr W)=>he.cellOf b1)
     have HRDC:=η (fun W (he:Ext wr W)=>(ref_read base rb lv L (σ.R (k+1)) d.val W (HRF.out W he) HRr.out.1 (η HRr.out.2)).mono (R':=fun e w'=>∃ v,e=.returned (.tuple #[v,.int .i64 er])∧Own w' W.heap.size 5 1 encB v bs∧Ext W w') (fun e w' h=>by obtain⟨v,h1,h2,h3⟩:=h;rw[HV.out,HRD.out]at h1 h2;exact⟨v,h1,h2,h3⟩))
     go_upto_region 17 with fail
     go_region_held3 (fun w'=>w'.cell? ⟨mb,23,none⟩=some (.pointer (some ⟨rb,0,none⟩))∧w'.cell? ⟨mb,25,none⟩=some (.slice da dn dc)∧w'.cell? ⟨w.heap.size+1+1,1,none⟩=some (.int .i64 (m:Int))∧w'.cell? ⟨(elt (.slice da dn dc) (m * 4)).block,(elt (.slice da dn dc) (m * 4)).off+2,none⟩=some (.int .i64 d.val))
      (first|exact s5|exact⟨HCM.out _ (by (repeat (first|exact xE0 _|assumption|refine xE1 ?_ _|refine xE2 ?_|refine xE3 ?_ _|refine xE4 ?_ (by assumption)))),HCD.out _ (by (repeat (first|exact xE0 _|assumption|refine xE1 ?_ _|refine xE2 ?_|refine xE3 ?_ _|refine xE4 ?_ (by assumption)))),HB1.out _ (by (repeat (first|exact xE0 _|assumption|refine xE1 ?_ _|refine xE2 ?_|refine xE3 ?_ _|refine xE4 ?_ (by assumption)))),HCK.out _ (by (repeat (first|exact xE0 _|assumption|refine xE1 ?_ _|refine xE2 ?_|refine xE3 ?_ _|refine xE4 ?_ (by assumption))))⟩)
      ((go_at_call 185;refine(HRDC.out _ (by (repeat (first|exact xE0 _|assumption|refine xE1 ?_ _|refine xE2 ?_|refine xE3 ?_ _|refine xE4 ?_ (by assumption))))).mono ?_;rintro e w5 ⟨v5,rfl,hO5,hE5⟩;obtain⟨a5,n5,c5,rfl,hn5,hN5⟩:=(hO5.rd (zG _)).val;have hE6:Ext wr w5:=(by (repeat (first|exact xE0 _|assumption|refine xE1 ?_ _|refine xE2 ?_|refine xE3 ?_ _|refine xE4 ?_ (by assumption))));have hb5:=hE6.obj HB.out;have y2:=cO (i:=3) hb5;have yf:=zA (i:=3) hb5;simp only[gA,gB,gC]at y2;have HO5:=η hO5;have HE6:=η hE6;have s5:=And.intro ((cell?_setCell_ne_block w5 ⟨w.heap.size+1+1,3,none⟩ ⟨mb,23,none⟩ (.slice a5 n5 c5) (by show mb≠w.heap.size+1+1;omega)).trans (HCM.out _ hE6)) (And.intro ((cell?_setCell_ne_block w5 ⟨w.heap.size+1+1,3,none⟩ ⟨mb,25,none⟩ (.slice a5 n5 c5) (by show mb≠w.heap.size+1+1;omega)).trans (HCD.out _ hE6)) (And.intro (show (w5.setCell ⟨w.heap.size+1+1,3,none⟩ (.slice a5 n5 c5)).cell? ⟨w.heap.size+1+1,1,none⟩=some (.int .i64 (m:Int)) from by (have q:=heap_setCell_same w5 (w.heap.size+1+1) 3 _ _ (.slice a5 n5 c5) hb5);(have q1:=cO (i:=1) q);(rw[← HMM.out]);(simpa using q1)) ((cell?_setCell_ne_block w5 ⟨w.heap.size+1+1,3,none⟩ ⟨(elt (.slice da dn dc) (m * 4)).block,(elt (.slice da dn dc) (m * 4)).off+2,none⟩ (.slice a5 n5 c5) (by show (elt (.slice da dn dc) (m * 4)).block≠w.heap.size+1+1;omega)).trans (HCK.out _ hE6))));clear hO5 hb5))
     all_goals
      obtain rfl:=hN5.out
      clear b0 b1 b2 b3 b4 b5 bf y2 yf s5
      by_cases her:(er != 0)=true
      ·have HER:=η (qB HI.out.eq HT.out (by rw[HTE.out];simpa using her))
       rw[HTE.out]at HER
       obtain⟨hX,hr⟩:=HI.out.other HE6.out 3 (.slice a5 bs.length c5)
       have HSF:=η (uS hr hX (Nat.le_succ _) (.int .i64 0) (.int .i64 0) (.slice none 0 0) (.slice none 0 0) (.slice none 0 0) (.int .u64 0))
       have HRR:=η hr
       clear hX hr
       (obtain⟨r0,r1,r2,r3,r4,r5⟩:=κ6 (HRR.out);have rf:=fun i=>zA (i:=i) (HRR.out);skip)
       go_wp2_with fail
       (have hsf:=HSF.out;generalize hF:(World.setCell (World.setCell (World.setCell (World.setCell (World.setCell (World.setCell (World.setCell w5 ⟨w.heap.size+1+1,3,none⟩ (.slice a5 bs.length c5)) ⟨w.heap.size+1,0,none⟩ (.int .i64 0)) ⟨w.heap.size+1,1,none⟩ (.int .i64 0)) ⟨w.heap.size+1,2,none⟩ (.slice none 0 0)) ⟨w.heap.size+1,3,none⟩ (.slice none 0 0)) ⟨w.heap.size+1,4,none⟩ (.slice none 0 0)) ⟨w.heap.size+1,5,none⟩ (.int .u64 0))=wF at hsf ⊢;obtain⟨hs,he⟩:=hsf;clear hF;(try simp only[Exit.then]);(repeat (first|go_skip|go_step));obtain⟨r0,r1,r2,r3,r4,r5⟩:=κ6 hs;refine bodyPost_ret (by simp[results,Tryz.results145,go_sem,r0,r1,r2,r3,r4,r5];try rfl) rfl ?_)
       exact⟨CB.new 0,by rw[HER.out];rfl,by rw[HER.out];rfl,CAt.new _ _ _,he⟩
      ·obtain rfl:er=0:=by simpa using her
       have HNX:=η (HI.out.next HE6.out 3 (.slice a5 bs.length c5) {x with c:={x.c with val:=bs},va:=a5,vc:=c5} rfl (have q:=HI.out.c.ext HE6.out;⟨q.key,HO5.out.mono (by have:=zE HB.out;simp;omega),q.n⟩) (by have:=uA HI.out.eq HT.out (by rw[HTE.out]);rw[HTE.out]at this;exact this) (fun h0=>HI.out.map (by have:=(qV HT.out (by simp)).1;omega) h0) (Nat.le_succ_of_le HI.out.few))
       go_wp2_with fail
       go_roundw
       case rel=>exact⟨k+1,_,by omega,by go_num,HNX⟩
       case measure=>simp[intOf];omega
    ·have hTe:σ.tell x.c k 4=({x.c with n:=x.c.n++[σ.R (k+1)]},0):=by rw[RS.tell,if_neg (by simp[hs])];simp
     have HTE:=η hTe
     have hwr:w.heap.size+1+1+1≤wr.heap.size:=zE HB.out
     clear g1 g0 hs hTe
     (obtain⟨b0,b1,b2,b3,b4,b5⟩:=κ6 (HB.out);have bf:=fun i=>zA (i:=i) (HB.out);skip)
     go_wp2_with (at_builtin;refine xM el_u64 (zG .u64) rfl _ _ rfl rfl (HI.out.c.n.alloc _) rfl (ys:=[σ.R (k+1)]) ?q1 ?q2 ?q3 ?q4)
     case q1=>exact(Own.lit (zG .u64) (base:=0) (w:=wr) [σ.R (k+1)] rfl rfl (Nat.zero_le _) (by simp[maxLen])).rd (zG .u64)
     case q2=>exact⟨by have:=HI.out.few;first|omega|(simp;omega)|(simp only[List.length_cons,List.length_nil];omega),by have:=HI.out.few;first|omega|(simp;omega)|(simp only[List.length_cons,List.length_nil];omega)⟩
     case q3=>first|omega|(simp;omega)|(refine Nat.le_trans hwr ?_;simp)
     intro v5 w5 hown hgrow hbel
     have hA1:Ext wr (wr.alloc (.cells #[.int .u64 (σ.R (k+1))] 29)):=(Ext.rfl' wr).alloc' _
     have hb5:Below (w.heap.size+1+1+1) wr w5:=hbel _ _ ⟨hA1.os,hA1.tape,hA1.output,hA1.size,fun j hj=>hA1.block j (by omega)⟩ (Nat.le_refl _)
     have hE5:Ext w w5:=hbel _ _ (hE.trans' hA1) (by omega)
     obtain⟨a5,n5,c5,rfl,hn5,hN5⟩:=(hown.rd (zG .u64)).val
     have hN6:n5=x.c.n.length+1:=by simpa using hN5.out
     subst hN6
     have hgk:=yB hgrow
     have hkey:=(HI.out.c.key.ext hA1).keep hgk (fun j hj hj'=>HI.out.c.key.type_ne HI.out.c.n pP hj (by simpa[CB.nv]using hj'))
     have hval:=(HI.out.c.val.ext hA1).keep hgk (fun j hj hj'=>HI.out.c.val.type_ne HI.out.c.n pP hj (by simpa[CB.nv]using hj'))
     have HNX:=η (HI.out.push hb5 hE5 (y:={x with c:={x.c with n:=x.c.n++[σ.R (k+1)]},na:=a5,nc:=c5}) 4 (.slice a5 (x.c.n.length+1) c5) (by simp) ⟨hkey,hval,by simpa[CB.nv]using hown⟩ (by have:=uA HI.out.eq HT.out (by rw[HTE.out]);rw[HTE.out]at this;exact this) (fun h0=>HI.out.map (by rcases Nat.eq_zero_or_pos k with e|e<;>first|exact e|(subst e;rw[HT.out]at h0;cases h0)) h0) (by have:=HI.out.few;simp;omega))
     have HB5:=η (kH hb5 HB.out (by omega))
     clear b0 b1 b2 b3 b4 b5 bf hown hgrow hbel hA1 hb5 hgk hkey hval
     (obtain⟨b0,b1,b2,b3,b4,b5⟩:=κ6 (HB5.out);have bf:=fun i=>zA (i:=i) (HB5.out);skip)
     go_wp2_with fail
     go_roundw
     case rel=>exact⟨k+1,_,by omega,by go_num,HNX⟩
     case measure=>simp[intOf];omega
  ·clear HG
   have HTE:=η (told_end HI.out.eq (by have:=hSN.out;omega))
   have HCC:=HI.out.c.chain6 (b:=w.heap.size+1) (by omega) (.int .i64 x.c.id) (.int .i64 x.c.map) (.slice x.ka x.c.key.length x.kc) (.slice x.va x.c.val.length x.vc) (.slice x.na x.c.n.length x.nc) (.int .u64 x.c.ret)
   have HSF:=η (And.intro (uS HR.out hE (Nat.le_succ _) (.int .i64 x.c.id) (.int .i64 x.c.map) (.slice x.ka x.c.key.length x.kc) (.slice x.va x.c.val.length x.vc) (.slice x.na x.c.n.length x.nc) (.int .u64 x.c.ret)).1 (And.intro (uS HR.out hE (Nat.le_succ _) (.int .i64 x.c.id) (.int .i64 x.c.map) (.slice x.ka x.c.key.length x.kc) (.slice x.va x.c.val.length x.vc) (.slice x.na x.c.n.length x.nc) (.int .u64 x.c.ret)).2 (HCC.mono (b:=w.heap.size) (by omega))))
   clear HCC
   (obtain⟨r0,r1,r2,r3,r4,r5⟩:=κ6 (HR.out);have rf:=fun i=>zA (i:=i) (HR.out);skip)
   (obtain⟨b0,b1,b2,b3,b4,b5⟩:=κ6 (HB.out);have bf:=fun i=>zA (i:=i) (HB.out);skip)
   go_wp2_with fail
   (have hsf:=HSF.out;generalize hF:(World.setCell (World.setCell (World.setCell (World.setCell (World.setCell (World.setCell wr ⟨w.heap.size+1,0,none⟩ (.int .i64 x.c.id)) ⟨w.heap.size+1,1,none⟩ (.int .i64 x.c.map)) ⟨w.heap.size+1,2,none⟩ (.slice x.ka x.c.key.length x.kc)) ⟨w.heap.size+1,3,none⟩ (.slice x.va x.c.val.length x.vc)) ⟨w.heap.size+1,4,none⟩ (.slice x.na x.c.n.length x.nc)) ⟨w.heap.size+1,5,none⟩ (.int .u64 x.c.ret))=wF at hsf ⊢;obtain⟨hs,he⟩:=hsf;clear hF;(try simp only[Exit.then]);(repeat (first|go_skip|go_step));obtain⟨r0,r1,r2,r3,r4,r5⟩:=κ6 hs;refine bodyPost_ret (by simp[results,Tryz.results145,go_sem,r0,r1,r2,r3,r4,r5];try rfl) rfl ?_)
   exact⟨x,by rw[HTE.out];rfl,by rw[HTE.out],he.2,he.1⟩
end
end Go.Proofs.YtppefchjoodgnaaGreat
