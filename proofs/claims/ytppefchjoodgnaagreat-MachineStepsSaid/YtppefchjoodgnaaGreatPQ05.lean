import Derived.Test.YtppefchjoodgnaaGreatPQ03
import Derived.Test.YtppefchjoodgnaaGreatPQ04
set_option linter.unusedSimpArgs false
set_option linter.unusedVariables false
namespace Go.Proofs.YtppefchjoodgnaaGreat
open Go.RowKit
structure RM  where
 la:Option Addr
 lc:Nat
 T:TM
def RM.lv (x:RM):Value:=.slice x.la x.T.slots.length x.lc
def RM.enc (x:RM):List Value:=[.bool x.T.hash,.int .i64 x.T.key,.int .i64 x.T.val,.int .i64 x.T.max,x.lv,.int .i64 (x.T.made:Nat)]
theorem vB:Enc 6 RM.enc:=⟨fun _=>rfl,fun x u hu=>by
 simp only[RM.enc,List.mem_cons,List.not_mem_nil,or_false]at hu
 rcases hu with rfl|rfl|rfl|rfl|rfl|rfl<;>rfl⟩
abbrev qH:ByteArray×Nat→List Value:=fun p=>[.string p.1,.int .i64 (p.2:Nat)]
theorem xQ:Enc 2 qH:=⟨fun _=>rfl,fun x u hu=>by
 simp only[qH,List.mem_cons,List.not_mem_nil,or_false]at hu
 rcases hu with rfl|rfl<;>rfl⟩
theorem el_rm:El Tryz.prog 121 126 6 64 (.agg #[.bool false,.int .i64 0,.int .i64 0,.int .i64 0,.slice none 0 0,.int .i64 0]):=⟨Tryz.underlying121,by kernel_rfl,rfl,by decide,fun _=>by kernel_rfl⟩
theorem el_rk:El Tryz.prog 124 129 2 24 (.agg #[.string ⟨#[]⟩,.int .i64 0]):=⟨Tryz.underlying124,by kernel_rfl,rfl,by decide,fun _=>by kernel_rfl⟩
structure RTabs  where
 rb:Nat
 lv:Value
 L:List RR
 mv:Value
 R:List RM
def zH (tb:Nat)(S:RTabs):List Nat:=tb :: (S.mv.ownBlock.toList++(S.R.flatMap (fun x=>x.lv.ownBlock.toList)++yA S.rb S.lv S.L))
structure RTabAt (w:World)(base tb:Nat)(S:RTabs):Prop where
 head:w.heap[tb]?=some (.cells #[.pointer (some ⟨S.rb,0,none⟩),S.mv] 123 (0,0))
 low:base≤tb
 maps:Own w base 126 6 RM.enc S.mv S.R
 keys:∀ x∈S.R,Own w base 129 2 qH x.lv x.T.slots
 mem:RefAt w base S.rb S.lv S.L
 apart:(zH tb S).Nodup
 few:S.R.length≤8
 made:∀ x∈S.R,x.T.made≤1024∧∀ p∈x.T.slots,p.2≤1024
theorem RTabAt.keep {F:List Nat}{w w':World}{base tb:Nat}{S:RTabs}(h:RTabAt w base tb S)(k:Keep F w w')(hF:∀ j∈zH tb S,j ∉ F):RTabAt w' base tb S:=by
 refine⟨k.obj h.head (hF _ (by simp[zH])),h.low,h.maps.keep k (fun j hj=>hF j (by simp[zH,hj])),fun x hx=>(h.keys x hx).keep k (fun j hj=>hF j ?_),
  h.mem.keep k (fun j hj=>hF j ?_),h.apart,h.few,h.made⟩
 ·simp only[zH,List.mem_cons,List.mem_append,List.mem_flatMap,Option.mem_toList]
  exact .inr (.inr (.inl ⟨x,hx,hj⟩))
 ·simp only[zH,List.mem_cons,List.mem_append]
  exact .inr (.inr (.inr hj))
theorem RTabAt.ext {w w':World}{base tb:Nat}{S:RTabs}(h:RTabAt w base tb S)(k:Ext w w'):RTabAt w' base tb S :=
 h.keep (F:=[]) (Keep.of_ext k) (fun _ _=>by simp)
theorem RTabAt.lt {w:World}{base tb:Nat}{S:RTabs}(h:RTabAt w base tb S):∀ j∈zH tb S,base≤j∧j < w.heap.size:=by
 intro j hj
 simp only[zH,List.mem_cons,List.mem_append,List.mem_flatMap,Option.mem_toList]at hj
 rcases hj with rfl|hj|⟨x,hx,hj⟩|hj
 ·exact⟨h.low,zE h.head⟩
 ·exact h.maps.lt hj
 ·exact(h.keys x hx).lt hj
 ·exact h.mem.lt j hj
theorem uX {T:List TM}{i:Int}{n:Nat}(h:∀ (j:Nat) t,i=j→T[j]?=some t→(n:Int)≠t.key):xE T i n=none:=by
 unfold xE pick
 split
 ·rfl
 ·cases hp:T[i.toNat]? with
  | none=>rfl
  | some t=>simp only[Option.bind_some];rw[if_neg (h i.toNat t (by omega) hp)]
theorem pW {T:List TM}{i:Nat}{n:Nat}{t:TM}(hp:T[i]?=some t)(hk:(n:Int)=t.key):xE T i n=some t:=by
 unfold xE pick
 rw[if_neg (by omega),Int.toNat_natCast,hp]
 simp only[Option.bind_some]
 rw[if_pos hk]
theorem qQ (T:List TM)(i:Int)(n:Nat):xE T i n=none∨∃ (j:Nat) (t:TM),i=j∧T[j]?=some t∧(n:Int)=t.key:=by
 by_cases h:i < 0
 ·exact .inl (uX fun j t e=>by omega)
 ·obtain⟨j,rfl⟩:∃ j:Nat,i=j:=⟨i.toNat,by omega⟩
  cases hp:T[j]? with
  | none=>exact .inl (uX fun q t e hq=>by obtain rfl:q=j:=by omega
                                          rw[hp]at hq;cases hq)
  | some t =>
   by_cases hk:(n:Int)=t.key
   ·exact .inr ⟨j,t,rfl,hp,hk⟩
   ·exact .inl (uX fun q t' e hq=>by obtain rfl:q=j:=by omega
                                     rw[hp]at hq;injection hq with e;subst e;exact hk)
def yC (S:RTabs):Areas×List TM:=(zV S.L,S.R.map (·.T))
theorem rm_cells {w:World}{v:Value}{L:List RM}(R:Rd w 6 RM.enc v L){i:Nat}{x:RM}(hx:L[i]?=some x):
  w.cell? (elt v (i * 6))=some (.bool x.T.hash)∧w.cell? ⟨(elt v (i * 6)).block,(elt v (i * 6)).off+1,none⟩=some (.int .i64 x.T.key)∧w.cell? ⟨(elt v (i * 6)).block,(elt v (i * 6)).off+2,none⟩=some (.int .i64 x.T.val)∧w.cell? ⟨(elt v (i * 6)).block,(elt v (i * 6)).off+3,none⟩=some (.int .i64 x.T.max) ∧
  w.cell? ⟨(elt v (i * 6)).block,(elt v (i * 6)).off+4,none⟩=some x.lv∧w.cell? ⟨(elt v (i * 6)).block,(elt v (i * 6)).off+5,none⟩=some (.int .i64 (x.T.made:Nat)):=by
 have E:=R.elt_add hx
 have F:∀ (p:Addr) (j:Nat),j≠0→(⟨p.block,p.off+j,none⟩:Addr)=p.add j:=fun p j h=>by simp[Addr.add,h]
 rw[F _ 1 (by decide),F _ 2 (by decide),F _ 3 (by decide),F _ 4 (by decide),F _ 5 (by decide),E,E,E,E,E]
 exact⟨R.cell hx (j:=0) rfl,R.cell hx (j:=1) rfl,R.cell hx (j:=2) rfl,R.cell hx (j:=3) rfl,R.cell hx (j:=4) rfl,R.cell hx (j:=5) rfl⟩
theorem ks_cells {w:World}{v:Value}{L:List (ByteArray×Nat)}(R:Rd w 2 qH v L){i:Nat}{x:ByteArray×Nat}(hx:L[i]?=some x):
  w.cell? (elt v (i * 2))=some (.string x.1)∧w.cell? ⟨(elt v (i * 2)).block,(elt v (i * 2)).off+1,none⟩=some (.int .i64 (x.2:Nat)):=by
 have E:=R.elt_add hx
 have F:∀ (p:Addr) (j:Nat),j≠0→(⟨p.block,p.off+j,none⟩:Addr)=p.add j:=fun p j h=>by simp[Addr.add,h]
 rw[F _ 1 (by decide),E]
 exact⟨R.cell hx (j:=0) rfl,R.cell hx (j:=1) rfl⟩
theorem pT (i s:Int)(w:World)(h0:0≤i)(h1:i≤16)(h2:0≤s)(h3:s≤2048):Calls Tryz.prog 63 #[.int .i64 i,.int .i64 s] w fun e w'=>e=.returned (.int .i64 (zS i s))∧w'=w:=by
 go_enter Tryz.func63,Tryz.ntmps63
 go_wp2
 go_returns
 exact⟨rfl,rfl⟩
theorem kA (n:Int)(w:World)(h0:0 < n)(h1:n≤18446744073709551615):Calls Tryz.prog 66 #[.int .u64 n] w fun e w'=>e=.returned (.int .u64 (18446744073709551616 - n))∧w'=w:=by
 go_enter Tryz.func66,Tryz.ntmps66
 go_wp2
 go_returns
 exact⟨xX (by simp only[IntKind.wrap_u64];omega),rfl⟩
set_option maxHeartbeats 1000000 in
theorem uP (base tb:Nat)(S:RTabs)(i:Int)(kv:Value)(ks:List Int)(w:World)(h:RTabAt w base tb S)(hk:Sl w .u8 kv ks):
  Calls Tryz.prog 64 #[.pointer (some ⟨tb,0,none⟩),.int .i64 i,kv] w fun e w'=>e=.returned (.bool (xE (S.R.map (·.T)) i ks.length).isSome)∧w'=w:=by
 obtain⟨ka,kn,kc,rfl,hkn,hKN⟩:=hk.val
 have hb1:=cO (i:=1) h.head
 simp only[gA,gB,gC]at hb1
 have RMM:=η (h.maps.rd vB)
 obtain⟨ma,mn,mc,hmv,hmn,hMN⟩:=RMM.out.val
 rw[hmv]at hb1 RMM
 have hkk:=hKN.out
 clear hk h hmv
 by_cases h0:i < 0
 ·have ht:(xE (S.R.map (·.T)) i ks.length).isSome=false:=by rw[uX (fun j t e=>by omega)];rfl
  rw[ht]
  clear ht hkk
  go_enter Tryz.func64,Tryz.ntmps64
  go_wp2
  go_returns
  exact⟨rfl,rfl⟩
 ·by_cases h1:(mn:Int)≤i
  ·have ht:(xE (S.R.map (·.T)) i ks.length).isSome=false:=by
    rw[uX (fun j t e hj=>by
     have:=(List.getElem?_eq_some_iff.1 hj).1
     have:=hMN.out
     simp at *
     omega)];rfl
   rw[ht]
   clear ht hkk
   go_enter Tryz.func64,Tryz.ntmps64
   go_wp2
   go_returns
   exact⟨rfl,rfl⟩
  ·obtain⟨x,hx⟩:=zK (xs:=S.R) (k:=i.toNat) (by have:=hMN.out;omega)
   have ix:=fun W=>RMM.out.run_at (P:=Tryz.prog) el_rm.under el_rm.size .i64 i (by omega) (by omega) W
   obtain⟨c0,c1,c2,c3,c4,c5⟩:=rm_cells RMM.out hx
   have ht:(xE (S.R.map (·.T)) i ks.length).isSome=((kn:Int) == x.T.key):=by
    have hp:pick (S.R.map (·.T)) i=some x.T:=by rw[pick,if_neg h0,List.getElem?_map,hx];rfl
    unfold xE
    rw[hp,← hkk]
    simp only[Option.bind_some]
    by_cases e:(kn:Int)=x.T.key
    ·rw[if_pos e];simp[e]
    ·rw[if_neg e];simp[e]
   rw[ht]
   have hi0:0≤i:=by omega
   have hi1:i < (mn:Int):=by omega
   clear ht hkk hx c0 c2 c3 c4 c5
   go_enter Tryz.func64,Tryz.ntmps64
   go_wp2
   go_returns
   exact⟨rfl,rfl⟩
theorem pK (tb:Nat)(S:Tabs):∀ j∈foot S.b S.r S.L,j∈zM tb S:=fun j hj=>by simp only[zM,List.mem_cons,List.mem_append];exact .inr (.inr (.inr hj))
theorem TabAt.memStep {w w':World}{base tb:Nat}{S:Tabs}(h:TabAt w base tb S)(k:Keep (foot S.b S.r S.L) w w'){L':List Rec}(hm:MemAt w' S.b S.r L')(hf:∀ j∈foot S.b S.r L',j∈foot S.b S.r S.L∨w.heap.size≤j):
  TabAt w' base tb {S with L:=L'}∧(∀ j∈zM tb {S with L:=L'},j∈zM tb S∨w.heap.size≤j):=by
 have n0:=List.nodup_cons.1 h.apart
 have n1:=List.nodup_append.1 n0.2
 have n2:=List.nodup_append.1 n1.2.1
 have ht:tb ∉ foot S.b S.r S.L:=fun hj=>n0.1 (List.mem_append_right _ (List.mem_append_right _ hj))
 have hmv:∀ j,S.mv.ownBlock=some j→j ∉ foot S.b S.r S.L:=fun j hj hj'=>n1.2.2 j (by simpa using hj) j (List.mem_append_right _ hj') rfl
 have hrec:∀ x∈S.R,∀ j∈TRec.blocks x,j ∉ foot S.b S.r S.L:=fun x hx j hj hj'=>n2.2.2 j (List.mem_flatMap.2 ⟨x,hx,hj⟩) j hj' rfl
 have hlt:=h.lt
 refine⟨⟨k.obj h.head ht,h.low,h.maps.keep k hmv,fun x hx=>k.obj (h.ones x hx) (hrec x hx _ (by simp[TRec.blocks])),fun x hx=>(h.slots x hx).keep k (hrec x hx _ (by simp[TRec.blocks])),hm,?_,h.few,h.made⟩,?_⟩
 ·have hnew:∀ j∈foot S.b S.r L',j∈zM tb S→j∈foot S.b S.r S.L:=fun j hj hj'=>(hf j hj).elim id (fun hh=>by have:=hlt j hj';omega)
  simp only[zM]
  rw[List.nodup_cons,List.nodup_append]
  refine⟨?_,n1.1,?_,?_⟩
  ·intro hj
   rcases List.mem_append.1 hj with hj|hj
   ·exact n0.1 (List.mem_append_left _ hj)
   ·rcases List.mem_append.1 hj with hj|hj
    ·exact n0.1 (List.mem_append_right _ (List.mem_append_left _ hj))
    ·exact ht (hnew tb hj (by simp[zM]))
  ·rw[List.nodup_append]
   refine⟨n2.1,hm.apart,?_⟩
   intro a ha b hb e
   subst e
   obtain⟨x,hx,hxa⟩:=List.mem_flatMap.1 ha
   exact hrec x hx a hxa (hnew a hb (by simp only[zM,List.mem_cons,List.mem_append];exact .inr (.inr (.inl ha))))
  ·intro a ha b hb e
   subst e
   rcases List.mem_append.1 hb with hb|hb
   ·exact n1.2.2 a ha a (List.mem_append_left _ hb) rfl
   ·exact hmv a (by simpa using ha) (hnew a hb (by simp only[zM,List.mem_cons,List.mem_append];exact .inr (.inl ha)))
 ·intro j hj
  simp only[zM,List.mem_cons,List.mem_append]at hj ⊢
  rcases hj with hj|hj|hj|hj
  ·exact .inl (.inl hj)
  ·exact .inl (.inr (.inl hj))
  ·exact .inl (.inr (.inr (.inl hj)))
  ·rcases hf j hj with h1|h1
   ·exact .inl (.inr (.inr (.inr h1)))
   ·exact .inr h1
def yF (t:TM)(s:ByteArray):TM:={t with slots:=t.slots++[(s,t.made)],made:=t.made+1}
def kV (V:Areas×List TM)(i:Int)(s:ByteArray)(vs:List Int):Option (Areas×List TM) :=
 match pick V.2 i with
 | none=>none
 | some t=>if 1024≤t.made then none else if (yG V.1 (zS i t.made) vs false false).2=0 then some ((yG V.1 (zS i t.made) vs false false).1,V.2.set i.toNat (yF t s)) else none
theorem mmake_err {M:Areas}{n:Int}{b:List Int}{x y:Bool}(h:(yG M n b x y).2≠0):(yG M n b x y).1=M:=by
 revert h
 unfold yG
 split
 ·simp
 ·split<;>simp
theorem add_strs (T:TM)(s:ByteArray)(h:T.slots.lookup s=none):tP T.strs s (.int .i64 T.made)=(yF T s).strs:=by
 unfold tP
 rw[uK,h]
 simp[TM.strs,yF]
def SlotT (base tb:Nat)(S:Tabs)(i:Int)(s:ByteArray)(vs:List Int)(w:World)(e:Ending)(w':World):Prop :=
 e=.returned (.bool (kV (zN S) i s vs).isSome)∧Keep (zM tb S) w w'∧∃ S',TabAt w' base tb S'∧zN S'=(kV (zN S) i s vs).getD (zN S)∧(∀ j∈zM tb S',j∈zM tb S∨w.heap.size≤j)∧S'.b=S.b∧S'.r=S.r∧S'.R.map (·.a)=S.R.map (·.a)
set_option maxRecDepth 20000 in
set_option maxHeartbeats 1000000 in
theorem tab_slot (base tb:Nat)(S:Tabs)(i:Int)(s:ByteArray)(vv:Value)(vs:List Int)(x:TRec)(w:World)(h:TabAt w base tb S)(hv:Sl w .u8 vv vs)(hu:∀ q∈vs,0≤q∧q≤255)(hp:pick S.R i=some x)(hl:x.T.slots.lookup s=none):
  Calls Tryz.prog 85 #[.pointer (some ⟨tb,0,none⟩),.int .i64 i,.string s,vv] w (SlotT base tb S i s vs w):=by
 obtain⟨va,vn,vc,rfl,hvn,hVN⟩:=hv.val
 have HV:=η hv
 have HU:=η hu
 have HT:=η h
 have HL:=η hl
 have hi:0≤i∧S.R[i.toNat]?=some x:=by
  unfold pick at hp
  split at hp
  ·cases hp
  ·exact⟨by omega,hp⟩
 obtain⟨hi0,hx⟩:=hi
 have hm:=List.mem_of_getElem? hx
 have hilt:=(List.getElem?_eq_some_iff.1 hx).1
 have hfew:=h.few
 have hp':pick (zN S).2 i=some x.T:=by simp only[zN];rw[pick_map,hp];rfl
 have HP:=η hp'
 have HX:=η hx
 have HM:=η hm
 obtain⟨hb0,hb1⟩:=κ2 h.head
 have RM:=η (h.maps.rd enc_t)
 obtain⟨ma,mn,mc,hmv,hmn,hMN⟩:=RM.out.val
 rw[hmv]at hb1 RM
 have cm:=RM.out.cell hx (j:=0) rfl
 have im:=fun W=>RM.out.run_at (P:=Tryz.prog) el_one.under el_one.size .i64 i (by omega) (by have:=hMN.out;omega) W
 simp only[Nat.mul_one,Nat.add_zero]at cm im
 have k5:=cO (i:=5) (h.ones x hm)
 simp only[TRec.cells,gA,gB,gC]at k5
 have hmade:=(h.made x hm).1
 clear h hv hu hl hp hp' hx hm hmv
 by_cases hbig:(1024:Int)≤x.T.made
 ·have hb:1024≤x.T.made:=by omega
  have HB:=η hb
  have hd:decide ((1024:Int)≤x.T.made)=true:=by simpa using hbig
  clear hb
  go_enter Tryz.func85,Tryz.ntmps85
  go_wp2_with fail
  go_quiet (fail)
  go_wp2_with fail
  go_returns
  have e:kV (zN S) i s vs=none:=by simp only[kV,HP.out,HB.out,if_true]
  exact⟨by rw[e];rfl,Keep.of_ext (by (repeat (first|exact xE0 _|assumption|refine xE1 ?_ _|refine xE2 ?_|refine xE3 ?_ _|refine xE4 ?_ (by assumption)))),S,HT.out.ext (by (repeat (first|exact xE0 _|assumption|refine xE1 ?_ _|refine xE2 ?_|refine xE3 ?_ _|refine xE4 ?_ (by assumption)))),by rw[e];rfl,fun j hj=>.inl hj,rfl,rfl,rfl⟩
 ·have hb:¬ 1024≤x.T.made:=by omega
  have HB:=η hb
  have hd:decide ((1024:Int)≤x.T.made)=false:=by simpa using hbig
  clear hb
  go_enter Tryz.func85,Tryz.ntmps85
  go_wp2_with fail
  have HS:Hid (∀ w5:World,Keep (foot S.b S.r S.L) w w5→w5.cell? ⟨tb,0,none⟩=some (.pointer (some ⟨S.b,0,none⟩))∧w5.cell? ⟨x.a,5,none⟩=some (.int .i64 x.T.made)):=η fun w5 k=>by
   have n0:=List.nodup_cons.1 HT.out.apart
   have n2:=List.nodup_append.1 (List.nodup_append.1 n0.2).2.1
   exact⟨cO (k.obj HT.out.head (fun hj=>n0.1 (List.mem_append_right _ (List.mem_append_right _ hj)))),cO (k.obj (HT.out.ones x HM.out) (fun hj=>n2.2.2 x.a (List.mem_flatMap.2 ⟨x,HM.out,by simp[TRec.blocks]⟩) x.a hj rfl))⟩
  go_region_held3 (fun w'=>w'.cell? ⟨tb,0,none⟩=some (.pointer (some ⟨S.b,0,none⟩))∧w'.cell? ⟨x.a,5,none⟩=some (.int .i64 x.T.made))
   (first|go_keep|exact s5)
   ((first
    | (go_at_call 90;refine(tab_area i x.T.made _ hi0 (by omega) (by omega) (by omega)).mono ?_;rintro e w2 ⟨rfl,rfl⟩)
    | (go_at_call 52;refine(mem_make S.b S.r S.L (zS i x.T.made) _ vs false false _ (HT.out.mem.ext (by (repeat (first|exact xE0 _|assumption|refine xE1 ?_ _|refine xE2 ?_|refine xE3 ?_ _|refine xE4 ?_ (by assumption))))) (HV.out.ext (by (repeat (first|exact xE0 _|assumption|refine xE1 ?_ _|refine xE2 ?_|refine xE3 ?_ _|refine xE4 ?_ (by assumption))))) HU.out).mono ?_;rintro e w5 ⟨rfl,hk5,L5,hm5,hv5,hf5⟩;have hk5':Keep (foot S.b S.r S.L) w w5:=⟨hk5.os,hk5.tape,hk5.output,hk5.size,hk5.block⟩;have s5:=HS.out w5 hk5';have HM5:=η hm5;have HV5:=η hv5;have HF5:=η hf5;have HK5:=η hk5';clear hk5 hk5' hm5 hv5 hf5)))
  all_goals
   have hst:=HT.out.memStep HK5.out HM5.out (fun j hj=>(HF5.out j hj).imp id (fun h=>h))
   have HT5:=η hst.1
   have HF6:=η hst.2
   clear hst s5
   by_cases herr:(yG (view S.L) (zS i x.T.made) vs false false).2=0
   case neg =>
    have d2:((yG (view S.L) (zS i x.T.made) vs false false).2 != 0)=true:=by simpa using herr
    have HE:=η herr
    clear herr
    go_wp2_with fail
    go_returns
    have e:kV (zN S) i s vs=none:=by
     simp only[kV,HP.out,HB.out,if_false]
     rw[if_neg]
     exact HE.out
    exact⟨by rw[e];rfl,HK5.out.mono (fun j hj=>.inl (pK tb S j hj)),_,HT5.out,by rw[e];simp only[zN,HV5.out,mmake_err HE.out,Option.getD_none],HF6.out,rfl,rfl,rfl⟩
   case pos =>
    have d2:((yG (view S.L) (zS i x.T.made) vs false false).2 != 0)=false:=by simp[herr]
    have HE:=η herr
    have o5:=HT5.out.ones x HM.out
    have j4:=cO (i:=4) o5
    have j5:=cO (i:=5) o5
    simp only[TRec.cells,gA,gB,gC]at j4 j5
    obtain⟨w6,hrun,hs6,hk6⟩:=run_update_str (P:=Tryz.prog) Tryz.underlying156 Tryz.underlying9 ((HT5.out.slots x HM.out).ext (Ext.drew' (Ext.rfl' w5))) s (.int .i64 x.T.made)
    have hne:=HT5.out.rec_ne HM.out
    have hk6':Keep [x.r] w5 w6:=⟨hk6.os,hk6.tape,hk6.output,hk6.size,hk6.block⟩
    have o6:=hk6'.obj o5 (by simpa using hne.1)
    have c5:=cO (i:=5) o6
    have z5:=zA (i:=5) o6
    simp only[TRec.cells,gA,gB,gC]at c5
    rw[add_strs _ _ HL.out]at hs6
    have hst:=heap_setCell_same w6 x.a 5 _ _ (.int .i64 ((x.T.made:Int)+1)) o6
    have HS6:=η hs6
    have HK6:=η hk6'
    have HST:=η hst
    have HNE:=η hne
    clear herr o5 hs6 hk6 hk6' o6 hst hne
    go_wp2_with fail
    go_region
    go_wp2_with fail
    go_returns
    have e:kV (zN S) i s vs=some ((yG (view S.L) (zS i x.T.made) vs false false).1,(zN S).2.set i.toNat (yF x.T s)):=by
     simp only[kV,HP.out,HB.out,if_false]
     rw[if_pos]
     ·rfl
     ·exact HE.out
    have hne:=HNE.out.1
    have hk7:Keep (TRec.blocks x) w5 (w6.setCell ⟨x.a,5,none⟩ (.int .i64 ((x.T.made:Int)+1))):=(HK6.out.mono (fun j hj=>.inl (by simp at hj;simp[TRec.blocks,hj]))).setCell (by simp[TRec.blocks]) _
    have hmd:=HT5.out.made x HM.out
    have hput:=HT5.out.put HX.out (yF x.T s) ⟨by have:=HB.out;simp only[yF];omega,fun p hp=>by
     simp only[yF,List.mem_append,List.mem_singleton]at hp
     rcases hp with hp|rfl
     ·exact hmd.2 p hp
     ·exact hmd.1⟩ hk7 (fun j hj=>hj) (by have:=HST.out;simpa[TRec.cells,yF]using this) (HS6.out.keep ((Keep.rfl' [x.a] w6).setCell (by simp) _) (by simpa using fun e=>hne e.symm))
    have hkk:Keep (zM tb S) w w5:=HK5.out.mono (fun j hj=>.inl (pK tb S j hj))
    refine⟨by rw[e];rfl,hkk.trans (hk7.mono fun j hj=>.inl ?_),_,hput.1,?_,fun j hj=>HF6.out j (by rw[← hput.2];exact hj),rfl,rfl,?_⟩
    ·simp only[zM,List.mem_cons,List.mem_append,List.mem_flatMap]
     exact .inr (.inr (.inl ⟨x,HM.out,hj⟩))
    ·rw[e]
     simp only[zN,HV5.out,Option.getD_some,List.map_set]
    ·apply List.ext_getElem?
     intro q
     rw[List.getElem?_map,List.getElem?_map,List.getElem?_set]
     by_cases hq:i.toNat=q
     ·subst hq;rw[HX.out];simp[hilt]
     ·simp[hq]
def pH (M:Areas)(a:Int)(vs:List Int):Nat→Areas
 | 0=>M
 | k+1=>(yP (pH M a vs k) (mat a k) 1 (vs.getD k 0)).1
def tput (V:Areas×List TM)(i:Int)(ks vs:List Int)(flags:Int):(Areas×List TM)×Int×Int :=
 match xE V.2 i ks.length with
 | none=>(V,0,1)
 | some t =>
  if (vs.length:Int)≠t.val then (V,0,1)
  else if 2 < flags then (V,18446744073709551594,0)
  else match t.slots.lookup (strOfNums ks) with
   | some n=>if flags=1 then (V,18446744073709551599,0) else ((pH V.1 (zS i n) vs vs.length,V.2),0,0)
   | none=>if t.hash=false then (V,18446744073709551609,0) else if flags=2 then (V,18446744073709551614,0) else if t.max≤t.slots.length then (V,18446744073709551609,0) else
    match kV V i (strOfNums ks) vs with
    | none=>(V,18446744073709551604,0)
    | some V'=>(V',0,0)
def PutT (base tb:Nat)(S:Tabs)(i:Int)(ks vs:List Int)(flags:Int)(w:World)(e:Ending)(w':World):Prop :=
 e=.returned (.tuple #[.int .u64 (tput (zN S) i ks vs flags).2.1,.int .i64 (tput (zN S) i ks vs flags).2.2])∧Keep (zM tb S) w w'∧∃ S',TabAt w' base tb S'∧zN S'=(tput (zN S) i ks vs flags).1∧(∀ j∈zM tb S',j∈zM tb S∨w.heap.size≤j)∧S'.b=S.b
theorem vZ {base tb:Nat}{S:Tabs}{i:Int}{ks vs:List Int}{flags a b:Int}{w w':World}(h:TabAt w base tb S)(he:Ext w w')(e:tput (zN S) i ks vs flags=(zN S,a,b)):PutT base tb S i ks vs flags w (.returned (.tuple #[.int .u64 a,.int .i64 b])) w' :=
 ⟨by rw[e],Keep.of_ext he,S,h.ext he,by rw[e],fun j hj=>.inl hj,rfl⟩
set_option maxRecDepth 20000 in
set_option maxHeartbeats 8000000 in
theorem tab_put (base tb:Nat)(S:Tabs)(i:Int)(kv vv:Value)(ks vs:List Int)(flags:Int)(w:World)(h:TabAt w base tb S)(hk:Sl w .u8 kv ks)(hv:Sl w .u8 vv vs)(hu:∀ q∈vs,0≤q∧q≤255)(hf0:0≤flags)(HF:Hid (flags≤18446744073709551615))(HST:Hid (∀ w',Keep (zM tb S) w w'→Sl w' .u8 vv vs)):
  Calls Tryz.prog 54 #[.pointer (some ⟨tb,0,none⟩),.int .i64 i,kv,vv,.int .u64 flags] w (PutT base tb S i ks vs flags w):=by
 have HT:=η h
 obtain⟨ka,kn,kc,rfl,hkn,hKN⟩:=hk.val
 obtain⟨va,vn,vc,rfl,hvn,hVN⟩:=hv.val
 have HK:=η hk
 have HV:=η hv
 have HU:=η hu
 clear h hk hv hu
 go_enter Tryz.func54,Tryz.ntmps54
 go_wp2_with fail
 refine(tab_find base tb S i _ ks _ HT.out HK.out).mono ?_
 intro e w1 hf
 obtain⟨he,⟨hn,rfl⟩|⟨x,hp,hx,hm,h0,hl,hg,rfl⟩⟩:=hf.cases
 ·have HN:=η hn
  clear hn hf
  go_wp2_with fail
  go_returns
  exact vZ HT.out he (by simp only[tput,zN,HN.out])
 ·have HX:=η hx
  have HG:=η hg
  have HM:=η hm
  have HP:=η hp
  have hT1:=HT.out.ext he
  have k0:=cO (i:=0) (hT1.ones x hm)
  have k2:=cO (i:=2) (hT1.ones x hm)
  have k3:=cO (i:=3) (hT1.ones x hm)
  have k4:=cO (i:=4) (hT1.ones x hm)
  simp only[TRec.cells,gA,gB,gC]at k0 k2 k3 k4
  have hfew:=HT.out.few
  have HMD:=η (HT.out.made x hm)
  have HT1:=η hT1
  clear hp hx hg hf hm hT1
  by_cases hval:(vn:Int)=x.T.val
  case neg =>
   have HVAL:Hid ((vs.length:Int)≠x.T.val):=η (by have:=hVN.out;omega)
   have d1:((vn:Int) != x.T.val)=true:=by simpa using hval
   clear hval
   go_wp2_with fail
   go_returns
   exact vZ HT.out he (by simp only[tput,zN,HX.out];rw[if_pos HVAL.out])
  have HVAL:Hid (¬ (vs.length:Int)≠x.T.val):=η (by have:=hVN.out;omega)
  have d1:((vn:Int) != x.T.val)=false:=by simpa using hval
  clear hval
  by_cases hfl:2 < flags
  ·have HFL:=η hfl
   go_wp2_with fail
   refine(xW 22 _ (by decide) (by decide)).mono ?_
   rintro e w2 ⟨rfl,rfl⟩
   go_wp2_with fail
   go_returns
   exact vZ HT.out he (by simp only[tput,zN,HX.out];rw[if_neg HVAL.out,if_pos HFL.out])
  have HFL:=η hfl
  have d2:decide (2 < flags)=false:=by simpa using hfl
  clear hfl
  cases hlk:x.T.slots.lookup (strOfNums ks) with
  | some n =>
   have HLK:=η hlk
   have hn:=HMD.out.2 _ (yZ hlk)
   simp only at hn
   clear hlk
   simp only[Option.getD_some,Option.isSome_some]
   by_cases h1:flags=1
   ·subst h1
    go_wp2_with fail
    refine(xW 17 _ (by decide) (by decide)).mono ?_
    rintro e w2 ⟨rfl,rfl⟩
    go_wp2_with fail
    go_returns
    exact vZ HT.out he (by simp only[tput,zN,HX.out];rw[if_neg HVAL.out,if_neg (show ¬ (2:Int) < _ by have:=HFL.out;omega)];simp only[HLK.out,if_true])
   ·have d3:(flags == 1)=false:=by simpa using h1
    have H1:=η h1
    clear h1
    go_wp2_with fail
    have hput:tput (zN S) i ks vs flags=((pH (view S.L) (zS i n) vs vs.length,(zN S).2),0,0):=by
     simp only[tput,zN,HX.out]
     rw[if_neg HVAL.out,if_neg (show ¬ (2:Int) < _ by have:=HFL.out;omega)]
     simp only[HLK.out]
     rw[if_neg H1.out]
    have HPUT:=η hput
    clear hput
    go_loopw [59] (fun t wr=>∃ (j:Nat) (Lj:List Rec),j≤vn∧t=.int .i64 j∧TabAt wr base tb {S with L:=Lj}∧view Lj=pH (view S.L) (zS i n) vs j∧Keep (foot S.b S.r S.L) w1 wr∧foot S.b S.r Lj=foot S.b S.r S.L) (fun t _=>vn - (intOf t).toNat)
    case atStart=>exact⟨0,S.L,Nat.zero_le _,rfl,HT1.out,rfl,Keep.rfl' _ _,rfl⟩
    case round =>
     obtain⟨j,Lj,hj,rfl,hTj,hVj,hKj,hFj⟩:=hrel
     have HTj:=η hTj
     have HVj:=η hVj
     have HKj:=η hKj
     have HFj:=η hFj
     clear hTj hVj hKj hFj k0 k2 k3 k4
     by_cases hlt:(j:Int) < vn
     ·have hsl:=HST.out wr ((Keep.of_ext he).trans (HKj.out.mono fun q hq=>.inl (pK tb S q hq)))
      obtain⟨v,hv⟩:=zK (xs:=vs) (k:=j) (by have:=hVN.out;omega)
      have iv:=fun W=>HV.out.run_at (P:=Tryz.prog) el_u8.under el_u8.size .i64 (j:Int) (by omega) (by omega) W
      have cv:=hsl.cell hv (j:=0) rfl
      simp only[Nat.mul_one,Nat.add_zero,Int.toNat_natCast]at iv cv
      have hvr:=HU.out v (List.mem_of_getElem? hv)
      have hv0:=hvr.1
      have hv1:=hvr.2
      have hwv:IntKind.u64.wrap v=v:=by rw[IntKind.wrap_u64];omega
      have HVD:Hid (vs.getD j 0=v):=η (by rw[List.getD_eq_getElem?_getD,hv];rfl)
      have cb:=cO (i:=0) HTj.out.head
      simp only[List.getElem?_toArray,List.getElem?_cons_zero]at cb
      have HS:Hid (∀ w5:World,Keep (foot S.b S.r Lj) wr w5→w5.cell? ⟨tb,0,none⟩=some (.pointer (some ⟨S.b,0,none⟩))):=η fun w5 k=>by
       have n0:=List.nodup_cons.1 HTj.out.apart
       exact cO (k.obj HTj.out.head (fun hj=>n0.1 (List.mem_append_right _ (List.mem_append_right _ hj))))
      clear hsl hv hvr
      go_wp2_with fail
      go_region_held3 (fun w'=>w'.cell? ⟨tb,0,none⟩=some (.pointer (some ⟨S.b,0,none⟩)))
       (first|exact cb|exact s5)
       ((first
        | (go_at_call 90;refine(tab_area i n _ h0 (by omega) (by omega) (by omega)).mono ?_;rintro e w2 ⟨rfl,rfl⟩)
        | (go_at_call 29;refine(tT (zS i n) j _).mono ?_;rintro e w3 ⟨rfl,rfl⟩)
        | (go_at_call 89;(try rw[hwv]);refine(mem_store S.b S.r Lj (mat (zS i n) j) 1 v _ (HTj.out.mem.ext (by (repeat (first|exact xE0 _|assumption|refine xE1 ?_ _|refine xE2 ?_|refine xE3 ?_ _|refine xE4 ?_ (by assumption))))) (mat_le _ _).1 (η (mat_le _ _).2) hv0).mono ?_;rintro e w5 ⟨rfl,hk5,L5,hm5,hv5,hf5⟩;have hk5':Keep (foot S.b S.r Lj) wr w5:=⟨hk5.os,hk5.tape,hk5.output,hk5.size,hk5.block⟩;have s5:=HS.out w5 hk5';have HM5:=η hm5;have HV5:=η hv5;have HF5:=η hf5;have HK5:=η hk5';clear hk5 hk5' hm5 hv5 hf5)))
      all_goals
       have hst:=HTj.out.memStep HK5.out HM5.out (fun q hq=>.inl (by rw[HF5.out]at hq;exact hq))
       have HT5:=η hst.1
       clear hst
       go_wp2_with fail
       go_roundw
       case rel =>
        refine⟨j+1,L5,by omega,by go_num,HT5.out,by rw[HV5.out,HVj.out,pH,HVD.out],HKj.out.trans (HK5.out.mono fun q hq=>.inl (by rw[HFj.out]at hq;exact hq)),by rw[HF5.out,HFj.out]⟩
       case measure=>simp[intOf];omega
     ·have hjn:j=vs.length:=by have:=hVN.out;omega
      have HJN:=η hjn
      clear hjn
      go_wp2_with fail
      go_returns
      refine⟨by rw[HPUT.out];rfl,(Keep.of_ext he).trans (HKj.out.mono fun q hq=>.inl (pK tb S q hq)),_,HTj.out,by rw[HPUT.out];simp only[zN,HVj.out,HJN.out],fun q hq=>.inl ?_,rfl⟩
      simp only[zM,HFj.out]at hq
      exact hq
  | none =>
   have HLK:=η hlk
   clear hlk
   simp only[Option.getD_none,Option.isSome_none]
   cases hh:x.T.hash with
   | false =>
    have HH:=η hh
    rw[hh]at k0
    clear hh
    go_wp2_with fail
    refine(xW 7 _ (by decide) (by decide)).mono ?_
    rintro e w2 ⟨rfl,rfl⟩
    go_wp2_with fail
    go_returns
    exact vZ HT.out he (by simp only[tput,zN,HX.out];rw[if_neg HVAL.out,if_neg (show ¬ (2:Int) < _ by have:=HFL.out;omega)];simp only[HLK.out,HH.out,if_true])
   | true =>
    have HH:=η hh
    rw[hh]at k0
    clear hh
    by_cases h2:flags=2
    ·subst h2
     go_wp2_with fail
     refine(xW 2 _ (by decide) (by decide)).mono ?_
     rintro e w2 ⟨rfl,rfl⟩
     go_wp2_with fail
     go_returns
     exact vZ HT.out he (by simp only[tput,zN,HX.out];rw[if_neg HVAL.out,if_neg (show ¬ (2:Int) < _ by have:=HFL.out;omega)];simp only[HLK.out,HH.out,Bool.true_eq_false,if_false,if_true])
    ·have d3:(flags == 2)=false:=by simpa using h2
     have H2:=η h2
     clear h2
     have hlen:=run_len_map (P:=Tryz.prog) (ty:=3) Tryz.underlying156 ((HT1.out.slots x HM.out).ext (Ext.drew' (Ext.rfl' w1)))
     have hes':x.T.strs.length=x.T.slots.length:=by simp[TM.strs]
     rw[hes']at hlen
     clear hes'
     by_cases hfull:x.T.max≤(x.T.slots.length:Int)
     ·have HFULL:=η hfull
      go_wp2_with fail
      go_region
      go_wp2_with fail
      refine(xW 7 _ (by decide) (by decide)).mono ?_
      rintro e w2 ⟨rfl,rfl⟩
      go_wp2_with fail
      go_returns
      exact vZ HT.out (by (repeat (first|exact xE0 _|assumption|refine xE1 ?_ _|refine xE2 ?_|refine xE3 ?_ _|refine xE4 ?_ (by assumption)))) (by simp only[tput,zN,HX.out];rw[if_neg HVAL.out,if_neg (show ¬ (2:Int) < _ by have:=HFL.out;omega)];simp only[HLK.out,HH.out,Bool.true_eq_false,if_false];rw[if_neg H2.out,if_pos HFULL.out])
     ·have HFULL:=η hfull
      have d4:decide (x.T.max≤(x.T.slots.length:Int))=false:=by simpa using hfull
      clear hfull
      go_wp2_with fail
      go_region
      have st:=(HK.out.ext he.drew').run_str (P:=Tryz.prog) Tryz.underlying23 Tryz.underlying5 Tryz.underlying9
      go_wp2_with fail
      refine(tab_slot base tb S i (strOfNums ks) _ vs x _ (HT1.out.ext (Ext.drew' (Ext.rfl' w1))) ((HV.out.ext he).ext (Ext.drew' (Ext.rfl' w1))) HU.out HP.out HLK.out).mono ?_
      rintro e w2 ⟨rfl,hk2,S2,hT2,hv2,hf2,hb2,-⟩
      have HB2:=η hb2
      have HT2:=η hT2
      have HV2:=η hv2
      have HF2:=η hf2
      have hk3:Keep (zM tb S) w w2:=(Keep.of_ext he).trans ⟨hk2.os,hk2.tape,hk2.output,hk2.size,hk2.block⟩
      have hsz:=he.size
      clear hT2 hv2 hf2 hk2 hb2
      have hput:tput (zN S) i ks vs flags=match kV (zN S) i (strOfNums ks) vs with|none=>(zN S,18446744073709551604,0)|some V'=>(V',0,0):=by
       simp only[tput,zN,HX.out]
       rw[if_neg HVAL.out,if_neg (show ¬ (2:Int) < _ by have:=HFL.out;omega)]
       simp only[HLK.out,HH.out,Bool.true_eq_false,if_false]
       rw[if_neg H2.out,if_neg (by have:=HFULL.out;omega)]
      have HPUT:=η hput
      have HFR:Hid (∀ j∈zM tb S2,j∈zM tb S∨w.heap.size≤j):=η fun j hj=>(HF2.out j hj).imp id (fun h=>by simp at h;omega)
      clear hput
      cases hs:kV (zN S) i (strOfNums ks) vs with
      | none =>
       have HSL:=η hs
       clear hs
       go_wp2_with fail
       refine(xW 12 _ (by decide) (by decide)).mono ?_
       rintro e w3 ⟨rfl,rfl⟩
       go_wp2_with fail
       go_returns
       exact⟨by rw[HPUT.out,HSL.out];rfl,hk3,S2,HT2.out,by rw[HV2.out,HPUT.out,HSL.out];rfl,HFR.out,HB2.out⟩
      | some V' =>
       have HSL:=η hs
       clear hs
       go_wp2_with fail
       go_returns
       exact⟨by rw[HPUT.out,HSL.out];rfl,hk3,S2,HT2.out,by rw[HV2.out,HPUT.out,HSL.out];rfl,HFR.out,HB2.out⟩
structure TDef  where
 hash:Bool
 key:Int
 val:Int
 max:Int
def TDef.enc (d:TDef):List Value:=[.bool d.hash,.int .i64 d.key,.int .i64 d.val,.int .i64 d.max]
theorem enc_def:Enc 4 TDef.enc:=⟨fun _=>rfl,fun x u hu=>by
 simp only[TDef.enc,List.mem_cons,List.not_mem_nil,or_false]at hu
 rcases hu with rfl|rfl|rfl|rfl<;>rfl⟩
theorem el_def:El Tryz.prog 24 102 4 32 (.agg #[.bool false,.int .i64 0,.int .i64 0,.int .i64 0]):=⟨Tryz.underlying24,by kernel_rfl,rfl,by decide,fun _=>by kernel_rfl⟩
def mayD (d:TDef):Bool:=(if d.hash then decide (1≤d.key) && decide (d.key≤16) else d.key == 4) && decide (8≤d.val) && decide (d.val≤64) && d.val%8 == 0 && decide (1≤d.max) && decide (d.max≤16)
def BoolAns (b:Bool)(w:World)(e:Ending)(w':World):Prop:=e=.returned (.bool b)∧Ext w w'
set_option maxHeartbeats 2000000 in
theorem tab_may (d:TDef)(w:World):Calls Tryz.prog 123 #[.agg #[.bool d.hash,.int .i64 d.key,.int .i64 d.val,.int .i64 d.max]] w (BoolAns (mayD d) w):=by
 obtain⟨h,k,v,m⟩:=d
 simp only
 cases h with
 | false =>
  cases hk:(k == 4) with
  | false =>
   have HK:=η hk
   go_enter Tryz.func123,Tryz.ntmps123
   go_wp2_with fail
   go_returns
   exact⟨yS (by simp[mayD,HK.out]),by (repeat (first|exact xE0 _|assumption|refine xE1 ?_ _|refine xE2 ?_|refine xE3 ?_ _|refine xE4 ?_ (by assumption)))⟩
  | true =>
   have HK:=η hk
   by_cases h1:8≤v
   case neg =>
    go_enter Tryz.func123,Tryz.ntmps123
    go_wp2_with fail
    go_returns
    exact⟨yS (by have:decide (8≤v)=false:=by simpa using h1
                 simp[mayD,this]),by (repeat (first|exact xE0 _|assumption|refine xE1 ?_ _|refine xE2 ?_|refine xE3 ?_ _|refine xE4 ?_ (by assumption)))⟩
   by_cases h2:v≤64
   case neg =>
    go_enter Tryz.func123,Tryz.ntmps123
    go_wp2_with fail
    go_returns
    exact⟨yS (by have:decide (v≤64)=false:=by simpa using h2
                 simp[mayD,this]),by (repeat (first|exact xE0 _|assumption|refine xE1 ?_ _|refine xE2 ?_|refine xE3 ?_ _|refine xE4 ?_ (by assumption)))⟩
   cases h3:(v%8 == 0) with
   | false =>
    have H3:=η h3
    go_enter Tryz.func123,Tryz.ntmps123
    go_wp2_with fail
    go_returns
    exact⟨yS (by simp[mayD,H3.out]),by (repeat (first|exact xE0 _|assumption|refine xE1 ?_ _|refine xE2 ?_|refine xE3 ?_ _|refine xE4 ?_ (by assumption)))⟩
   | true =>
    have H3:=η h3
    by_cases h4:1≤m
    case neg =>
     go_enter Tryz.func123,Tryz.ntmps123
     go_wp2_with fail
     go_returns
     exact⟨yS (by have:decide (1≤m)=false:=by simpa using h4
                  simp[mayD,this]),by (repeat (first|exact xE0 _|assumption|refine xE1 ?_ _|refine xE2 ?_|refine xE3 ?_ _|refine xE4 ?_ (by assumption)))⟩
    have D1:=η (show decide (8≤v)=true by simpa using h1)
    have D2:=η (show decide (v≤64)=true by simpa using h2)
    have D4:=η (show decide (1≤m)=true by simpa using h4)
    go_enter Tryz.func123,Tryz.ntmps123
    go_wp2_with fail
    go_returns
    exact⟨yS (by simp[mayD,HK.out,H3.out,D1.out,D2.out,D4.out]),by (repeat (first|exact xE0 _|assumption|refine xE1 ?_ _|refine xE2 ?_|refine xE3 ?_ _|refine xE4 ?_ (by assumption)))⟩
 | true =>
  by_cases g1:1≤k
  case neg =>
   go_enter Tryz.func123,Tryz.ntmps123
   go_wp2_with fail
   go_returns
   exact⟨yS (by have:decide (1≤k)=false:=by simpa using g1
                simp[mayD,this]),by (repeat (first|exact xE0 _|assumption|refine xE1 ?_ _|refine xE2 ?_|refine xE3 ?_ _|refine xE4 ?_ (by assumption)))⟩
  by_cases g2:k≤16
  case neg =>
   go_enter Tryz.func123,Tryz.ntmps123
   go_wp2_with fail
   go_returns
   exact⟨yS (by have:decide (k≤16)=false:=by simpa using g2
                simp[mayD,this]),by (repeat (first|exact xE0 _|assumption|refine xE1 ?_ _|refine xE2 ?_|refine xE3 ?_ _|refine xE4 ?_ (by assumption)))⟩
  have G1:=η (show decide (1≤k)=true by simpa using g1)
  have G2:=η (show decide (k≤16)=true by simpa using g2)
  by_cases h1:8≤v
  case neg =>
   go_enter Tryz.func123,Tryz.ntmps123
   go_wp2_with fail
   go_returns
   exact⟨yS (by have:decide (8≤v)=false:=by simpa using h1
                simp[mayD,this]),by (repeat (first|exact xE0 _|assumption|refine xE1 ?_ _|refine xE2 ?_|refine xE3 ?_ _|refine xE4 ?_ (by assumption)))⟩
  by_cases h2:v≤64
  case neg =>
   go_enter Tryz.func123,Tryz.ntmps123
   go_wp2_with fail
   go_returns
   exact⟨yS (by have:decide (v≤64)=false:=by simpa using h2
                simp[mayD,this]),by (repeat (first|exact xE0 _|assumption|refine xE1 ?_ _|refine xE2 ?_|refine xE3 ?_ _|refine xE4 ?_ (by assumption)))⟩
  cases h3:(v%8 == 0) with
  | false =>
   have H3:=η h3
   go_enter Tryz.func123,Tryz.ntmps123
   go_wp2_with fail
   go_returns
   exact⟨yS (by simp[mayD,H3.out]),by (repeat (first|exact xE0 _|assumption|refine xE1 ?_ _|refine xE2 ?_|refine xE3 ?_ _|refine xE4 ?_ (by assumption)))⟩
  | true =>
   have H3:=η h3
   by_cases h4:1≤m
   case neg =>
    go_enter Tryz.func123,Tryz.ntmps123
    go_wp2_with fail
    go_returns
    exact⟨yS (by have:decide (1≤m)=false:=by simpa using h4
                 simp[mayD,this]),by (repeat (first|exact xE0 _|assumption|refine xE1 ?_ _|refine xE2 ?_|refine xE3 ?_ _|refine xE4 ?_ (by assumption)))⟩
   have D1:=η (show decide (8≤v)=true by simpa using h1)
   have D2:=η (show decide (v≤64)=true by simpa using h2)
   have D4:=η (show decide (1≤m)=true by simpa using h4)
   go_enter Tryz.func123,Tryz.ntmps123
   go_wp2_with fail
   go_returns
   exact⟨yS (by simp[mayD,G1.out,G2.out,H3.out,D1.out,D2.out,D4.out]),by (repeat (first|exact xE0 _|assumption|refine xE1 ?_ _|refine xE2 ?_|refine xE3 ?_ _|refine xE4 ?_ (by assumption)))⟩
theorem tab_may1 (d:TDef)(w:World):Calls Tryz.prog 122 #[.agg #[.bool d.hash,.int .i64 d.key,.int .i64 d.val,.int .i64 d.max]] w (BoolAns (!mayD d) w):=by
 go_enter Tryz.func122,Tryz.ntmps122
 go_wp2_with fail
 refine(tab_may d _).mono ?_
 rintro e w2 ⟨rfl,he⟩
 have he':=(Ext.alloc' (Ext.rfl' w) _).trans' he
 go_wp2_with fail
 go_returns
 exact⟨rfl,he'⟩
def IdxD (ds:List TDef)(w:World)(e:Ending)(w':World):Prop:=∃ i:Int,e=.returned (.int .i64 i)∧Ext w w'∧(decide (0≤i)=!ds.all mayD)
theorem uR {w:World}{v:Value}{L:List TDef}(R:Rd w 4 TDef.enc v L){i:Nat}{x:TDef}(hx:L[i]?=some x):
  w.cell? (elt v (i * 4))=some (.bool x.hash)∧w.cell? ⟨(elt v (i * 4)).block,(elt v (i * 4)).off+1,none⟩=some (.int .i64 x.key)∧w.cell? ⟨(elt v (i * 4)).block,(elt v (i * 4)).off+2,none⟩=some (.int .i64 x.val)∧w.cell? ⟨(elt v (i * 4)).block,(elt v (i * 4)).off+3,none⟩=some (.int .i64 x.max):=by
 have E:=R.elt_add hx
 have F:∀ (p:Addr) (j:Nat),j≠0→(⟨p.block,p.off+j,none⟩:Addr)=p.add j:=fun p j h=>by simp[Addr.add,h]
 rw[F _ 1 (by decide),F _ 2 (by decide),F _ 3 (by decide),E,E,E]
 exact⟨R.cell hx (j:=0) rfl,R.cell hx (j:=1) rfl,R.cell hx (j:=2) rfl,R.cell hx (j:=3) rfl⟩
set_option maxHeartbeats 1000000 in
theorem tab_index (dv:Value)(ds:List TDef)(w:World)(h:Rd w 4 TDef.enc dv ds):Calls Tryz.prog 158 #[dv,.func (.func 122) #[] #[]] w (IdxD ds w):=by
 obtain⟨a,n,c,rfl,hn,hN⟩:=h.val
 have HD:=η h
 clear h
 go_enter Tryz.func158,Tryz.ntmps158
 go_wp2_with fail
 go_loopw [8] (fun i wr=>∃ j:Nat,j≤n∧i=.int .i64 j∧Ext w wr∧Hid (∀ (q:Nat) (y:TDef),q < j→ds[q]?=some y→mayD y=true)) (fun i _=>n - (intOf i).toNat)
 case atStart=>exact⟨0,Nat.zero_le _,rfl,Ext.rfl' _,η fun q y hq=>absurd hq (Nat.not_lt_zero _)⟩
 case round =>
  obtain⟨j,hj,rfl,hwr,HJ⟩:=hrel
  by_cases hlt:(j:Int) < n
  ·obtain⟨x,hx⟩:=zK (xs:=ds) (k:=j) (by have:=hN.out;omega)
   obtain⟨c0,c1,c2,c3⟩:=uR (HD.out.ext hwr) hx
   have ix:=fun W=>HD.out.run_at (P:=Tryz.prog) el_def.under el_def.size .i64 (j:Int) (by omega) (by omega) W
   simp only[Int.toNat_natCast]at ix
   have HX:=η hx
   clear hx
   go_wp2_with fail
   refine(tab_may1 x _).mono ?_
   rintro e w2 ⟨rfl,he2⟩
   cases hm:mayD x with
   | true =>
    have HMX:=η hm
    clear hm
    simp only[Bool.not_true]
    go_wp2_with fail
    go_roundw
    case rel =>
     refine⟨j+1,by omega,by go_num,hwr.trans' he2,η fun q y hq hy=>?_⟩
     rcases Nat.lt_succ_iff_lt_or_eq.1 hq with hq|rfl
     ·exact HJ.out q y hq hy
     ·rw[HX.out]at hy;injection hy with e;subst e;exact HMX.out
    case measure=>simp[intOf];omega
   | false =>
    have HMX:=η hm
    clear hm
    simp only[Bool.not_false]
    go_wp2_with fail
    go_returns
    refine⟨j,rfl,hwr.trans' he2,?_⟩
    have:ds.all mayD=false:=by
     rw[Bool.eq_false_iff]
     intro h
     rw[List.all_eq_true]at h
     have:=h x (List.mem_of_getElem? HX.out)
     rw[HMX.out]at this;cases this
    rw[this];simp
  ·have hjn:j=ds.length:=by have:=hN.out;omega
   have HJN:=η hjn
   clear hjn
   go_wp2_with fail
   go_returns
   refine⟨-1,rfl,hwr,?_⟩
   have:ds.all mayD=true:=by
    rw[List.all_eq_true]
    intro y hy
    obtain⟨q,hq⟩:=List.getElem?_of_mem hy
    exact HJ.out q y (by rw[HJN.out];exact(List.getElem?_eq_some_iff.1 hq).1) hq
   rw[this];rfl
theorem tab_contains (dv:Value)(ds:List TDef)(w:World)(h:Rd w 4 TDef.enc dv ds):Calls Tryz.prog 121 #[dv,.func (.func 122) #[] #[]] w (BoolAns (!ds.all mayD) w):=by
 go_enter Tryz.func121,Tryz.ntmps121
 go_wp2_with fail
 refine(tab_index dv ds _ h).mono ?_
 rintro e w2 ⟨i,rfl,he,hi⟩
 have HI:=η hi
 clear hi
 go_wp2_with fail
 go_returns
 exact⟨yS HI.out,he⟩
def xC (ds:List TDef):Bool:=decide (ds.length≤8) && ds.all mayD
theorem tab_right (dv:Value)(ds:List TDef)(w:World)(h:Rd w 4 TDef.enc dv ds):Calls Tryz.prog 84 #[dv] w (BoolAns (xC ds) w):=by
 obtain⟨a,n,c,rfl,hn,hN⟩:=h.val
 have HD:=η h
 clear h
 by_cases h8:(n:Int)≤8
 ·have HL:Hid (decide (ds.length≤8)=true):=η (by have:=hN.out;simp;omega)
  go_enter Tryz.func84,Tryz.ntmps84
  go_wp2_with fail
  refine(tab_contains _ ds _ HD.out).mono ?_
  rintro e w2 ⟨rfl,he⟩
  go_wp2_with fail
  go_returns
  exact⟨yS (by simp[xC,HL.out]),he⟩
 ·have HL:Hid (decide (ds.length≤8)=false):=η (by have:=hN.out;simp;omega)
  go_enter Tryz.func84,Tryz.ntmps84
  go_wp2_with fail
  go_returns
  exact⟨yS (by simp[xC,HL.out]),by (repeat (first|exact xE0 _|assumption|refine xE1 ?_ _|refine xE2 ?_|refine xE3 ?_ _|refine xE4 ?_ (by assumption)))⟩
def yM (n:Int):ByteArray:=strOfNums [n%256,0,0,0]
theorem tab_key (n:Int)(w:World):Calls Tryz.prog 86 #[.int .i64 n] w fun e w'=>e=.returned (.string (yM n))∧Ext w w':=by
 have hlit:∀ u:World,Own (u.alloc (.cells #[.int .u8 (IntKind.u8.wrap n),.int .u8 0,.int .u8 0,.int .u8 0] 5)) 0 5 1 (fun x=>[Value.int .u8 x]) (.slice (some ⟨u.heap.size,0,none⟩) 4 4) [IntKind.u8.wrap n,0,0,0]:=fun u=>Own.lit (zG .u8) (w:=u) [IntKind.u8.wrap n,0,0,0] rfl rfl (Nat.zero_le _) (by simp[maxLen])
 have st:=((hlit w).rd (zG _)).run_str (P:=Tryz.prog) Tryz.underlying23 Tryz.underlying5 Tryz.underlying9
 have e:IntKind.u8.wrap n=n%256:=by rw[IntKind.wrap_u8]
 rw[e]at st
 clear hlit e
 go_enter Tryz.func86,Tryz.ntmps86
 go_wp2_with fail
 go_returns
 exact⟨rfl,by (repeat (first|exact xE0 _|assumption|refine xE1 ?_ _|refine xE2 ?_|refine xE3 ?_ _|refine xE4 ?_ (by assumption)))⟩
theorem pV (d:TDef):mayD d=true ↔ ((d.hash=true∧1≤d.key∧d.key≤16)∨(d.hash=false∧d.key=4))∧8≤d.val∧d.val≤64∧d.val%8=0∧1≤d.max∧d.max≤16:=by
 unfold mayD
 cases d.hash<;>simp[and_assoc]
theorem right_no {ds:List TDef}{j:Nat}{d:TDef}(hd:ds[j]?=some d)(h:¬ mayD d=true):xC ds=false:=by
 unfold xC
 have:ds.all mayD=false:=by
  rw[Bool.eq_false_iff]
  intro h'
  exact h (List.all_eq_true.1 h' d (List.mem_of_getElem? hd))
 rw[this];simp
set_option maxRecDepth 20000 in
set_option maxHeartbeats 4000000 in
theorem rtab_right (dv:Value)(ds:List TDef)(w:World)(h:Rd w 4 TDef.enc dv ds):Calls Tryz.prog 62 #[dv] w (BoolAns (xC ds) w):=by
 obtain⟨a,n,c,rfl,hn,hN⟩:=h.val
 have HD:=η h
 clear h
 go_enter Tryz.func62,Tryz.ntmps62
 go_wp2_with fail
 go_loopw [3] (fun q wr=>∃ (j:Nat),j≤n∧q=.int .i64 j∧Ext w wr∧Hid (∀ (q:Nat) d,q < j→ds[q]?=some d→mayD d=true)) (fun q _=>n - (intOf q).toNat)
 case atStart=>exact⟨0,Nat.zero_le _,rfl,Ext.rfl' _,η (fun q d h=>by omega)⟩
 case round =>
  obtain⟨j,hj,rfl,hwr,HALL⟩:=hrel
  by_cases hlt:(j:Int) < n
  ·obtain⟨d,hd⟩:=zK (xs:=ds) (k:=j) (by have:=hN.out;omega)
   have ix:=fun W=>HD.out.run_at (P:=Tryz.prog) el_def.under el_def.size .i64 (j:Int) (by omega) (by omega) W
   simp only[Int.toNat_natCast]at ix
   obtain⟨c0,c1,c2,c3⟩:=uR (HD.out.ext hwr) hd
   have HDJ:=η hd
   clear hd
   obtain⟨dh,dk,dl,dm⟩:=d
   have HM:=η (pV ⟨dh,dk,dl,dm⟩)
   simp only at c0 c1 c2 c3 HM
   by_cases h8:dl < 8
   ·have HNO:Hid (xC ds=false):=η (right_no HDJ.out (by rw[HM.out];omega))
    cases dh
    all_goals
     go_wp2_with fail
     all_goals
      go_returns
      exact⟨by rw[HNO.out];rfl,by (repeat (first|exact xE0 _|assumption|refine xE1 ?_ _|refine xE2 ?_|refine xE3 ?_ _|refine xE4 ?_ (by assumption)))⟩
   have ht:dl.tmod 8=dl%8:=Int.tmod_eq_emod_of_nonneg (by omega)
   cases dh
   all_goals
    go_wp2_with fail
    all_goals first
     | (go_returns
        have HNO:xC ds=false:=right_no HDJ.out (by rw[HM.out];simp;omega)
        exact⟨by rw[HNO];rfl,by (repeat (first|exact xE0 _|assumption|refine xE1 ?_ _|refine xE2 ?_|refine xE3 ?_ _|refine xE4 ?_ (by assumption)))⟩)
     | (go_roundw
        case rel=>exact⟨j+1,by omega,by go_num,by (repeat (first|exact xE0 _|assumption|refine xE1 ?_ _|refine xE2 ?_|refine xE3 ?_ _|refine xE4 ?_ (by assumption))),η (fun q d hq hd=>by
         by_cases e:q=j
         ·subst e;rw[HDJ.out]at hd;injection hd with hd;subst hd;rw[HM.out];simp;omega
         ·exact HALL.out q d (by omega) hd)⟩
        case measure=>simp[intOf];omega)
  ·have HALL2:Hid (ds.all mayD=true):=η (List.all_eq_true.2 fun d hd=>by
    obtain⟨q,hq⟩:=List.getElem?_of_mem hd
    exact HALL.out q d (by have:=(List.getElem?_eq_some_iff.1 hq).1;have:=hN.out;omega) hq)
   have HR:Hid (xC ds=decide ((n:Int)≤8)):=η (by unfold xC;rw[HALL2.out,Bool.and_true];have:=hN.out;subst this;rw[decide_eq_decide];omega)
   go_wp2_with fail
   go_returns
   refine⟨?_,hwr⟩
   rw[HR.out]
   rfl
end Go.Proofs.YtppefchjoodgnaaGreat
