import Derived.Test.YtppefchjoodgnaaGreatPQ02
import Derived.Deep.RegionLaw
set_option linter.unusedSimpArgs false
set_option linter.unusedVariables false
namespace Go.Proofs.YtppefchjoodgnaaGreat
open Go.RowKit
structure RR  where
 n:Int
 ba:Option Addr
 bc:Nat
 pa:Option Addr
 pc:Nat
 A:Ar
def RR.bv (x:RR):Value:=.slice x.ba x.A.bytes.length x.bc
def RR.pv (x:RR):Value:=.slice x.pa x.A.put.length x.pc
def RR.enc (x:RR):List Value:=[.int .i64 x.n,x.bv,x.pv,.bool x.A.fixed]
theorem qD:Enc 4 RR.enc:=⟨fun _=>rfl,fun x u hu=>by
 simp only[RR.enc,List.mem_cons,List.not_mem_nil,or_false]at hu
 rcases hu with rfl|rfl|rfl|rfl<;>rfl⟩
def RR.blocks (x:RR):List Nat:=x.bv.ownBlock.toList++x.pv.ownBlock.toList
abbrev encB:Int→List Value:=fun x=>[Value.int .u8 x]
abbrev encP:Bool→List Value:=fun x=>[Value.bool (!x)]
theorem enc_p:Enc 1 encP:=⟨fun _=>rfl,fun x u hu=>by simp at hu;subst hu;rfl⟩
structure RefAt (w:World)(base b:Nat)(lv:Value)(L:List RR):Prop where
 head:w.heap[b]?=some (.cells #[lv] 83 (0,0))
 hb:base≤b
 list:Own w base 119 4 RR.enc lv L
 bytes:∀ x∈L,Own w base 5 1 encB x.bv x.A.bytes
 put:∀ x∈L,Own w base 4 1 encP x.pv x.A.put
 apart:(b :: (lv.ownBlock.toList++L.flatMap RR.blocks)).Nodup
 ok:∀ x∈L,x.A.put.length=x.A.bytes.length∧x.A.bytes.length≤1024∧(∀ q∈x.A.bytes,0≤q∧q≤255)∧1≤x.n∧x.n≤2147483647
 uniq:(L.map (·.n)).Nodup
def yA (b:Nat)(lv:Value)(L:List RR):List Nat:=b :: (lv.ownBlock.toList++L.flatMap RR.blocks)
def zV (L:List RR):Areas:=L.map fun x=>(x.n,x.A)
theorem RefAt.keep {F:List Nat}{w w':World}{base b:Nat}{lv:Value}{L:List RR}(h:RefAt w base b lv L)(k:Keep F w w')(hF:∀ x∈yA b lv L,x ∉ F):RefAt w' base b lv L:=by
 refine⟨k.obj h.head (hF _ (by simp[yA])),h.hb,h.list.keep k (fun j hj=>hF j (by simp[yA,hj])),fun x hx=>(h.bytes x hx).keep k (fun j hj=>hF j ?_),fun x hx=>(h.put x hx).keep k (fun j hj=>hF j ?_),h.apart,h.ok,h.uniq⟩
 all_goals
  simp only[yA,List.mem_cons,List.mem_append,List.mem_flatMap]
  exact .inr (.inr ⟨x,hx,by simp[RR.blocks,hj]⟩)
theorem RefAt.ext {w w':World}{base b:Nat}{lv:Value}{L:List RR}(h:RefAt w base b lv L)(k:Ext w w'):RefAt w' base b lv L :=
 h.keep (F:=[]) (Keep.of_ext k) (fun _ _=>by simp)
theorem RefAt.lt {w:World}{base b:Nat}{lv:Value}{L:List RR}(h:RefAt w base b lv L):∀ x∈yA b lv L,base≤x∧x < w.heap.size:=by
 intro x hx
 simp only[yA,List.mem_cons,List.mem_append,List.mem_flatMap,Option.mem_toList]at hx
 rcases hx with rfl|hx|⟨y,hy,hx⟩
 ·exact⟨h.hb,zE h.head⟩
 ·exact h.list.lt hx
 ·simp only[RR.blocks,List.mem_append,Option.mem_toList]at hx
  rcases hx with hx|hx
  ·exact(h.bytes y hy).lt hx
  ·exact(h.put y hy).lt hx
theorem lookup_viewR (L:List RR)(n:Int):((zV L).lookup n=none∧∀ x∈L,(x.n == n)=false) ∨
  ∃ (i:Nat) (x:RR),L[i]?=some x∧x.n=n∧(zV L).lookup n=some x.A∧∀ (j:Nat) (y:RR),j < i→L[j]?=some y→(y.n == n)=false:=by
 induction L with
 | nil=>left;simp[zV]
 | cons y L ih =>
  by_cases h:n=y.n
  ·right
   exact⟨0,y,rfl,h.symm,by simp[zV,List.lookup,h],fun j _ hj=>by omega⟩
  ·have hb:(n == y.n)=false:=by simpa using h
   have hb':(y.n == n)=false:=by simpa using fun e=>h e.symm
   rcases ih with ⟨h1,h2⟩|⟨i,x,hx,h1,h2,h3⟩
   ·left
    refine⟨by simpa[zV,List.lookup,hb]using h1,fun x hx=>?_⟩
    rcases List.mem_cons.1 hx with rfl|hx
    ·exact hb'
    ·exact h2 x hx
   ·right
    refine⟨i+1,x,by simpa using hx,h1,by simpa[zV,List.lookup,hb]using h2,fun j z hj hz=>?_⟩
    cases j with
    | zero=>simp at hz;subst hz;exact hb'
    | succ j=>exact h3 j z (by omega) (by simpa using hz)
theorem el_area:El Tryz.prog 81 119 4 64 (.agg #[.int .i64 0,.slice none 0 0,.slice none 0 0,.bool false]):=⟨Tryz.underlying81,by kernel_rfl,rfl,by decide,fun _=>by kernel_rfl⟩
theorem ref_at (a o:Int)(w:World):Calls Tryz.prog 37 #[.int .i64 a,.int .i64 o] w fun e w'=>e=.returned (.int .u64 (mat a o))∧w'=w:=by
 go_enter Tryz.func37,Tryz.ntmps37
 go_wp2
 go_returns
 exact⟨xX (by simp only[IntKind.wrap_u64,mat];omega),rfl⟩
theorem ref_fits (n:Int)(w:World):Calls Tryz.prog 149 #[.int .i64 n] w fun e w'=>e=.returned (.bool (vU n))∧w'=w:=by
 rcases sized_cases n with rfl|rfl|rfl|rfl|⟨h1,h2,h3,h4⟩
 all_goals
  go_enter Tryz.func149,Tryz.ntmps149
  go_wp2
  go_returns
  exact⟨yS (by simp[vU, *]),rfl⟩
theorem tR {w:World}{v:Value}{L:List RR}(R:Rd w 4 RR.enc v L){i:Nat}{x:RR}(hx:L[i]?=some x):
  w.cell? (elt v (i * 4))=some (.int .i64 x.n)∧w.cell? ⟨(elt v (i * 4)).block,(elt v (i * 4)).off+1,none⟩=some x.bv∧w.cell? ⟨(elt v (i * 4)).block,(elt v (i * 4)).off+2,none⟩=some x.pv∧w.cell? ⟨(elt v (i * 4)).block,(elt v (i * 4)).off+3,none⟩=some (.bool x.A.fixed):=by
 have E:=R.elt_add hx
 have F:∀ (p:Addr) (j:Nat),j≠0→(⟨p.block,p.off+j,none⟩:Addr)=p.add j:=fun p j h=>by simp[Addr.add,h]
 rw[F _ 1 (by decide),F _ 2 (by decide),F _ 3 (by decide),E,E,E]
 exact⟨R.cell hx (j:=0) rfl,R.cell hx (j:=1) rfl,R.cell hx (j:=2) rfl,R.cell hx (j:=3) rfl⟩
theorem RefAt.cells {w:World}{base b:Nat}{v:Value}{L:List RR}(h:RefAt w base b v L){i:Nat}{x:RR}(hx:L[i]?=some x):
  w.cell? (elt v (i * 4))=some (.int .i64 x.n)∧w.cell? ⟨(elt v (i * 4)).block,(elt v (i * 4)).off+1,none⟩=some x.bv∧w.cell? ⟨(elt v (i * 4)).block,(elt v (i * 4)).off+2,none⟩=some x.pv∧w.cell? ⟨(elt v (i * 4)).block,(elt v (i * 4)).off+3,none⟩=some (.bool x.A.fixed):=tR (h.list.rd qD) hx
theorem RefAt.rec_apart {w:World}{base b:Nat}{lv:Value}{L:List RR}(h:RefAt w base b lv L){x:RR}(hx:x∈L):b ∉ RR.blocks x∧(∀ j,lv.ownBlock=some j→j ∉ RR.blocks x)∧(RR.blocks x).Nodup:=by
 have h0:=List.nodup_cons.1 h.apart
 have h1:=List.nodup_append.1 h0.2
 have hm:∀ j∈RR.blocks x,j∈L.flatMap RR.blocks:=fun j hj=>List.mem_flatMap.2 ⟨x,hx,hj⟩
 exact⟨fun hb=>h0.1 (List.mem_append_right _ (hm _ hb)),fun j hj hb=>h1.2.2 j (by simpa using hj) j (hm _ hb) rfl,(List.pairwise_flatMap.1 h1.2.1).1 x hx⟩
theorem RefAt.other {w:World}{base b:Nat}{lv:Value}{L:List RR}(h:RefAt w base b lv L){x y:RR}(hx:x∈L)(hy:y∈L)(hne:x≠y){k:Nat}(hk:k∈RR.blocks x):k ∉ RR.blocks y:=by
 intro hk'
 have h2:=(List.pairwise_flatMap.1 (List.nodup_append.1 (List.nodup_cons.1 h.apart).2).2.1).2
 exact pw_of (R:=fun a b=>∀ x∈RR.blocks a,∀ y∈RR.blocks b,x≠y) (fun a b hab u hu v hv e=>hab v hv u hu e.symm) h2 hx hy hne k hk k hk' rfl
theorem uniqR_eq {L:List RR}(h:(L.map (·.n)).Nodup){x y:RR}(hx:x∈L)(hy:y∈L)(e:x.n=y.n):x=y:=by
 induction L with
 | nil=>cases hx
 | cons z L ih =>
  simp only[List.map_cons,List.nodup_cons,List.mem_map,not_exists,not_and]at h
  cases hx with
  | head=>cases hy with
   | head=>rfl
   | tail _ hy=>exact absurd e.symm (h.1 y hy)
  | tail _ hx=>cases hy with
   | head=>exact absurd e (h.1 x hx)
   | tail _ hy=>exact ih h.2 hx hy
theorem fm_congr {α β:Type}{f g:α→List β}:∀ {l:List α},(∀ x∈l,f x=g x)→l.flatMap f=l.flatMap g
 | [],_=>rfl
 | x :: l,h=>by rw[List.flatMap_cons,List.flatMap_cons,h x List.mem_cons_self,fm_congr fun y hy=>h y (List.mem_cons_of_mem _ hy)]
def uQ (L:List RR)(x:RR)(A:Ar):List RR:=L.map fun y=>if y.n == x.n then {y with A:=A} else y
theorem viewR_upd (L:List RR)(x:RR)(A:Ar):zV (uQ L x A)=qY (zV L) x.n A:=by
 simp only[zV,uQ,qY,List.map_map]
 apply List.map_congr_left
 intro y _
 by_cases hn:y.n=x.n
 ·simp[hn]
 ·simp[hn]
theorem RefAt.upd {w w':World}{base b:Nat}{lv:Value}{L:List RR}(h:RefAt w base b lv L){x:RR}(hx:x∈L)(A:Ar)(hf:A.fixed=x.A.fixed)(hl:A.bytes.length=x.A.bytes.length)(hp:A.put.length=x.A.put.length)(hu:∀ q∈A.bytes,0≤q∧q≤255)
  (k:Keep (RR.blocks x) w w') (HG:Own w' base 5 1 encB x.bv A.bytes) (HP:Own w' base 4 1 encP x.pv A.put) :
  RefAt w' base b lv (uQ L x A)∧yA b lv (uQ L x A)=yA b lv L:=by
 have hE:∀ y∈L,RR.enc (if y.n == x.n then {y with A:=A} else y)=RR.enc y∧RR.blocks (if y.n == x.n then {y with A:=A} else y)=RR.blocks y∧(if y.n == x.n then {y with A:=A} else y).n=y.n:=by
  intro y hy
  by_cases hn:y.n == x.n
  ·have e:y=x:=uniqR_eq h.uniq hy hx (by simpa using hn)
   subst e
   simp only[hn,if_true,and_true]
   refine⟨?_,?_⟩
   ·simp only[RR.enc,RR.bv,RR.pv,hf,hl,hp]
   ·simp only[RR.blocks,RR.bv,RR.pv,hl,hp]
  ·simp only[hn,Bool.false_eq_true,if_false,and_self]
 have e1:(uQ L x A).flatMap RR.enc=L.flatMap RR.enc:=by
  rw[uQ,List.flatMap_map]
  exact fm_congr fun y hy=>(hE y hy).1
 have e2:(uQ L x A).flatMap RR.blocks=L.flatMap RR.blocks:=by
  rw[uQ,List.flatMap_map]
  exact fm_congr fun y hy=>(hE y hy).2.1
 have e3:(uQ L x A).map (·.n)=L.map (·.n):=by
  rw[uQ,List.map_map]
  exact List.map_congr_left fun y hy=>(hE y hy).2.2
 have e4:(uQ L x A).length=L.length:=by simp[uQ]
 have ha:=h.rec_apart hx
 refine⟨⟨k.obj h.head ha.1,h.hb,?_,?_,?_,by rw[e2];exact h.apart,?_,by rw[e3];exact h.uniq⟩,by simp only[yA,e2]⟩
 ·show World.ownsRow _ _ _ _ _ _ _
  rw[e1,e4]
  exact h.list.keep k ha.2.1
 ·intro y' hy'
  obtain⟨y,hy,rfl⟩:=List.mem_map.1 hy'
  by_cases hn:y.n == x.n
  ·have e:y=x:=uniqR_eq h.uniq hy hx (by simpa using hn)
   subst e
   simp only[hn,if_true]
   simp only[RR.bv,hl]at HG ⊢
   exact HG
  ·have hne:y≠x:=fun e=>hn (by rw[e];simp)
   simp only[hn,Bool.false_eq_true,if_false]
   exact(h.bytes y hy).keep k (fun j hj=>h.other hy hx hne (by simp[RR.blocks,hj]))
 ·intro y' hy'
  obtain⟨y,hy,rfl⟩:=List.mem_map.1 hy'
  by_cases hn:y.n == x.n
  ·have e:y=x:=uniqR_eq h.uniq hy hx (by simpa using hn)
   subst e
   simp only[hn,if_true]
   simp only[RR.pv,hp]at HP ⊢
   exact HP
  ·have hne:y≠x:=fun e=>hn (by rw[e];simp)
   simp only[hn,Bool.false_eq_true,if_false]
   exact(h.put y hy).keep k (fun j hj=>h.other hy hx hne (by simp[RR.blocks,hj]))
 ·intro y' hy'
  obtain⟨y,hy,rfl⟩:=List.mem_map.1 hy'
  have:=h.ok y hy
  by_cases hn:y.n == x.n
  ·have e:y=x:=uniqR_eq h.uniq hy hx (by simpa using hn)
   subst e
   simp only[hn,if_true]
   exact⟨by rw[hl,hp];exact this.1,by rw[hl];exact this.2.1,hu,this.2.2.2⟩
  ·simpa only[hn,Bool.false_eq_true,if_false]using this
def FindAns (L:List RR)(n:Int)(w:World)(e:Ending)(w':World):Prop :=
 w'=w∧(((zV L).lookup n=none∧e=.returned (.int .i64 (-1)))∨∃ (i:Nat) (x:RR),L[i]?=some x∧x.n=n∧(zV L).lookup n=some x.A∧e=.returned (.int .i64 (i:Nat)))
set_option maxHeartbeats 400000 in
theorem ref_find (base b:Nat)(lv:Value)(L:List RR)(k:Int)(w:World)(h:RefAt w base b lv L):
  Calls Tryz.prog 61 #[.pointer (some ⟨b,0,none⟩),.int .i64 k] w (FindAns L k w):=by
 obtain⟨a,n,c,rfl,hn,hN⟩:=(h.list.rd qD).val
 have RL:=η (h.list.rd qD)
 have hb:=cO (i:=0) h.head
 simp only[List.getElem?_toArray,List.getElem?_cons_zero]at hb
 have HC:=η (lookup_viewR L k)
 have HR:=η h
 clear h
 go_enter Tryz.func61,Tryz.ntmps61
 go_wp2_with fail
 go_loopw [5] (fun i wr=>∃ j:Nat,j≤n∧i=.int .i64 j∧wr=w∧Hid (∀ (q:Nat) (y:RR),q < j→L[q]?=some y→(y.n == k)=false)) (fun i _=>n - (intOf i).toNat)
 case atStart=>exact⟨0,Nat.zero_le _,rfl,rfl,η fun q y hq=>absurd hq (Nat.not_lt_zero _)⟩
 case round =>
  obtain⟨j,hj,rfl,rfl,HJ⟩:=hrel
  by_cases hlt:(j:Int) < n
  ·obtain⟨x,hx⟩:=zK (xs:=L) (k:=j) (by have:=hN.out;omega)
   have c0:=(HR.out.cells hx).1
   have ix:=fun W=>RL.out.run_at (P:=Tryz.prog) el_area.under el_area.size .i64 (j:Int) (by omega) (by omega) W
   simp only[Int.toNat_natCast]at ix
   have HX:=η hx
   clear hx
   cases hk:(x.n == k) with
   | true =>
    have hk':x.n=k:=by simpa using hk
    go_wp2_with fail
    go_returns
    refine⟨rfl,.inr ?_⟩
    rcases HC.out with ⟨h1,h2⟩|⟨i,y,hy,h1,h2,h3⟩
    ·rw[h2 x (List.mem_of_getElem? HX.out)]at hk;cases hk
    ·have e:i=j:=by
      rcases Nat.lt_trichotomy i j with h|h|h
      ·have:=HJ.out i y h hy
       rw[h1]at this;simp at this
      ·exact h
      ·have:=h3 j x h HX.out
       rw[hk']at this;simp at this
     subst e
     exact⟨i,y,hy,h1,h2,rfl⟩
   | false =>
    have HK:=η hk
    go_wp2_with fail
    go_roundw
    case rel =>
     refine⟨j+1,by omega,by go_num,trivial,η fun q y hq hy=>?_⟩
     rcases Nat.lt_succ_iff_lt_or_eq.1 hq with hq|rfl
     ·exact HJ.out q y hq hy
     ·rw[HX.out]at hy;injection hy with e;subst e;exact HK.out
    case measure=>simp[intOf];omega
  ·have hjn:j=L.length:=by have:=hN.out;omega
   have HJN:=η hjn
   clear hjn
   go_wp2_with fail
   go_returns
   refine⟨rfl,.inl ⟨?_,rfl⟩⟩
   rcases HC.out with ⟨h1,h2⟩|⟨i,y,hy,h1,h2,h3⟩
   ·exact h1
   ·have:=HJ.out i y (by rw[HJN.out];exact(List.getElem?_eq_some_iff.1 hy).1) hy
    rw[h1]at this;simp at this
def WhereAns (L:List RR)(p s:Int)(w:World)(e:Ending)(w':World):Prop :=
 w'=w∧((kS (zV L) p s=none∧e=.returned (.tuple #[.int .i64 (-1),.int .i64 0])) ∨
  ∃ (i:Nat) (x:RR),L[i]?=some x∧x.n=p / 4294967296∧kS (zV L) p s=some (x.A,(p%4294967296).toNat)∧e=.returned (.tuple #[.int .i64 (i:Nat),.int .i64 (p%4294967296)]))
set_option maxHeartbeats 1000000 in
theorem ref_where (base b:Nat)(lv:Value)(L:List RR)(p s:Int)(w:World)(h:RefAt w base b lv L)(hp:0≤p)(hs:0≤s)(hs1:s≤1024)(H:Hid (p≤18446744073709551615)):
  Calls Tryz.prog 150 #[.pointer (some ⟨b,0,none⟩),.int .u64 p,.int .i64 s] w (WhereAns L p s w):=by
 have hq0:0≤p / 4294967296:=by omega
 have hq1:p / 4294967296≤4294967295:=by have:=H.out;omega
 have ho0:0≤p%4294967296:=by omega
 have ho1:p%4294967296≤4294967295:=by omega
 obtain⟨a,n,c,rfl,hn,hN⟩:=(h.list.rd qD).val
 have RL:=η (h.list.rd qD)
 have hb:=cO (i:=0) h.head
 simp only[List.getElem?_toArray,List.getElem?_cons_zero]at hb
 have HR:=η h
 clear h
 go_enter Tryz.func150,Tryz.ntmps150
 go_wp2_with fail
 refine(ref_find base b _ L (p / 4294967296) _ HR.out).mono ?_
 rintro e w1 ⟨rfl,⟨hf,rfl⟩|⟨i,x,hx,hxn,hf,rfl⟩⟩
 ·have HF:=η hf
  clear hf
  go_wp2_with fail
  go_returns
  exact⟨rfl,.inl ⟨by simp[kS,HF.out],rfl⟩⟩
 ·have c1:=(HR.out.cells hx).2.1
  have hlt:i < n:=by rw[hN.out];exact(List.getElem?_eq_some_iff.1 hx).1
  have ix:=fun W=>RL.out.run_at (P:=Tryz.prog) el_area.under el_area.size .i64 (i:Int) (by omega) (by omega) W
  simp only[Int.toNat_natCast]at ix
  have HX:=η hx
  have HXN:=η hxn
  have HF:=η hf
  have hsm:=(HR.out.ok x (List.mem_of_getElem? hx)).2.1
  rw[RR.bv]at c1
  clear hx hxn hf
  have hi0:decide ((i:Int) < 0)=false:=by simp
  by_cases hA:(x.A.bytes.length:Int) < p%4294967296
  ·go_wp2_with fail
   go_returns
   exact⟨rfl,.inl ⟨by simp only[kS,HF.out];rw[if_pos (.inl hA)],rfl⟩⟩
  ·have hA':decide ((x.A.bytes.length:Int) < p%4294967296)=false:=by simpa using hA
   by_cases hB:(x.A.bytes.length:Int) - p%4294967296 < s
   ·go_wp2_with fail
    go_returns
    exact⟨rfl,.inl ⟨by simp only[kS,HF.out];rw[if_pos (.inr hB)],rfl⟩⟩
   ·go_wp2_with fail
    go_returns
    exact⟨rfl,.inr ⟨i,x,HX.out,HXN.out,by simp only[kS,HF.out];rw[if_neg (fun h=>by omega)],rfl⟩⟩
theorem RefAt.open {w:World}{base b:Nat}{lv:Value}{L:List RR}(h:RefAt w base b lv L):∃ a n c,lv=.slice a n c∧n≤9223372036854775807∧Hid (n=L.length)∧Hid (Rd w 4 RR.enc (.slice a n c) L)∧w.cell? ⟨b,0,none⟩=some (.slice a n c):=by
 have R:=h.list.rd qD
 obtain⟨a,n,c,rfl,hn,hN⟩:=R.val
 exact⟨a,n,c,rfl,hn,hN,η R,cO h.head⟩
theorem RefAt.u8 {w:World}{base b:Nat}{lv:Value}{L:List RR}(h:RefAt w base b lv L):∀ q∈zV L,∀ x∈q.2.bytes,0≤x∧x≤255:=by
 intro q hq x hx
 obtain⟨y,hy,rfl⟩:=List.mem_map.1 hq
 exact(h.ok y hy).2.2.1 x hx
theorem put_cut {P:List Bool}{o n:Nat}(h:∀ j,j < n→P[o+j]?=some true):(cutL P o n).contains false=false:=by
 rw[Bool.eq_false_iff]
 intro hc
 obtain⟨i,hi⟩:=List.getElem?_of_mem (List.contains_iff_mem.1 hc)
 rw[cutL_at]at hi
 by_cases hin:i < n
 ·rw[if_pos hin,h i hin]at hi;simp at hi
 ·rw[if_neg hin]at hi;cases hi
theorem put_cut' {P:List Bool}{o n j:Nat}(hj:j < n)(h:P[o+j]?=some false):(cutL P o n).contains false=true :=
 List.contains_iff_mem.2 (List.mem_of_getElem? (i:=j) (by rw[cutL_at,if_pos hj];exact h))
def RStoreAns (base b:Nat)(lv:Value)(L:List RR)(p s n:Int)(w:World)(e:Ending)(w':World):Prop :=
 e=.returned (.int .i64 (yP (zV L) p s n).2)∧Keep (yA b lv L) w w'∧∃ L',RefAt w' base b lv L'∧zV L'=(yP (zV L) p s n).1∧yA b lv L'=yA b lv L
theorem rstore_step {wr:World}{base:Nat}{x:RR}{o k:Nat}{N:Int}(hk:o+k < x.A.bytes.length)(hpl:x.A.put.length=x.A.bytes.length)(hnd:(RR.blocks x).Nodup)
  (HG:Own wr base 5 1 encB x.bv (over x.A.bytes o (zY N k))) (HP:Own wr base 4 1 encP x.pv (over x.A.put o ((zY N k).map fun _=>true))) :
  ∃ y z,wr.cell? (elt x.bv (o+k))=some (.int .u8 y)∧wr.frozen? (elt x.bv (o+k))=false∧(∀ u,(wr.setCell (elt x.bv (o+k)) u).cell? (elt x.pv (o+k))=some (.bool z))∧(∀ u,(wr.setCell (elt x.bv (o+k)) u).frozen? (elt x.pv (o+k))=false) ∧
   (elt x.bv (o+k)).block∈RR.blocks x∧(elt x.pv (o+k)).block∈RR.blocks x ∧
   Own ((wr.setCell (elt x.bv (o+k)) (.int .u8 (N / 256 ^ k%256))).setCell (elt x.pv (o+k)) (.bool false)) base 5 1 encB x.bv (over x.A.bytes o (zY N (k+1))) ∧
   Own ((wr.setCell (elt x.bv (o+k)) (.int .u8 (N / 256 ^ k%256))).setCell (elt x.pv (o+k)) (.bool false)) base 4 1 encP x.pv (over x.A.put o ((zY N (k+1)).map fun _=>true)):=by
 have hl:=jG N k
 obtain⟨y,hy⟩:=zK (xs:=over x.A.bytes o (zY N k)) (k:=o+k) (by rw[jA _ _ _ (by omega)];exact hk)
 obtain⟨z,hz⟩:=zK (xs:=over x.A.put o ((zY N k).map fun _=>true)) (k:=o+k) (by rw[jA _ _ _ (by rw[List.length_map];omega)];omega)
 obtain⟨a1,a2,a3,a4,a5⟩:=HG.at hy
 obtain⟨b1,b2,b3,b4,b5⟩:=HP.at hz
 have m1:(elt x.bv (o+k)).block∈RR.blocks x:=by simp[RR.blocks,a3]
 have m2:(elt x.pv (o+k)).block∈RR.blocks x:=by simp[RR.blocks,b3]
 have hne:(elt x.bv (o+k)).block≠(elt x.pv (o+k)).block:=by
  simp only[RR.blocks,a3,b3]at hnd
  simpa using hnd
 have hP1:∀ u,Own (wr.setCell (elt x.bv (o+k)) u) base 4 1 encP x.pv (over x.A.put o ((zY N k).map fun _=>true)):=fun u=>HP.keep ((Keep.rfl' [(elt x.bv (o+k)).block] wr).setCell (by simp) u) (fun j hj=>by
  rw[b3]at hj;injection hj with hj;subst hj;simpa using fun e=>hne e.symm)
 refine⟨y,!z,a1,a2,fun u=>((hP1 u).at hz).1,fun u=>((hP1 u).at hz).2.1,m1,m2,?_,?_⟩
 ·have h1:=(a5 (N / 256 ^ k%256)).1
  rw[qR,uT _ _ _ _ (by omega),hl]
  exact h1.keep ((Keep.rfl' [(elt x.pv (o+k)).block] _).setCell (by simp) _) (fun j hj=>by
   rw[a3]at hj;injection hj with hj;subst hj;simpa using hne)
 ·have h1:=(((hP1 (.int .u8 (N / 256 ^ k%256))).at hz).2.2.2.2 true).1
  rw[qR,List.map_append,List.map_singleton,uT _ _ _ _ (by rw[List.length_map];omega),List.length_map,hl]
  exact h1
set_option maxHeartbeats 1000000 in
theorem ref_store (base b:Nat)(lv:Value)(L:List RR)(p s n:Int)(w:World)(h:RefAt w base b lv L)(hp:0≤p)(H:Hid (p≤18446744073709551615))(hn:0≤n)(HN:Hid (n≤18446744073709551615)):
  Calls Tryz.prog 109 #[.pointer (some ⟨b,0,none⟩),.int .u64 p,.int .i64 s,.int .u64 n] w (RStoreAns base b lv L p s n w):=by
 obtain⟨a,m,c,rfl,hm,hM,RL,hb⟩:=h.open
 have HM:=η h
 clear h
 cases hz:vU s with
 | false =>
  have HZ:=η hz
  clear hz
  go_enter Tryz.func109,Tryz.ntmps109
  go_wp2_with fail
  refine(ref_fits s _).mono ?_
  rintro e w1 ⟨rfl,rfl⟩
  rw[HZ.out]
  go_wp2_with fail
  go_returns
  exact⟨by simp[yP,HZ.out],Keep.rfl' _ _,L,HM.out,by simp[yP,HZ.out],rfl⟩
 | true =>
  have HZ:=η hz
  have hs8:0≤s∧s≤8:=by
   have:=hz
   simp only[vU,Bool.or_eq_true,beq_iff_eq]at this
   omega
  have hs0:=hs8.1
  have hs1:=hs8.2
  clear hz
  go_enter Tryz.func109,Tryz.ntmps109
  go_wp2_with fail
  refine(ref_fits s _).mono ?_
  rintro e w1 ⟨rfl,rfl⟩
  rw[HZ.out]
  go_wp2_with fail
  refine(ref_where base b _ L p s _ HM.out hp hs8.1 (by omega) H).mono ?_
  rintro e w1 ⟨rfl,⟨hf,rfl⟩|⟨i,x,hx,hxn,hf,rfl⟩⟩
  ·have HF:=η hf
   clear hf
   go_wp2_with fail
   go_returns
   exact⟨by simp[yP,HZ.out,HF.out],Keep.rfl' _ _,L,HM.out,by simp[yP,HZ.out,HF.out],rfl⟩
  ·have HF:=η hf
   have c3:=(HM.out.cells hx).2.2.2
   have hlt:i < m:=by rw[hM.out];exact(List.getElem?_eq_some_iff.1 hx).1
   have ix:=fun W=>RL.out.run_at (P:=Tryz.prog) el_area.under el_area.size .i64 (i:Int) (by omega) (by omega) W
   simp only[Int.toNat_natCast]at ix
   obtain⟨hle,hoo⟩:=tY hp hs8.1 hf
   obtain⟨o,ho⟩:∃ o:Nat,(p%4294967296).toNat=o:=⟨_,rfl⟩
   rw[ho]at hle hoo HF
   rw[← hoo]
   have hmem:=List.mem_of_getElem? hx
   obtain⟨hpl,hsm,hu8,_⟩:=HM.out.ok x hmem
   have ha:=HM.out.rec_apart hmem
   have HX:=η hx
   have HXN:=η hxn
   have HPL:=η hpl
   have HA:=η ha
   clear ho hoo hf hx hxn hpl ha
   have hi0:decide ((i:Int) < 0)=false:=by simp
   cases hfx:x.A.fixed with
   | true =>
    have HFX:=η hfx
    rw[hfx]at c3
    clear hfx
    go_wp2_with fail
    go_returns
    exact⟨by simp[yP,HZ.out,HF.out,HFX.out],Keep.rfl' _ _,L,HM.out,by simp[yP,HZ.out,HF.out,HFX.out],rfl⟩
   | false =>
    have HFX:=η hfx
    rw[hfx]at c3
    clear hfx
    go_wp2_with fail
    go_loopw [11,3] (fun t v wr=>∃ k:Nat,k≤s.toNat∧t=.int .i64 k∧v=.int .u64 (n / 256 ^ k)∧Keep (RR.blocks x) w1 wr∧Hid (Own wr base 5 1 encB x.bv (over x.A.bytes o (zY n k)))∧Hid (Own wr base 4 1 encP x.pv (over x.A.put o ((zY n k).map fun _=>true)))) (fun t _ _=>s.toNat - (intOf t).toNat)
    case atStart=>exact⟨0,Nat.zero_le _,rfl,by simp,Keep.rfl' _ _,by simp only[zY,pJ];exact η (HM.out.bytes x hmem),by simp only[zY,List.map_nil,pJ];exact η (HM.out.put x hmem)⟩
    case round =>
     obtain⟨k,hk,rfl,rfl,hK,HG,HP⟩:=hrel
     have hbk:=cO (i:=0) (hK.obj HM.out.head HA.out.1)
     have hLk:=HM.out.list.keep hK HA.out.2.1
     simp only[List.getElem?_toArray,List.getElem?_cons_zero]at hbk
     obtain⟨-,e1,e2,-⟩:=tR (hLk.rd qD) HX.out
     by_cases hlt':(k:Int) < s
     ·obtain⟨y,z,f1,f2,f3,f4,g1,g2,H1,H2⟩:=rstore_step (base:=base) (o:=o) (k:=k) (N:=n) (by omega) HPL.out HA.out.2.2 HG.out HP.out
      have f5:∀ u,(wr.setCell (elt x.bv (o+k)) u).cell? ⟨b,0,none⟩=some (.slice a m c):=fun u=>by
       have:=cO (i:=0) ((hK.setCell g1 u).obj HM.out.head HA.out.1)
       simpa only[List.getElem?_toArray,List.getElem?_cons_zero]using this
      have f6:∀ u,(wr.setCell (elt x.bv (o+k)) u).cell? ⟨(elt (.slice a m c) (i * 4)).block,(elt (.slice a m c) (i * 4)).off+2,none⟩=some x.pv:=fun u =>
       (tR ((HM.out.list.keep (hK.setCell g1 u) HA.out.2.1).rd qD) HX.out).2.2.1
      have hK2:=(hK.setCell g1 (.int .u8 (n / 256 ^ k%256))).setCell g2 (.bool false)
      have RB:=HG.out.rd (zG _)
      have RP:=HP.out.rd enc_p
      obtain⟨t,ht⟩:∃ t,n / 256 ^ k=t:=⟨_,rfl⟩
      have hp0:(0:Int) < 256 ^ k:=Int.pow_pos (by decide)
      have ht0:0≤t:=by rw[← ht];exact Int.ediv_nonneg hn (Int.le_of_lt hp0)
      have ht1:t≤18446744073709551615:=by
       rw[← ht]
       exact Int.le_trans (Int.ediv_le_self _ hn) HN.out
      have hts:n / 256 ^ (k+1)=t / 256:=by rw[← ht,Int.ediv_ediv_of_nonneg (Int.le_of_lt hp0),Int.pow_succ]
      rw[ht]at H1 H2 hK2 ⊢
      have HTS:=η hts
      have H1':=η H1
      have H2':=η H2
      have HK2:=η hK2
      clear H1 H2 c3 hb hLk hK hK2 HN hts ht hp0 HG HP g1 g2
      rw[RR.bv]at e1 f1 f2 f3 f4 f5 f6 H1' H2' HK2 RB
      rw[RR.pv]at e2 f3 f4 f6 H1' H2' HK2 RP
      rw[HPL.out]at e2 f3 f4 f6 H1' H2' HK2 RP
      have ib:=fun W=>RB.run_at (P:=Tryz.prog) el_u8.under el_u8.size .i64 ((o:Int)+k) (by omega) (by omega) W
      have ip:=fun W=>RP.run_at (P:=Tryz.prog) el_bool.under el_bool.size .i64 ((o:Int)+k) (by omega) (by omega) W
      simp only[Nat.mul_one,Nat.add_zero,show ((o:Int)+k).toNat=o+k from by omega]at ib ip
      clear RB RP
      go_wp2_with fail
      go_roundw
      case rel =>
       exact⟨k+1,by omega,by go_num,by rw[HTS.out],HK2.out,H1',by rw[RR.pv,HPL.out];exact H2'⟩
      case measure=>simp[intOf];omega
     ·have hks:k=s.toNat:=by omega
      have HKS:=η hks
      have HKK:=η hK
      clear hks c3 hLk hK
      go_wp2_with fail
      go_returns
      have eN:=HKS.out
      subst eN
      have hlb:=jG n s.toNat
      have hu:∀ q∈over x.A.bytes o (zY n s.toNat),0≤q∧q≤255:=by
       intro q hq
       simp only[over,List.mem_append]at hq
       rcases hq with (hq|hq)|hq
       ·exact hu8 q (List.mem_of_mem_take hq)
       ·exact tQ _ _ q hq
       ·exact hu8 q (List.mem_of_mem_drop hq)
      have hup:=HM.out.upd hmem (x.A.write o (zY n s.toNat)) rfl (jA _ _ _ (by omega)) (jA _ _ _ (by rw[List.length_map,HPL.out];omega)) hu HKK.out HG.out HP.out
      refine⟨by simp[yP,HZ.out,HF.out,HFX.out],HKK.out.mono (fun j hj=>.inl ?_),uQ L x (x.A.write o (zY n s.toNat)),hup.1,?_,hup.2⟩
      ·simp only[yA,List.mem_cons,List.mem_append,List.mem_flatMap]
       exact .inr (.inr ⟨x,hmem,hj⟩)
      ·rw[viewR_upd];simp[yP,HZ.out,HF.out,HFX.out,HXN.out]
theorem nodup_le:∀ (N:Nat) (l:List Int),l.Nodup→(∀ x∈l,1≤x∧x≤N)→l.length≤N
 | 0,l,_,h=>by
  cases l with
  | nil=>simp
  | cons x l=>have:=h x List.mem_cons_self;omega
 | N+1,l,hn,h=>by
  have h1:(l.erase ((N+1:Nat):Int)).length≤N:=nodup_le N _ (hn.erase _) (fun x hx=>by
   have:=(hn.mem_erase_iff).1 hx
   have h2:=h x this.2
   have h3:x≠((N+1:Nat):Int):=this.1
   omega)
  have h2:=List.length_erase (a:=((N+1:Nat):Int)) (l:=l)
  split at h2<;>omega
theorem RefAt.few {w:World}{base b:Nat}{lv:Value}{L:List RR}(h:RefAt w base b lv L):L.length≤2147483647:=by
 have:=nodup_le 2147483647 (L.map (·.n)) h.uniq (fun x hx=>by
  obtain⟨y,hy,rfl⟩:=List.mem_map.1 hx
  have:=(h.ok y hy).2.2.2
  omega)
 simpa using this
theorem own_not {w:World}{base:Nat}{e:TypeId}{v:Value}{ys P:List Bool}(h:Own w base e 1 (fun x=>[Value.bool x]) v ys)(hP:ys=P.map (!·)):Own w base e 1 encP v P:=by
 subst hP
 show World.ownsRow _ _ _ _ _ _ _
 have h':World.ownsRow _ _ _ _ _ _ _:=h
 rw[qJ,List.map_map,List.length_map]at h'
 rw[qJ]
 exact h'
theorem kH {B:Nat}{w w':World}(h:Below B w w'){k:Nat}{o:Obj}(ho:w.heap[k]?=some o)(hk:k < B):w'.heap[k]?=some o:=(h.block k hk).trans ho
theorem opt_nodup (o:Option Nat):o.toList.Nodup:=by cases o<;>simp
theorem ne_area_mem:119≠83:=by decide
theorem ne_area_u8:119≠5:=by decide
theorem ne_area_bool:119≠4:=by decide
theorem ne_u8_bool:5≠4:=by decide
theorem RefAt.push {w wr w5:World}{base b:Nat}{lv lv':Value}{L:List RR}{x:RR}(h:RefAt w base b lv L)(he:Ext w wr)(hbase:base≤w.heap.size)(hk:Keep lv.ownBlock.toList wr w5)(hmv:∀ k,lv'.ownBlock=some k→lv.ownBlock=some k∨wr.heap.size≤k)
  (hl:Own w5 base 119 4 RR.enc lv' (L++[x])) (hb:Own wr w.heap.size 5 1 encB x.bv x.A.bytes) (hp:Own wr w.heap.size 4 1 encP x.pv x.A.put)
  (ok:x.A.put.length=x.A.bytes.length∧x.A.bytes.length≤1024∧(∀ q∈x.A.bytes,0≤q∧q≤255)∧1≤x.n∧x.n≤2147483647) (hnew:(zV L).lookup x.n=none) :
  RefAt (w5.setCell ⟨b,0,none⟩ lv') base b lv' (L++[x])∧Keep (yA b lv L) w (w5.setCell ⟨b,0,none⟩ lv')∧∀ k∈yA b lv' (L++[x]),k∈yA b lv L∨w.heap.size≤k:=by
 have hblt:=zE h.head
 have h0:=List.nodup_cons.1 h.apart
 have h1:=List.nodup_append.1 h0.2
 have hbF:b ∉ lv.ownBlock.toList:=fun hb=>h0.1 (List.mem_append_left _ hb)
 have hb5:=hk.obj (he.obj h.head) hbF
 have hlb:∀ j,lv'.ownBlock=some j→j≠b:=fun j hj e=>by subst e;exact hl.type_ne' hb5 ne_area_mem hj
 have hkb:Keep [b] w5 (w5.setCell ⟨b,0,none⟩ lv'):=(Keep.rfl' [b] w5).setCell (by simp) _
 have hmem:∀ y∈L,∀ j∈RR.blocks y,j∈L.flatMap RR.blocks:=fun y hy j hj=>List.mem_flatMap.2 ⟨y,hy,hj⟩
 have hlf:∀ y∈L,∀ j∈RR.blocks y,j ∉ lv.ownBlock.toList∧j≠b:=fun y hy j hj=>⟨fun hj'=>h1.2.2 j hj' j (hmem y hy j hj) rfl,fun e=>h0.1 (List.mem_append_right _ (by rw[← e];exact hmem y hy j hj))⟩
 have hllt:∀ j∈lv.ownBlock.toList,j < w.heap.size:=fun j hj=>(h.list.lt (by simpa using hj)).2
 have hxb:∀ j,x.bv.ownBlock=some j→w.heap.size≤j:=fun j hj=>(hb.lt hj).1
 have hxp:∀ j,x.pv.ownBlock=some j→w.heap.size≤j:=fun j hj=>(hp.lt hj).1
 have hx:∀ j∈RR.blocks x,w.heap.size≤j:=by
  intro j hj
  simp only[RR.blocks,List.mem_append,Option.mem_toList]at hj
  rcases hj with hj|hj
  ·exact hxb j hj
  ·exact hxp j hj
 have kb:∀ y∈L,Own w5 base 5 1 encB y.bv y.A.bytes:=fun y hy=>((h.bytes y hy).ext he).keep hk (fun j hj=>(hlf y hy j (by simp[RR.blocks,hj])).1)
 have kp:∀ y∈L,Own w5 base 4 1 encP y.pv y.A.put:=fun y hy=>((h.put y hy).ext he).keep hk (fun j hj=>(hlf y hy j (by simp[RR.blocks,hj])).1)
 have xb:Own w5 base 5 1 encB x.bv x.A.bytes:=(hb.mono hbase).keep hk (fun j hj hj'=>by have:=hllt j hj';have:=hxb j hj;omega)
 have xp:Own w5 base 4 1 encP x.pv x.A.put:=(hp.mono hbase).keep hk (fun j hj hj'=>by have:=hllt j hj';have:=hxp j hj;omega)
 have ab:∀ y∈L++[x],Own w5 base 5 1 encB y.bv y.A.bytes:=fun y hy=>by
  rcases List.mem_append.1 hy with hy|hy
  ·exact kb y hy
  ·rw[List.mem_singleton]at hy;subst hy;exact xb
 have ap:∀ y∈L++[x],Own w5 base 4 1 encP y.pv y.A.put:=fun y hy=>by
  rcases List.mem_append.1 hy with hy|hy
  ·exact kp y hy
  ·rw[List.mem_singleton]at hy;subst hy;exact xp
 have nb:∀ y∈L++[x],∀ j∈RR.blocks y,j≠b:=fun y hy j hj=>by
  rcases List.mem_append.1 hy with hy|hy
  ·exact(hlf y hy j hj).2
  ·rw[List.mem_singleton]at hy;subst hy;have:=hx j hj;omega
 refine⟨⟨?_,h.hb,hl.keep hkb (fun j hj=>by simpa using hlb j hj),fun y hy=>(ab y hy).keep hkb (fun j hj=>by simpa using nb y hy j (by simp[RR.blocks,hj])),fun y hy=>(ap y hy).keep hkb (fun j hj=>by simpa using nb y hy j (by simp[RR.blocks,hj])),?_,?_,?_⟩,?_,?_⟩
 ·have:=heap_setCell_same w5 b 0 _ _ lv' hb5
  simpa using this
 ·rw[List.nodup_cons,List.nodup_append]
  refine⟨?_,opt_nodup _,?_,?_⟩
  ·intro hj
   rcases List.mem_append.1 hj with hj|hj
   ·exact hlb b (by simpa using hj) rfl
   ·obtain⟨y,hy,hj⟩:=List.mem_flatMap.1 hj
    exact nb y hy b hj rfl
  ·rw[List.flatMap_append,List.nodup_append]
   refine⟨h1.2.1,?_,?_⟩
   ·simp only[List.flatMap_cons,List.flatMap_nil,List.append_nil,RR.blocks]
    rw[List.nodup_append]
    refine⟨opt_nodup _,opt_nodup _,?_⟩
    intro j hj k hk' e
    subst e
    exact hb.type_ne hp ne_u8_bool (by simpa using hj) (by simpa using hk')
   ·intro j hj k hk' e
    subst e
    obtain⟨y,hy,hj⟩:=List.mem_flatMap.1 hj
    have h3:=(h.lt j (by simp only[yA,List.mem_cons,List.mem_append];exact .inr (.inr (hmem y hy j hj)))).2
    have h4:=hx j (by simpa using hk')
    omega
  ·intro j hj k hk' e
   subst e
   obtain⟨y,hy,hj'⟩:=List.mem_flatMap.1 hk'
   simp only[RR.blocks,List.mem_append,Option.mem_toList]at hj'
   rcases hj' with hj'|hj'
   ·exact hl.type_ne (ab y hy) ne_area_u8 (by simpa using hj) hj'
   ·exact hl.type_ne (ap y hy) ne_area_bool (by simpa using hj) hj'
 ·intro y hy
  rcases List.mem_append.1 hy with hy|hy
  ·exact h.ok y hy
  ·rw[List.mem_singleton]at hy;subst hy;exact ok
 ·rw[List.map_append,List.nodup_append]
  refine⟨h.uniq,by simp,?_⟩
  intro j hj k hk' e
  obtain⟨y,hy,rfl⟩:=List.mem_map.1 hj
  simp only[List.map_cons,List.map_nil,List.mem_singleton]at hk'
  subst hk'
  exact lookup_none hnew (y.n,y.A) (List.mem_map.2 ⟨y,hy,rfl⟩) e
 ·have hk0:Keep (yA b lv L) w w5:=((Keep.of_ext he).trans hk).mono (fun j hj=>.inl (by simp only[yA,List.mem_cons,List.mem_append];exact .inr (.inl hj)))
  exact hk0.setCell (by simp[yA]) _
 ·intro k hk'
  simp only[yA,List.mem_cons,List.mem_append,List.flatMap_append,List.flatMap_cons,List.flatMap_nil,List.append_nil]at hk' ⊢
  rcases hk' with rfl|hk'|hk'|hk'
  ·exact .inl (.inl rfl)
  ·rcases hmv k (by simpa using hk') with h2|h2
   ·exact .inl (.inr (.inl (by simpa using h2)))
   ·have:=he.size
    exact .inr (by omega)
  ·exact .inl (.inr (.inr hk'))
  ·exact .inr (hx k hk')
def RMakeAns (base b:Nat)(lv:Value)(L:List RR)(n:Int)(xs:List Int)(blank fixed:Bool)(w:World)(e:Ending)(w':World):Prop :=
 e=.returned (.int .i64 (yG (zV L) n xs blank fixed).2)∧Keep (yA b lv L) w w'∧∃ lv' L',RefAt w' base b lv' L'∧zV L'=(yG (zV L) n xs blank fixed).1∧∀ k∈yA b lv' L',k∈yA b lv L∨w.heap.size≤k
set_option maxHeartbeats 1000000 in
theorem ref_make (base b:Nat)(lv:Value)(L:List RR)(n:Int)(v:Value)(xs:List Int)(blank fixed:Bool)(w:World)(h:RefAt w base b lv L)(hbase:base≤w.heap.size)(hv:Sl w .u8 v xs)(hu:∀ x∈xs,0≤x∧x≤255):
  Calls Tryz.prog 33 #[.pointer (some ⟨b,0,none⟩),.int .i64 n,v,.bool blank,.bool fixed] w (RMakeAns base b lv L n xs blank fixed w):=by
 obtain⟨a,m,c,rfl,hm,hM,RL,hb⟩:=h.open
 obtain⟨va,vn,vc,rfl,hvn,hVN⟩:=hv.val
 have HV:=η hv
 have HU:=η hu
 have HR:=η h
 clear hv hu h
 by_cases hbad:n < 1∨2147483647 < n
 ·have hc:(((zV L).lookup n).isSome=true∨n < 1∨2147483647 < n):=.inr hbad
  have HC:=η hc
  clear hc
  rcases hbad with hs|hs
  all_goals
   go_enter Tryz.func33,Tryz.ntmps33
   go_wp2_with fail
   go_returns
   exact⟨by simp only[yG,HC.out,if_true];rfl,Keep.rfl' _ _,_,L,HR.out,by simp only[yG,HC.out,if_true],fun k hk=>.inl hk⟩
 have hn1:1≤n:=by omega
 have hn2:n≤2147483647:=by omega
 clear hbad
 go_enter Tryz.func33,Tryz.ntmps33
 go_wp2_with fail
 refine(ref_find base b _ L n _ HR.out).mono ?_
 rintro e w1 ⟨rfl,⟨hf,rfl⟩|⟨i,x,hx,hxn,hf,rfl⟩⟩
 case inr =>
  have HF:=η hf
  have hi0:decide ((0:Int)≤i)=true:=by simp
  clear hf hx hxn
  go_wp2_with fail
  go_returns
  have hc:(((zV L).lookup n).isSome=true∨n < 1∨2147483647 < n):=.inl (by rw[HF.out];rfl)
  exact⟨by simp only[yG,hc,if_true];rfl,Keep.rfl' _ _,_,L,HR.out,by simp only[yG,hc,if_true],fun k hk=>.inl hk⟩
 have hc:¬ (((zV L).lookup n).isSome=true∨n < 1∨2147483647 < n):=by rw[hf];simp;omega
 have HC:=η hc
 have HF:=η hf
 clear hf hc
 by_cases hlong:(1024:Int) < vn
 ·go_wp2_with fail
  go_returns
  have hl:1024 < xs.length:=by have:=hVN.out;omega
  exact⟨by simp only[yG,HC.out,hl,if_true,if_false];rfl,Keep.rfl' _ _,_,L,HR.out,by simp only[yG,HC.out,hl,if_true,if_false],fun k hk=>.inl hk⟩
 ·have hl:¬ 1024 < xs.length:=by have:=hVN.out;omega
  have HL:=η hl
  have hxw:=(Ext.rfl' w1).alloc' (.cells #[] 5)
  clear hl
  go_wp2_with (at_builtin;refine xM el_u8 (zG .u8) rfl _ _ rfl rfl (Own.made w1 w1.heap.size _ _ _ rfl (Nat.le_refl _)) rfl (ys:=xs) ?q1 ?q2 ?q3 ?q4)
  case q1=>exact HV.out.ext hxw
  case q2=>exact⟨by have:=HL.out;simp;omega,by have:=HL.out;simp;omega⟩
  case q3=>simp
  intro bv w2 hown hgrow hbel
  have HO:=η (show Own w2 w1.heap.size 5 1 encB bv xs by simpa using hown)
  have hx2:Ext w1 w2:=hbel _ _ hxw (Nat.le_refl _)
  clear hown hgrow hbel hxw
  obtain⟨ba,bn,bc,rfl,hbn,hBN⟩:=(HO.out.rd (zG _)).val
  go_wp2_with fail
  go_loopw [12] (fun i wr=>∃ (j:Nat) (pa:Option Addr) (pn pc:Nat),j≤vn∧i=.int .i64 j∧Ext w2 wr∧Hid (wr.heap[w2.heap.size]?=some (.cells #[.int .i64 n,.slice ba bn bc,.slice pa pn pc,.bool fixed] 119 (0,0)))∧Hid (Own wr (w2.heap.size+1) 4 1 (fun x=>[Value.bool x]) (.slice pa pn pc) (List.replicate j blank))) (fun i _=>vn - (intOf i).toNat)
  case atStart=>exact⟨0,none,0,0,Nat.zero_le _,rfl,(Ext.rfl' w2).alloc' _,η (zD _ _ rfl),η (Own.nil _ _ _ _ _)⟩
  case round =>
   obtain⟨j,pa,pn,pc,hj,rfl,hwr,HX,HP⟩:=hrel
   have c2:=cO (i:=2) HX.out
   simp only[gA,gB,gC]at c2
   have hxlt:w2.heap.size < wr.heap.size:=zE HX.out
   by_cases hlt:(j:Int) < vn
   ·have hal:=(Ext.rfl' wr).alloc' (.cells #[.bool blank] 4)
    have c2':=hal.cellOf c2
    go_wp2_with (at_builtin;refine xM el_bool xU rfl _ _ rfl rfl (HP.out.alloc _) rfl (ys:=[blank]) ?r1 ?r2 ?r3 ?r4)
    case r1=>exact(Own.lit xU (base:=0) (w:=wr) [blank] rfl rfl (Nat.zero_le _) (by simp[maxLen])).rd xU
    case r2=>simp;omega
    case r3=>simp;omega
    intro pv w5 hown hgrow hbel
    have HB5:=η (hbel (w2.heap.size+1) wr ((Below.refl _ _).alloc (by omega) _) (Nat.le_refl _))
    have HX5:=η (kH HB5.out HX.out (by omega))
    have HO5:=η hown
    clear hown hgrow hbel
    obtain⟨qa,qn,qc,rfl,hqn,hQN⟩:=(HO5.out.rd xU).val
    have d2:=cO (i:=2) HX5.out
    have d3:=zA (i:=2) HX5.out
    simp only[gA,gB,gC]at d2
    have HS:=η (heap_setCell_same w5 w2.heap.size 2 _ _ (.slice qa qn qc) HX5.out)
    go_wp2_with fail
    go_roundw
    case rel =>
     refine⟨j+1,qa,qn,qc,by omega,by go_num,?_,η (by simpa using HS.out),η ?_⟩
     ·exact(hwr.trans (HB5.out.mono (by omega))).setCell (Nat.le_refl _) _
     ·rw[List.replicate_succ']
      exact Own.other HO5.out (by simp) _
    case measure=>simp[intOf];omega
   ·have hjn:j=vn:=by omega
    have HJ:=η hjn
    clear hjn
    obtain⟨c0,c1⟩:=κ2 HX.out;have c3:=cO (i:=3) HX.out;simp only[gA,gB,gC]at c3
    have hbw:=(hx2.trans' hwr).cellOf hb
    go_wp2_with fail
    have hpn:=HP.out.len
    rw[List.length_replicate]at hpn
    have hnew:(.cells #[.int .i64 n,.slice ba bn bc,.slice pa pn pc,.bool fixed] 119:Obj)=.cells (([⟨n,ba,bc,pa,pc,⟨xs,xs.map fun _=>!blank,fixed⟩⟩]:List RR).flatMap RR.enc).toArray 119:=by
     have e1:bn=xs.length:=hBN.out
     have e2:pn=(xs.map fun _=>!blank).length:=by have:=HJ.out;have:=hVN.out;simp;omega
     rw[e1,e2];rfl
    have HOL:=η (HR.out.list.ext (hx2.trans' hwr))
    have HNEW:=η hnew
    have hfew:L.length≤2147483647:=HR.out.few
    have HPN:=η hpn
    clear hnew hpn
    have HB:=η ((hx2.trans' hwr).obj HR.out.head)
    have hsz1:w1.heap.size≤w2.heap.size:=hx2.size
    have hbF:b ∉ (Value.slice a m c).ownBlock.toList:=fun hb=>(List.nodup_cons.1 HR.out.apart).1 (List.mem_append_left _ hb)
    have hxF:w2.heap.size ∉ (Value.slice a m c).ownBlock.toList:=fun hb=>by
     have:=(HR.out.list.lt (by simpa using hb)).2
     omega
    have HY:Hid (Rd (wr.alloc (.cells #[.int .i64 n,.slice ba bn bc,.slice pa pn pc,.bool fixed] 119)) 4 RR.enc (.slice (some ⟨wr.heap.size,0,none⟩) 1 1) [⟨n,ba,bc,pa,pc,⟨xs,xs.map fun _=>!blank,fixed⟩⟩]):=η (by
     rw[HNEW.out]
     exact(Own.lit qD (base:=0) (w:=wr) _ rfl rfl (Nat.zero_le _) (by simp[maxLen])).rd qD)
    have HF5:Hid (∀ u':World,(wr.alloc (.cells #[.int .i64 n,.slice ba bn bc,.slice pa pn pc,.bool fixed] 119)).grownBy u' (Value.slice a m c).ownBlock→Keep (Value.slice a m c).ownBlock.toList wr u' ∧
      (u'.cell? ⟨b,0,none⟩=some (.slice a m c)∧u'.frozen? ⟨b,0,none⟩=false∧u'.cell? ⟨w2.heap.size,0,none⟩=some (.int .i64 n)∧u'.cell? ⟨w2.heap.size,1,none⟩=some (.slice ba bn bc)∧u'.cell? ⟨w2.heap.size,2,none⟩=some (.slice pa pn pc)∧u'.cell? ⟨w2.heap.size,3,none⟩=some (.bool fixed))) :=
     η fun u' hg=>by
      have hk:Keep (Value.slice a m c).ownBlock.toList wr u':=(Keep.of_ext ((Ext.rfl' wr).alloc' _)).trans (yB hg)
      exact⟨hk,cO (hk.obj HB.out hbF),zA (hk.obj HB.out hbF),cO (hk.obj HX.out hxF),cO (hk.obj HX.out hxF),cO (hk.obj HX.out hxF),cO (hk.obj HX.out hxF)⟩
    have hfz:=zA (i:=0) HB.out
    have hfz2:(wr.alloc (.cells #[.int .i64 n,.slice ba bn bc,.slice pa pn pc,.bool fixed] 119)).drew.frozen? ⟨b,0,none⟩=false:=zA (i:=0) (zB (.cells #[.int .i64 n,.slice ba bn bc,.slice pa pn pc,.bool fixed] 119) HB.out)
    have hbw2:base≤wr.heap.size:=by omega
    have hbw4:(wr.alloc (.cells #[.int .i64 n,.slice ba bn bc,.slice pa pn pc,.bool fixed] 119)).drew.cell? ⟨b,0,none⟩=some (.slice a m c):=cO (i:=0) (zB (.cells #[.int .i64 n,.slice ba bn bc,.slice pa pn pc,.bool fixed] 119) HB.out)
    have hbx0:b≠w2.heap.size:=by have:=zE HR.out.head;omega
    go_region_law
     ((apply qT el_area qD (xs:=L) (ys:=[⟨n,ba,bc,pa,pc,⟨xs,xs.map fun _=>!blank,fixed⟩⟩]) (base:=base);(case hw=>rfl);(case ho=>rfl);(case hs=>rfl);(case hown=>exact(HOL.out.alloc _).drew);(case hx=>rfl);(case hy=>exact HY.out.ext (Ext.drew' (Ext.rfl' _)));(case hbytes=>simp;omega);(case hbase=>simp;omega);intro lv w5 hown5 hgrow5 hmv5;obtain⟨hk5,d0,d1,d2,d3,d4,d5⟩:=HF5.out w5 ⟨hgrow5.os,hgrow5.tape,hgrow5.output,hgrow5.size,hgrow5.block⟩;have HO5:=η hown5;have hmv6:Hid (∀ k,lv.ownBlock=some k→(Value.slice a m c).ownBlock=some k∨wr.heap.size≤k):=η (fun k hk=>(hmv5 k hk).imp id (fun h=>by simp at h;omega));clear hown5 hgrow5 hmv5;obtain⟨la,ln,lc,rfl,hln,hLN⟩:=(HO5.out.rd qD).val;have hbx:b≠w2.heap.size:=hbx0;have d2':=(World.cell?_setCell_far w5 ⟨b,0,none⟩ ⟨w2.heap.size,0,none⟩ (.slice la ln lc) hbx).trans d2;have d3':=(World.cell?_setCell_far w5 ⟨b,0,none⟩ ⟨w2.heap.size,1,none⟩ (.slice la ln lc) hbx).trans d3;have d4':=(World.cell?_setCell_far w5 ⟨b,0,none⟩ ⟨w2.heap.size,2,none⟩ (.slice la ln lc) hbx).trans d4;have d5':=(World.cell?_setCell_far w5 ⟨b,0,none⟩ ⟨w2.heap.size,3,none⟩ (.slice la ln lc) hbx).trans d5))
    all_goals
     go_wp2_with fail
     go_returns
     have e2:pn=(xs.map fun _=>!blank).length:=by have:=HJ.out;have:=hVN.out;have:=HPN.out;simp;omega
     have e3:xs.length≤1024:=by have:=HL.out;omega
     have hpush:=RefAt.push (x:=⟨n,ba,bc,pa,pc,⟨xs,xs.map fun _=>!blank,fixed⟩⟩) HR.out (hx2.trans' hwr) hbase hk5 hmv6.out HO5.out
      (by have:=HO.out.ext hwr;simp only[RR.bv];rw[← hBN.out];exact this)
      (by
       simp only[RR.pv]
       rw[← e2]
       refine(own_not (HP.out.mono (by omega)) ?_)
       rw[List.map_map,HJ.out,hVN.out]
       simp only[Function.comp_def,Bool.not_not]
       rw[List.map_const'])
      ⟨by simp,e3,HU.out,hn1,hn2⟩ HF.out
     refine⟨by simp only[yG,HC.out,HL.out,if_false];rfl,hpush.2.1,_,_,hpush.1,?_,hpush.2.2⟩
     simp only[yG,HC.out,HL.out,if_false]
     simp[zV]
end Go.Proofs.YtppefchjoodgnaaGreat
