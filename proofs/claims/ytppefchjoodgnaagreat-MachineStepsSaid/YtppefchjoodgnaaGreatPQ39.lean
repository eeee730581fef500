import Derived.Test.YtppefchjoodgnaaGreatPQ38
import Derived.Test.YtppefchjoodgnaaGreatPQ35
import Derived.Test.YtppefchjoodgnaaGreatPQ37
import Derived.Test.YtppefchjoodgnaaGreatPQ32
set_option linter.unusedSimpArgs false
set_option linter.unusedVariables false
namespace Go.Proofs.YtppefchjoodgnaaGreat
open Go.RowKit
theorem qU {α:Type}{w:World}{sz:Nat}{enc:α→List Value}{a:Option Addr}{n c:Nat}{xs:List α}(h:Rd w sz enc (.slice a n c) xs)(N m:Nat)(hm:min (n:Int) (N:Int)=(m:Int)):Rd w sz enc (cutV (.slice a n c) 0 m sz) (xs.take N):=by
 have hn:=h.num
 have hmn:m≤n:=by omega
 have:=h.cut (l:=0) (m:=m) (Nat.zero_le _) (by omega)
 rw[List.drop_zero,Nat.sub_zero]at this
 by_cases h1:n≤N
 ·have e:m=n:=by omega
  rw[List.take_of_length_le (by omega:xs.length≤N)]
  rw[e,hn,List.take_length,← hn]at this
  rw[e]
  exact this
 ·have e:m=N:=by omega
  rw[e]at this ⊢
  exact this
set_option maxHeartbeats 1000000 in
theorem l11_few (v:Value)(L:List Ins)(w:World)(h:Rd w 5 Ins.enc v L):Calls Tryz.prog 23 #[v] w fun e w'=>∃ v',e=.returned v'∧Rd w' 5 Ins.enc v' (L.take 520)∧Ext w w':=by
 obtain⟨a,n,c,rfl,hn,hN⟩:=h.val
 have HD:=η h
 obtain⟨m,hm⟩:∃ m:Nat,min (n:Int) 520=(m:Int):=⟨(min (n:Int) 520).toNat,by omega⟩
 have c1:=fun W=>HD.out.run_cut_h (P:=Tryz.prog) el_ins.under el_ins.size .i64 (m:Int) (by omega) (by omega) W
 have E:=η (qU HD.out 520 m (by simpa using hm))
 simp only[Int.toNat_natCast]at c1
 clear h
 go_enter Tryz.func23,Tryz.ntmps23
 go_wp2_with fail
 go_returns
 exact⟨_,rfl,E.out,by (repeat (first|exact xE0 _|assumption|refine xE1 ?_ _|refine xE2 ?_|refine xE3 ?_ _|refine xE4 ?_ (by assumption)))⟩
def itsN (l:List (List Int×List Int)):Nat→List (List Int×List Int)
 | 0=>[]
 | j+1=>match l[j]? with
  | some p=>if j < 20∧p.1.length≤80∧p.2.length≤80 then itsN l j++[p] else itsN l j
  | none=>itsN l j
theorem itsN_in {l:List (List Int×List Int)}:∀ (n:Nat),∀ p∈itsN l n,p∈l
 | 0,p,h=>by simp[itsN]at h
 | j+1,p,h=>by
  rw[itsN]at h
  cases hp:l[j]? with
  | none=>rw[hp]at h;exact itsN_in j p h
  | some q =>
   rw[hp]at h
   simp only at h
   split at h
   ·rcases List.mem_append.1 h with h|h
    ·exact itsN_in j p h
    ·rw[List.mem_singleton]at h;subst h;exact List.mem_of_getElem? hp
   ·exact itsN_in j p h
def envS (e:EnvD):EnvD:=⟨e.ctx.take 100,e.defs.take 10,(e.items.take 10).map (fun l=>itsN l l.length),e.draws.take 100⟩
theorem el_rows2:El Tryz.prog 25 34 1 24 (.slice none 0 0):=⟨Tryz.underlying25,by kernel_rfl,rfl,by decide,fun _=>by kernel_rfl⟩
theorem ne_item_rows:36≠34:=by decide
def RowOk (w0 w:World)(lo:Nat)(row:SV)(l:List (List Int×List Int)):Prop:=∃ I:List IT,Own w lo 36 2 IT.enc row.v I∧(∀ y∈I,Sl w0 .u8 y.kv y.key∧Sl w0 .u8 y.vv y.val)∧I.map (fun x=>(x.key,x.val))=l
structure OutE (w0 w:World)(e:EnvD)(q:Nat)(cv dv rv:Value)(ia:Option Addr)(k ic:Nat)(rows:List SV):Prop where
 ext:Ext w0 w
 box:w.heap[q]?=some (yL cv dv (.slice ia k ic) rv)
 own:Own w (q+1) 34 1 encW (.slice ia k ic) rows
 each:∀ (j:Nat) row l,rows[j]?=some row→e.items[j]?=some l→RowOk w0 w (q+1) row (itsN l l.length)
section
variable {w0 w w' w5 wc:World} {e:EnvD} {q:Nat} {cv dv rv:Value} {ia:Option Addr} {k ic:Nat} {rows:List SV}
theorem RowOk.ext {lo:Nat}{row:SV}{l:List (List Int×List Int)}(h:RowOk w0 w lo row l)(he:Ext w w'):RowOk w0 w' lo row l:=by
 obtain⟨I,a,b,c⟩:=h
 exact⟨I,a.ext he,b,c⟩
theorem OutE.push {r:SV}{l:List (List Int×List Int)}{a5:Option Addr}{c5:Nat}{o:Obj}(h:OutE w0 w e q cv dv rv ia k ic rows)(he:Ext w wc)(hr:RowOk w0 wc (q+1) r (itsN l l.length))(hl:e.items[rows.length]?=some l)(hq:w0.heap.size≤q)(hg:(wc.alloc o).grownBy w5 (Value.slice ia k ic).ownBlock)(hown:Own w5 (q+1) 34 1 encW (.slice a5 (k+1) c5) (rows++[r])):
  OutE w0 (w5.setCell ⟨q,2,none⟩ (.slice a5 (k+1) c5)) e q cv dv rv a5 (k+1) c5 (rows++[r]):=by
 have hA:Ext w (wc.alloc o):=he.alloc' o
 have hg2:=yB hg
 have hk:Keep (Value.slice ia k ic).ownBlock.toList w w5:=(Keep.of_ext hA).trans hg2
 have hlo:∀ j∈(Value.slice ia k ic).ownBlock.toList,q+1≤j:=fun j hj=>(h.own.lt (by simpa using hj)).1
 have hE5:Ext w0 w5:=hk.below h.ext h.ext.size (fun j hj=>by have:=hlo j hj;omega)
 have hbx:=hk.obj h.box (fun hj=>by have:=hlo _ hj;omega)
 have hlt:(⟨q,2,none⟩:Addr).block < q+1:=Nat.lt_succ_self q
 have hrow:∀ {row:SV} {l':List (List Int×List Int)},RowOk w0 (wc.alloc o) (q+1) row l'→RowOk w0 (w5.setCell ⟨q,2,none⟩ (.slice a5 (k+1) c5)) (q+1) row l':=by
  rintro row l' ⟨I,a,b,c⟩
  exact⟨I,(a.keep hg2 (fun j hj hj'=>a.type_ne (h.own.ext hA) ne_item_rows hj (by simpa using hj'))).other hlt _,b,c⟩
 refine⟨hE5.setCell hq _,?_,hown.other hlt _,fun j row l' hj hl'=>?_⟩
 ·have:=heap_setCell_same w5 q 2 _ _ (.slice a5 (k+1) c5) hbx
  rw[this]
  simp
 ·by_cases hjl:j < rows.length
  ·rw[List.getElem?_append_left hjl]at hj
   exact hrow ((h.each j row l' hj hl').ext hA)
  ·have hj2:j=rows.length:=by
    have:=(List.getElem?_eq_some_iff.1 hj).1
    rw[List.length_append,List.length_singleton]at this
    omega
   subst hj2
   rw[List.getElem?_append_right (Nat.le_refl _),Nat.sub_self]at hj
   obtain rfl:r=row:=by simpa using hj
   rw[hl]at hl'
   injection hl' with hl'
   subst hl'
   exact hrow (hr.ext ((Ext.rfl' wc).alloc' o))
theorem OutE.done (h:OutE w0 w e q cv dv rv ia k ic rows)(hk:rows.length=min 10 e.items.length)(hib:∀ l∈e.items,∀ p∈l,∀ x∈p.2,0≤x∧x≤255)(hub:∀ x∈e.ctx,0≤x∧x≤255)(hc:Sl w0 .u8 cv (e.ctx.take 100))(hd:Rd w0 4 TDef.enc dv (e.defs.take 10))(hr:Sl w0 .u64 rv (e.draws.take 100)):EnvR w (envS e) cv dv (.slice ia k ic) rv rows:=by
 refine⟨hc.ext h.ext,fun x hx=>hub x (List.mem_of_mem_take hx),hd.ext h.ext,hr.ext h.ext,h.own.rd tF,by simp[envS,hk],fun i row l hi hl=>?_,fun l hl p hp x hx=>?_⟩
 ·simp only[envS,List.getElem?_map,Option.map_eq_some_iff]at hl
  obtain⟨l0,hl0,rfl⟩:=hl
  have hl1:e.items[i]?=some l0:=by
   rw[List.getElem?_take]at hl0
   split at hl0
   ·exact hl0
   ·cases hl0
  obtain⟨I,a,b,c⟩:=h.each i row l0 hi hl1
  exact⟨I,a.rd vQ,fun x hx=>⟨(b x hx).1.ext h.ext,(b x hx).2.ext h.ext⟩,c⟩
 ·simp only[envS,List.mem_map]at hl
  obtain⟨l0,hl0,rfl⟩:=hl
  exact hib l0 (List.mem_of_mem_take hl0) p (itsN_in _ p hp) x hx
end
def EnvA (e:EnvD)(w:World)(r:Ending)(w':World):Prop:=∃ cv dv iv rv rows,r=.returned (.agg #[cv,dv,iv,rv])∧EnvR w' (envS e) cv dv iv rv rows∧Ext w w'
def EnvA2 (d0:Value)(e:EnvD)(w:World)(r:Ending)(w':World):Prop:=∃ cv dv iv rv rows,r=.returned (.agg #[cv,dv,iv,rv])∧EnvR w' (envS e) cv dv iv rv rows∧Ext w w'∧∀ W,Rd W 4 TDef.enc d0 e.defs→Rd W 4 TDef.enc dv (e.defs.take 10)
set_option maxHeartbeats 1000000 in
theorem l11_few2 (v:Value)(L:List Ins)(w:World)(h:Rd w 5 Ins.enc v L):Calls Tryz.prog 23 #[v] w fun e w'=>∃ v',e=.returned v'∧Rd w' 5 Ins.enc v' (L.take 520)∧Ext w w'∧∀ W,Rd W 5 Ins.enc v L→Rd W 5 Ins.enc v' (L.take 520):=by
 obtain⟨a,n,c,rfl,hn,hN⟩:=h.val
 have HD:=η h
 obtain⟨m,hm⟩:∃ m:Nat,min (n:Int) 520=(m:Int):=⟨(min (n:Int) 520).toNat,by omega⟩
 have c1:=fun W=>HD.out.run_cut_h (P:=Tryz.prog) el_ins.under el_ins.size .i64 (m:Int) (by omega) (by omega) W
 have E:=η (fun W (h:Rd W 5 Ins.enc (.slice a n c) L)=>qU h 520 m (by simpa using hm))
 simp only[Int.toNat_natCast]at c1
 clear h
 go_enter Tryz.func23,Tryz.ntmps23
 go_wp2_with fail
 go_returns
 exact⟨_,rfl,E.out _ HD.out,by (repeat (first|exact xE0 _|assumption|refine xE1 ?_ _|refine xE2 ?_|refine xE3 ?_ _|refine xE4 ?_ (by assumption))),E.out⟩
abbrev envZ:Obj:=.cells #[.slice none 0 0,.slice none 0 0,.slice none 0 0,.slice none 0 0] 28 (0,0)
theorem set4_same {w:World}{B:Nat}{t:TypeId}{a0 a1 a2 a3:Value}(h:w.heap[B]?=some (.cells #[a0,a1,a2,a3] t (0,0)))(v0 v1 v2 v3:Value):
  ((((w.setCell ⟨B,0,none⟩ v0).setCell ⟨B,1,none⟩ v1).setCell ⟨B,2,none⟩ v2).setCell ⟨B,3,none⟩ v3).heap[B]?=some (.cells #[v0,v1,v2,v3] t (0,0)):=by
 have h1:=heap_setCell_same w B 0 _ _ v0 h
 have h2:=heap_setCell_same _ B 1 _ _ v1 h1
 have h3:=heap_setCell_same _ B 2 _ _ v2 h2
 have h4:=heap_setCell_same _ B 3 _ _ v3 h3
 simpa using h4
theorem OutE.set4 {w0 w:World}{e:EnvD}{q B:Nat}{cv dv rv:Value}{ia:Option Addr}{k ic:Nat}{rows:List SV}(h:OutE w0 w e q cv dv rv ia k ic rows)(hB:w0.heap.size≤B∧B < q)(hib:∀ l∈e.items,∀ p∈l,∀ x∈p.2,0≤x∧x≤255)(hub:∀ x∈e.ctx,0≤x∧x≤255)(hc:Sl w0 .u8 cv (e.ctx.take 100))(hd:Rd w0 4 TDef.enc dv (e.defs.take 10))(hr:Sl w0 .u64 rv (e.draws.take 100))(hk:rows.length=min 10 e.items.length)(v0 v1 v2 v3:Value):
  EnvR ((((w.setCell ⟨B,0,none⟩ v0).setCell ⟨B,1,none⟩ v1).setCell ⟨B,2,none⟩ v2).setCell ⟨B,3,none⟩ v3) (envS e) cv dv (.slice ia k ic) rv rows∧Ext w0 ((((w.setCell ⟨B,0,none⟩ v0).setCell ⟨B,1,none⟩ v1).setCell ⟨B,2,none⟩ v2).setCell ⟨B,3,none⟩ v3):=by
 have hlt:∀ i:Nat,(⟨B,i,none⟩:Addr).block < q+1:=fun i=>Nat.lt_succ_of_lt hB.2
 have hE:Ext w0 ((((w.setCell ⟨B,0,none⟩ v0).setCell ⟨B,1,none⟩ v1).setCell ⟨B,2,none⟩ v2).setCell ⟨B,3,none⟩ v3):=(((h.ext.setCell hB.1 _).setCell hB.1 _).setCell hB.1 _).setCell hB.1 _
 have hne:q≠B:=by omega
 refine⟨OutE.done (q:=q) ⟨hE,?_,(((h.own.other (hlt 0) _).other (hlt 1) _).other (hlt 2) _).other (hlt 3) _,fun j row l hj hl=>?_⟩ hk hib hub hc hd hr,hE⟩
 ·rw[heap_setCell_other _ _ _ _ hne,heap_setCell_other _ _ _ _ hne,heap_setCell_other _ _ _ _ hne,heap_setCell_other _ _ _ _ hne]
  exact h.box
 ·obtain⟨I,a,b,c⟩:=h.each j row l hj hl
  exact⟨I,(((a.other (hlt 0) _).other (hlt 1) _).other (hlt 2) _).other (hlt 3) _,b,c⟩
set_option maxRecDepth 20000 in
set_option maxHeartbeats 8000000 in
theorem l11_env2 (cv dv iv rv:Value)(rows:List SV)(e:EnvD)(w:World)(he:EnvR w e cv dv iv rv rows):Calls Tryz.prog 24 #[.agg #[cv,dv,iv,rv]] w (EnvA2 dv e w):=by
 have HE:=η he
 obtain⟨ca,cn,cc,rfl,hcn,hCN⟩:=he.ctx.val
 obtain⟨da,dn,dc,rfl,hdn,hDN⟩:=he.defs.val
 obtain⟨iav,inn,icv,rfl,hin,hIN⟩:=he.rowsR.val
 obtain⟨ra,rn,rc,rfl,hrn,hRN⟩:=he.draws.val
 have hlen:=η he.len
 obtain⟨m1,hm1⟩:∃ m:Nat,min (cn:Int) 100=(m:Int):=⟨(min (cn:Int) 100).toNat,by omega⟩
 obtain⟨m2,hm2⟩:∃ m:Nat,min (dn:Int) 10=(m:Int):=⟨(min (dn:Int) 10).toNat,by omega⟩
 obtain⟨m3,hm3⟩:∃ m:Nat,min (rn:Int) 100=(m:Int):=⟨(min (rn:Int) 100).toNat,by omega⟩
 have c1:=fun W=>he.ctx.run_cut_h (P:=Tryz.prog) el_u8.under el_u8.size .i64 (m1:Int) (by omega) (by omega) W
 have c2:=fun W=>he.defs.run_cut_h (P:=Tryz.prog) el_def.under el_def.size .i64 (m2:Int) (by omega) (by omega) W
 have c3:=fun W=>he.draws.run_cut_h (P:=Tryz.prog) el_u64.under el_u64.size .i64 (m3:Int) (by omega) (by omega) W
 have t1:=qU he.ctx 100 m1 (by simpa using hm1)
 have t2:=qU he.defs 10 m2 (by simpa using hm2)
 have t3:=qU he.draws 100 m3 (by simpa using hm3)
 simp only[Int.toNat_natCast]at c1 c2 c3
 obtain⟨a1,n1,d1,hv1,-,-⟩:=t1.val
 obtain⟨a2,n2,d2,hv2,-,-⟩:=t2.val
 obtain⟨a3,n3,d3,hv3,-,-⟩:=t3.val
 rw[hv1]at c1 t1
 rw[hv2]at c2 t2
 rw[hv3]at c3 t3
 have HCL:Hid (∀ W,Rd W 4 TDef.enc (.slice da dn dc) e.defs→Rd W 4 TDef.enc (.slice a2 n2 d2) (e.defs.take 10)):=η (fun W hD=>by have:=qU hD 10 m2 (by simpa using hm2);rwa[hv2]at this)
 have HT1:=η t1
 have HT2:=η t2
 have HT3:=η t3
 clear he t1 t2 t3 hv1 hv2 hv3
 go_enter Tryz.func24,Tryz.ntmps24
 go_upto_region 1 with fail
 have HB0:=η (zB envZ (zD w (yL (.slice ca cn cc) (.slice da dn dc) (.slice iav inn icv) (.slice ra rn rc)) rfl))
 have HZ0:=η (zD (w.alloc (yL (.slice ca cn cc) (.slice da dn dc) (.slice iav inn icv) (.slice ra rn rc))) envZ (k:=w.heap.size+1) (by simp))
 have HX0:Hid (Ext w ((w.alloc (yL (.slice ca cn cc) (.slice da dn dc) (.slice iav inn icv) (.slice ra rn rc))).alloc envZ)):=η (by (repeat (first|exact xE0 _|assumption|refine xE1 ?_ _|refine xE2 ?_|refine xE3 ?_ _|refine xE4 ?_ (by assumption))))
 simp only[yL,envZ]at HB0 HZ0 HX0
 generalize hF:(w.alloc (.cells #[.slice ca cn cc,.slice da dn dc,.slice iav inn icv,.slice ra rn rc] 28 (0,0))).alloc (.cells #[.slice none 0 0,.slice none 0 0,.slice none 0 0,.slice none 0 0] 28 (0,0))=wa at HB0 HZ0 HX0 ⊢
 have hza:=zE HZ0.out
 have HSS:Hid (∀ W,Ext wa W→W.cell? ⟨w.heap.size,0,none⟩=some (.slice ca cn cc)∧W.cell? ⟨w.heap.size,1,none⟩=some (.slice da dn dc)∧W.cell? ⟨w.heap.size,3,none⟩=some (.slice ra rn rc)):=η (fun W he=>⟨cO (he.obj HB0.out),cO (he.obj HB0.out),cO (he.obj HB0.out)⟩)
 clear hF
 obtain⟨s1,s2,s3⟩:=HSS.out wa (Ext.rfl' _)
 go_cut [3] from 9 to 31 (fun v wx=>∃ q,v=.pointer (some ⟨q,0,none⟩)∧Hid (wa.heap.size≤q∧Ext wa wx∧wx.heap[q]?=some (yL (.slice a1 n1 d1) (.slice a2 n2 d2) (.slice none 0 0) (.slice a3 n3 d3))))
 case first =>
  go_region_held3 (fun w'=>w'.cell? ⟨w.heap.size,0,none⟩=some (.slice ca cn cc)∧w'.cell? ⟨w.heap.size,1,none⟩=some (.slice da dn dc)∧w'.cell? ⟨w.heap.size,3,none⟩=some (.slice ra rn rc))
   ((refine HSS.out _ ?_;(repeat (first|exact xE0 _|assumption|refine xE1 ?_ _|refine xE2 ?_|refine xE3 ?_ _|refine Below.setCell ?_ (by first|(simp;done)|(simp;omega)|omega) _|refine Ext.trans' ?_ (by assumption)))))
   (fail)
  all_goals
   go_wp2_with fail
   go_meet
   exact⟨_,rfl,η ⟨Nat.le_refl _,by (repeat (first|exact xE0 _|assumption|refine xE1 ?_ _|refine xE2 ?_|refine xE3 ?_ _|refine Below.setCell ?_ (by first|(simp;done)|(simp;omega)|omega) _|refine Ext.trans' ?_ (by assumption))),zD _ _ rfl⟩⟩
 case rest =>
  obtain⟨q,rfl,HC⟩:=hcut
  obtain⟨hq,hE1,hbq⟩:=HC.out
  have hqb:w.heap.size≤w.heap.size+1∧w.heap.size+1 < q:=⟨Nat.le_succ _,by omega⟩
  have HO0:Hid (OutE w wc e q (.slice a1 n1 d1) (.slice a2 n2 d2) (.slice a3 n3 d3) none 0 0 []):=η ⟨HX0.out.trans' hE1,hbq,Own.nil _ _ _ _ _,(fun j row l hj=>by simp at hj)⟩
  have HZ1:=η (hE1.obj HZ0.out)
  have x2:wc.cell? ⟨w.heap.size,2,none⟩=some (.slice iav inn icv):=cO (hE1.obj HB0.out)
  have hlw:w.heap.size < wc.heap.size:=by have:=hE1.size;omega
  clear s1 s2 s3 HSS HB0 HZ0 HX0 HC hE1 hbq c1 c2 c3 hm1 hm2 hm3
  go_wp2_with fail
  go_loopw [34] (fun i wr=>∃ (k:Nat) (ia:Option Addr) (ic:Nat) (rows2:List SV),k≤inn∧k≤10∧i=.int .i64 k∧Hid (rows2.length=k)∧Hid (OutE w wr e q (.slice a1 n1 d1) (.slice a2 n2 d2) (.slice a3 n3 d3) ia k ic rows2)∧Hid (wr.heap[w.heap.size+1]?=some envZ)) (fun i _=>inn - (intOf i).toNat)
  case atStart=>exact⟨0,none,0,[],Nat.zero_le _,Nat.zero_le _,rfl,η rfl,HO0,HZ1⟩
  case round =>
   obtain⟨k,ia,ic,rows2,hk,hk10,rfl,HRL,HOE,HRZ⟩:=hrel
   clear x2
   by_cases hki:(k:Int) < inn
   ·obtain⟨row,hrow⟩:∃ row,rows[k]?=some row:=⟨_,List.getElem?_eq_getElem (by have:=hIN.out;omega)⟩
    obtain⟨l,hl⟩:∃ l,e.items[k]?=some l:=⟨_,List.getElem?_eq_getElem (by have:=hIN.out;have:=hlen.out;omega)⟩
    obtain⟨I0,hI,hIs,hIm⟩:=HE.out.items k row l hrow hl
    have HIR:=η hI
    have HIS:=η hIs
    have HIM:=η hIm
    have HLL:=η hl
    have ixr:=fun W=>(HE.out.rowsR).run_at (P:=Tryz.prog) el_itemrows.under el_itemrows.size .i64 (k:Int) (by omega) (by omega) W
    simp only[Nat.mul_one,Int.toNat_natCast]at ixr
    have yr:wr.cell? (elt (.slice iav inn icv) k)=some (.slice row.a row.n row.c):=by
     have:=(HE.out.rowsR.ext HOE.out.ext).cell hrow (j:=0) rfl
     simpa[SV.v]using this
    have hrn2:row.n=I0.length:=by obtain⟨a',n',c',hv,_,hn⟩:=HIR.out.val;have h1:=hn.out;simp only[SV.v]at hv;cases hv;exact h1
    have hrb:row.n≤9223372036854775807:=by obtain⟨a',n',c',hv,hle,hn⟩:=HIR.out.val;simp only[SV.v]at hv;cases hv;exact hle
    have HRN:=η hrn2
    clear hI hIs hIm hrow hl hrn2
    by_cases hk9:(k:Int) < 10
    ·have hwq:=zE HOE.out.box
     go_wp2_with fail
     obtain⟨wo,rfl⟩:∃ u,u=wr:=⟨_,rfl⟩
     have hwz:=HOE.out.ext.size
     go_loopw [43,6] (fun c v wr3=>∃ (j:Nat) (I:List IT) (xa:Option Addr) (xn xc:Nat),j≤row.n∧c=.int .i64 j∧v=.slice xa xn xc∧Hid (Own wr3 wo.heap.size 36 2 IT.enc (.slice xa xn xc) I)∧Hid (∀ y∈I,Sl w .u8 y.kv y.key∧Sl w .u8 y.vv y.val)∧Hid (I.map (fun x=>(x.key,x.val))=itsN l j)∧Hid (Ext wo wr3)∧Hid (I.length≤20∧I.length≤j)) (fun c _ _=>row.n - (intOf c).toNat)
     case atStart=>exact⟨0,[],none,0,0,Nat.zero_le _,rfl,rfl,η (Own.nil _ _ _ _ _),η (fun y hy=>by cases hy),η rfl,η (Ext.rfl' _),η ⟨by simp,by simp⟩⟩
     case round =>
      obtain⟨j,I,xa,xn,xc,hj,rfl,rfl,HOX,HSI,HMI,HEX,HLI⟩:=hrel
      by_cases hjr:(j:Int) < row.n
      ·obtain⟨y,hy⟩:∃ y,I0[j]?=some y:=⟨_,List.getElem?_eq_getElem (by have:=HRN.out;omega)⟩
       have hlj:l[j]?=some (y.key,y.val):=by rw[← HIM.out,List.getElem?_map,hy];rfl
       have HYS:=η (HIS.out y (List.mem_of_getElem? hy))
       have hIR:=HIR.out
       simp only[SV.v]at hIR
       have hrn3:row.n=I0.length:=HRN.out
       have ixm:=fun W=>hIR.run_at (P:=Tryz.prog) el_item.under el_item.size .i64 (j:Int) (by omega) (by omega) W
       simp only[Int.toNat_natCast]at ixm
       have hEW3:Ext w wr:=HOE.out.ext.trans' HEX.out
       obtain⟨k0,k1⟩:wr.cell? (elt (.slice row.a row.n row.c) (j * 2))=some (.slice y.ka y.key.length y.kc)∧wr.cell? ⟨(elt (.slice row.a row.n row.c) (j * 2)).block,(elt (.slice row.a row.n row.c) (j * 2)).off+1,none⟩=some (.slice y.va y.val.length y.vc):=by
        have E:=(hIR.ext hEW3).elt_add hy
        have F:∀ (p:Addr) (j:Nat),j≠0→(⟨p.block,p.off+j,none⟩:Addr)=p.add j:=fun p j h=>by simp[Addr.add,h]
        rw[F _ 1 (by decide),E]
        exact⟨by have:=(hIR.ext hEW3).cell hy (j:=0) rfl;simpa[IT.kv]using this,(hIR.ext hEW3).cell hy (j:=1) rfl⟩
       have HIT:Hid (itsN l (j+1)=if j < 20∧y.key.length≤80∧y.val.length≤80 then itsN l j++[(y.key,y.val)] else itsN l j):=η (by rw[itsN,hlj])
       have hA3:Ext wr (wr.alloc (.cells #[.slice y.ka y.key.length y.kc,.slice y.va y.val.length y.vc] 36 (0,0))):=(Ext.rfl' wr).alloc' _
       have OX3:=η (HOX.out.ext hA3)
       have HX3:=η (HEX.out.trans' hA3)
       have HLX:Hid (I.length≤20∧I.length≤j+1):=η ⟨HLI.out.1,by have:=HLI.out.2;omega⟩
       clear hy hlj hIR hrn3 hEW3 hA3
       by_cases h1:(j:Int) < 20
       ·by_cases h2:(y.key.length:Int)≤80
        ·by_cases h3:(y.val.length:Int)≤80
         ·have HMX:Hid ((I++[y]).map (fun x=>(x.key,x.val))=itsN l (j+1)):=η (by rw[HIT.out,if_pos ⟨by omega,by omega,by omega⟩,List.map_append,HMI.out];rfl)
          have hli:=HLI.out
          have hwrz:=HEX.out.size
          have HYL:Hid (Rd ((wr.alloc (.cells #[.slice y.ka y.key.length y.kc,.slice y.va y.val.length y.vc] 36 (0,0))).alloc (.cells #[.slice y.ka y.key.length y.kc,.slice y.va y.val.length y.vc] 36)) 2 IT.enc (.slice (some ⟨(wr.alloc (.cells #[.slice y.ka y.key.length y.kc,.slice y.va y.val.length y.vc] 36 (0,0))).heap.size,0,none⟩) 1 1) [y]):=η ((Own.lit vQ (base:=0) [y] rfl rfl (Nat.zero_le _) (by simp[maxLen])).rd vQ)
          have HYL2:Hid (Rd ((wr.alloc (.cells #[.slice y.ka y.key.length y.kc,.slice y.va y.val.length y.vc] 36 (0,0))).alloc (.cells #[.slice y.ka y.key.length y.kc,.slice y.va y.val.length y.vc] 36)) 2 IT.enc (.slice (some ⟨wr.heap.size+1,0,none⟩) 1 1) [y]):=η (by have:=HYL.out;simpa using this)
          go_wp2_with (at_builtin;refine xM el_item vQ rfl _ _ rfl rfl (OX3.out.alloc _) rfl (ys:=[y]) ?q1 ?q2 ?q3 ?q4)
          case q1=>exact HYL2.out
          case q2=>exact⟨by simp;omega,by simp;omega⟩
          case q3=>simp;omega
          intro v5 w5 hown hgrow hbel
          obtain⟨a5,n5,c5,rfl,hn5,hN5⟩:=(hown.rd vQ).val
          have OX5:=η hown
          have HE5:Hid (Ext wo w5):=η (hbel _ _ (HX3.out.alloc' _) (Nat.le_refl _))
          have HS5:Hid (∀ z∈I++[y],Sl w .u8 z.kv z.key∧Sl w .u8 z.vv z.val):=η (fun z hz=>by
           rcases List.mem_append.1 hz with hz|hz
           ·exact HSI.out z hz
           ·rw[List.mem_singleton]at hz;subst hz;exact HYS.out)
          have HL5:Hid ((I++[y]).length≤20∧(I++[y]).length≤j+1):=η (by
           have h20:I.length≤j:=HLI.out.2
           have hj20:j < 20:=by omega
           simp only[List.length_append,List.length_cons,List.length_nil]
           omega)
          clear hown hgrow hbel hli
          go_wp2_with fail
          go_roundw
          case rel=>exact⟨j+1,I++[y],a5,n5,c5,by omega,by go_num,rfl,OX5,HS5,HMX,HE5,HL5⟩
          case measure=>simp[intOf];omega
         ·have HNX:Hid (I.map (fun x=>(x.key,x.val))=itsN l (j+1)):=η (by rw[HIT.out,if_neg (by omega)];exact HMI.out)
          go_wp2_with fail
          go_roundw
          case rel=>exact⟨j+1,I,xa,xn,xc,by omega,by go_num,rfl,OX3,HSI,HNX,HX3,HLX⟩
          case measure=>simp[intOf];omega
        ·have HNX:Hid (I.map (fun x=>(x.key,x.val))=itsN l (j+1)):=η (by rw[HIT.out,if_neg (by omega)];exact HMI.out)
         go_wp2_with fail
         go_roundw
         case rel=>exact⟨j+1,I,xa,xn,xc,by omega,by go_num,rfl,OX3,HSI,HNX,HX3,HLX⟩
         case measure=>simp[intOf];omega
       ·have HNX:Hid (I.map (fun x=>(x.key,x.val))=itsN l (j+1)):=η (by rw[HIT.out,if_neg (by omega)];exact HMI.out)
        go_wp2_with fail
        go_roundw
        case rel=>exact⟨j+1,I,xa,xn,xc,by omega,by go_num,rfl,OX3,HSI,HNX,HX3,HLX⟩
        case measure=>simp[intOf];omega
      ·obtain rfl:j=row.n:=by omega
       have hlll:l.length=row.n:=by have:=congrArg List.length HIM.out;rw[List.length_map]at this;have:=HRN.out;omega
       have HROW:Hid (RowOk w wr (q+1) ⟨xa,xn,xc⟩ (itsN l l.length)):=η ⟨I,HOX.out.mono (by omega),HSI.out,by rw[HMI.out,hlll]⟩
       have HLE:Hid (e.items[rows2.length]?=some l):=η (by rw[HRL.out];exact HLL.out)
       have hrl:rows2.length=k:=HRL.out
       have HRZ3:=η (HEX.out.obj HRZ.out)
       have hbx:=HEX.out.obj HOE.out.box
       have HBX3:=η hbx
       have hzw:=HEX.out.size
       (obtain⟨b0,b1,b2,b3⟩:=κ4 (hbx);have bf:=fun i=>zA (i:=i) (hbx);skip)
       clear hbx hlll
       go_wp2_with (at_builtin;refine xM el_rows2 tF rfl _ _ rfl rfl ((HOE.out.own.ext HEX.out).alloc _) rfl (ys:=([⟨xa,xn,xc⟩]:List SV)) ?p1 ?p2 ?p3 ?p4)
       case p1=>exact(Own.lit tF (base:=0) (w:=wr) [⟨xa,xn,xc⟩] rfl rfl (Nat.zero_le _) (by simp[maxLen])).rd tF
       case p2=>exact⟨by first|omega|(simp;omega),by first|omega|(simp;omega)⟩
       case p3=>first|omega|(simp;omega)
       intro v5 w5 hown hgrow hbel
       obtain⟨a5,n5,c5,rfl,hn5,hN5⟩:=(hown.rd tF).val
       have hN6:n5=k+1:=by have:=hN5.out;rw[List.length_append,hrl]at this;exact this
       subst hN6
       have HNX:=η (HOE.out.push HEX.out HROW.out HLE.out (by omega) hgrow hown)
       have hk5:=yB hgrow
       have hb5:=hk5.obj (zB _ HBX3.out) (fun hj=>by have:=(HOE.out.own.lt (by simpa using hj)).1;omega)
       have hz5:=hk5.obj (zB _ HRZ3.out) (fun hj=>by have:=(HOE.out.own.lt (by simpa using hj)).1;omega)
       have HZN:Hid ((w5.setCell ⟨q,2,none⟩ (.slice a5 (k+1) c5)).heap[w.heap.size+1]?=some envZ):=η ((heap_setCell_other w5 _ _ _ (show w.heap.size+1≠q by omega)).trans hz5)
       have HLX:Hid ((rows2++[(⟨xa,xn,xc⟩:SV)]).length=k+1):=η (by simp[hrl])
       clear b0 b1 b2 b3 bf hown hgrow hbel hk5 hz5 hrl
       (obtain⟨b0,b1,b2,b3⟩:=κ4 (hb5);have bf:=fun i=>zA (i:=i) (hb5);skip)
       clear hb5
       go_wp2_with fail
       go_roundw
       case rel=>exact⟨k+1,a5,c5,rows2++[⟨xa,xn,xc⟩],by omega,by omega,by go_num,HLX,HNX,HZN⟩
       case measure=>simp[intOf];omega
    ·have hkl:rows2.length=min 10 e.items.length:=by rw[HRL.out];have:=hlen.out;have:=hIN.out;omega
     have hrz:=HRZ.out
     have HRZ2:=η hrz
     have HSF:=η (And.intro (set4_same hrz (.slice a1 n1 d1) (.slice a2 n2 d2) (.slice ia k ic) (.slice a3 n3 d3)) (HOE.out.set4 hqb HE.out.ib HE.out.u8 HT1.out HT2.out HT3.out hkl (.slice a1 n1 d1) (.slice a2 n2 d2) (.slice ia k ic) (.slice a3 n3 d3)))
     have hbx:=HOE.out.box
     (obtain⟨b0,b1,b2,b3⟩:=κ4 (hbx);have bf:=fun i=>zA (i:=i) (hbx);skip)
     (obtain⟨r0,r1,r2,r3⟩:=κ4 (HRZ2.out);have rf:=fun i=>zA (i:=i) (HRZ2.out);skip)
     clear hrz hbx hkl
     go_wp2_with fail
     (have hsf:=HSF.out;generalize hF:(World.setCell (World.setCell (World.setCell (World.setCell wr ⟨w.heap.size+1,0,none⟩ (.slice a1 n1 d1)) ⟨w.heap.size+1,1,none⟩ (.slice a2 n2 d2)) ⟨w.heap.size+1,2,none⟩ (.slice ia k ic)) ⟨w.heap.size+1,3,none⟩ (.slice a3 n3 d3))=wF at hsf ⊢;obtain⟨hs,he⟩:=hsf;clear hF;(try simp only[Exit.then]);(repeat (first|go_skip|go_step));obtain⟨r0,r1,r2,r3⟩:=κ4 hs;refine bodyPost_ret (by simp[results,Tryz.results24,go_sem,r0,r1,r2,r3];try rfl) rfl ?_)
     exact⟨_,_,_,_,_,rfl,he.1,he.2,HCL.out⟩
   ·have hkl:rows2.length=min 10 e.items.length:=by rw[HRL.out];have:=hlen.out;have:=hIN.out;omega
    have hrz:=HRZ.out
    have HRZ2:=η hrz
    have HSF:=η (And.intro (set4_same hrz (.slice a1 n1 d1) (.slice a2 n2 d2) (.slice ia k ic) (.slice a3 n3 d3)) (HOE.out.set4 hqb HE.out.ib HE.out.u8 HT1.out HT2.out HT3.out hkl (.slice a1 n1 d1) (.slice a2 n2 d2) (.slice ia k ic) (.slice a3 n3 d3)))
    have hbx:=HOE.out.box
    (obtain⟨b0,b1,b2,b3⟩:=κ4 (hbx);have bf:=fun i=>zA (i:=i) (hbx);skip)
    (obtain⟨r0,r1,r2,r3⟩:=κ4 (HRZ2.out);have rf:=fun i=>zA (i:=i) (HRZ2.out);skip)
    clear hrz hbx hkl
    go_wp2_with fail
    (have hsf:=HSF.out;generalize hF:(World.setCell (World.setCell (World.setCell (World.setCell wr ⟨w.heap.size+1,0,none⟩ (.slice a1 n1 d1)) ⟨w.heap.size+1,1,none⟩ (.slice a2 n2 d2)) ⟨w.heap.size+1,2,none⟩ (.slice ia k ic)) ⟨w.heap.size+1,3,none⟩ (.slice a3 n3 d3))=wF at hsf ⊢;obtain⟨hs,he⟩:=hsf;clear hF;(try simp only[Exit.then]);(repeat (first|go_skip|go_step));obtain⟨r0,r1,r2,r3⟩:=κ4 hs;refine bodyPost_ret (by simp[results,Tryz.results24,go_sem,r0,r1,r2,r3];try rfl) rfl ?_)
    exact⟨_,_,_,_,_,rfl,he.1,he.2,HCL.out⟩
theorem l11_env (cv dv iv rv:Value)(rows:List SV)(e:EnvD)(w:World)(he:EnvR w e cv dv iv rv rows):Calls Tryz.prog 24 #[.agg #[cv,dv,iv,rv]] w (EnvA e w) :=
 (l11_env2 cv dv iv rv rows e w he).mono (fun r w' ⟨a,b,c,d,f,h1,h2,h3,_⟩=>⟨a,b,c,d,f,h1,h2,h3⟩)
def blk (lo hi:Nat):List Nat:=(List.range hi).filter fun q=>decide (lo≤q)
section
variable {A B A':Lies} {Q Q':List Nat} {ba a:Nat} {σ:RS} {w w' u:World}
theorem Turn.size (h:Turn Q w w'):w.heap.size≤w'.heap.size:=by obtain⟨F,k,_⟩:=h;exact k.size
theorem Two2.ps (kb:Kept B)(h:Two2 (PM ba a σ) B Q w)(hba:ba≤w.heap.size):∃ F Z T,PRel F Z w ba w a (σ.vt T):=by
 obtain⟨F,Z,h1,-⟩:=h.both PM.kept kb
 obtain⟨T,-,r⟩:=h1.ps hba
 exact⟨F,Z,T,r⟩
theorem two_over (kb:Kept B)(h:Two2 (PM ba a σ) B Q w)(hba:ba≤w.heap.size):Calls Tryz.prog 26 #[.pointer (some ⟨a,0,none⟩)] w (fun e w'=>e=.returned (.bool σ.over)∧Two2 (PM ba a σ) B Q w'∧Ext w w'):=by
 obtain⟨F,Z,T,r⟩:=h.ps kb hba
 exact(p_Over r).mono (fun e w' ⟨h1,h2⟩=>⟨h1,h.ext PM.kept kb h2,h2⟩)
theorem two_at (kb:Kept B)(h:Two2 (PM ba a σ) B Q w)(hba:ba≤w.heap.size):Calls Tryz.prog 31 #[.pointer (some ⟨a,0,none⟩)] w (fun e w'=>e=.returned (.int .i64 σ.place)∧Two2 (PM ba a σ) B Q w'∧Ext w w'):=by
 obtain⟨F,Z,T,r⟩:=h.ps kb hba
 exact(p_At r).mono (fun e w' ⟨h1,h2⟩=>⟨h1,h.ext PM.kept kb h2,h2⟩)
theorem two_reg (kb:Kept B)(h:Two2 (PM ba a σ) B Q w)(hba:ba≤w.heap.size)(d:Nat)(hd:d≤10):Calls Tryz.prog 28 #[.pointer (some ⟨a,0,none⟩),.int .i64 d] w (fun e w'=>e=.returned (.tuple #[.int .u64 (σ.R d),.bool (σ.S d)])∧Two2 (PM ba a σ) B Q w'∧Ext w w'):=by
 obtain⟨F,Z,T,r⟩:=h.ps kb hba
 exact(p_Reg r d hd).mono (fun e w' ⟨h1,h2⟩=>⟨h1,h.ext PM.kept kb h2,h2⟩)
set_option maxHeartbeats 1000000 in
theorem p_RegOut {F0 Z0:List Nat}{wf:World}{base mb:Nat}(h:PRel F0 Z0 wf base w mb σ)(d:Int)(hd:d < 0∨10 < d):Calls Tryz.prog 28 #[.pointer (some ⟨mb,0,none⟩),.int .i64 d] w fun e w'=>e=.returned (.tuple #[.int .u64 0,.bool false])∧Ext w w':=by
 clear h
 rcases hd with hd|hd
 ·go_enter Tryz.func28,Tryz.ntmps28
  go_wp2_with fail
  go_returns
  exact⟨rfl,by (repeat (first|exact xE0 _|assumption|refine xE1 ?_ _|refine xE2 ?_|refine xE3 ?_ _|refine xE4 ?_ (by assumption)))⟩
 ·have h0:¬ d < 0:=by omega
  go_enter Tryz.func28,Tryz.ntmps28
  go_wp2_with fail
  go_returns
  exact⟨rfl,by (repeat (first|exact xE0 _|assumption|refine xE1 ?_ _|refine xE2 ?_|refine xE3 ?_ _|refine xE4 ?_ (by assumption)))⟩
theorem two_regOut (kb:Kept B)(h:Two2 (PM ba a σ) B Q w)(hba:ba≤w.heap.size)(d:Int)(hd:d < 0∨10 < d):Calls Tryz.prog 28 #[.pointer (some ⟨a,0,none⟩),.int .i64 d] w (fun e w'=>e=.returned (.tuple #[.int .u64 0,.bool false])∧Two2 (PM ba a σ) B Q w'∧Ext w w'):=by
 obtain⟨F,Z,T,r⟩:=h.ps kb hba
 exact(p_RegOut r d hd).mono (fun e w' ⟨h1,h2⟩=>⟨h1,h.ext PM.kept kb h2,h2⟩)
end
/-! What the laws begin with. -/
theorem gK (e:EnvD):(envS e).draws.length≤1000000∧(envS e).defs.length≤1000000:=by
 constructor<;>(show (List.take _ _).length≤_;rw[List.length_take];omega)
theorem envS_ib {e:EnvD}(h:∀ l∈e.items,∀ p∈l,∀ x∈p.2,0≤x∧x≤255):∀ l∈(envS e).items,∀ p∈l,∀ x∈p.2,0≤x∧x≤255:=by
 intro l hl p hp
 simp only[envS,List.mem_map]at hl
 obtain⟨l0,hl0,rfl⟩:=hl
 exact h l0 (List.mem_of_mem_take hl0) p (itsN_in _ p hp)
theorem envS_u64 {e:EnvD}(h:U64s e.draws):U64s (envS e).draws:=fun x hx=>h x (List.mem_of_mem_take hx)
theorem pD {L0:List Ins}(h:InsOk L0):InsOk (L0.take 520)∧(L0.take 520).length≤1000000 :=
 ⟨fun x hx=>h x (List.mem_of_mem_take hx),by rw[List.length_take];omega⟩
structure Front (v cv dv iv rv:Value)(L:List Ins)(e:EnvD)(w:World):Prop where
 few:∀ W,Ext w W→Calls Tryz.prog 23 #[v] W fun r w'=>∃ v',r=.returned v'∧Rd w' 5 Ins.enc v' L∧Ext W w'
 env:∀ W,Ext w W→Calls Tryz.prog 24 #[.agg #[cv,dv,iv,rv]] W fun r w'=>∃ cv' dv' iv' rv' rows',r=.returned (.agg #[cv',dv',iv',rv'])∧EnvR w' e cv' dv' iv' rv' rows'∧Ext W w'
 new:∀ W lv' cv' dv' iv' rv' rows',Rd W 5 Ins.enc lv' L→EnvR W e cv' dv' iv' rv' rows'→Calls Tryz.prog 22 #[lv',.agg #[cv',dv',iv',rv']] W (NewPA (RS.new L e) W)
theorem front {v cv dv iv rv:Value}{rows:List SV}{L0:List Ins}{e0:EnvD}{w:World}(h:Rd w 5 Ins.enc v L0)(hok:InsOk L0)(he:EnvR w e0 cv dv iv rv rows):Front v cv dv iv rv (L0.take 520) (envS e0) w:=by
 refine⟨fun W hW=>l11_few v L0 W (h.ext hW),fun W hW=>(l11_env cv dv iv rv rows e0 W (he.ext hW)).mono (fun r w' hr=>hr),fun W lv' cv' dv' iv' rv' rows' hl hr=>?_⟩
 exact p_New lv' cv' dv' iv' rv' rows' _ _ W hl (pD hok).2 (pD hok).1 hr (gK e0).2 (gK e0).1
def NewD (r:Option RS)(n:Nat)(w:World)(e:Ending)(w':World):Prop :=
 match r with
 | none=>e=.returned (.tuple #[.pointer none,.int .i64 1])∧Ext w w'
 | some σ=>∃ mb,e=.returned (.tuple #[.pointer (some ⟨mb,0,none⟩),.int .i64 0])∧∃ Z,(∀ j∈Z,j < n)∧MRel [] Z w w.heap.size w' mb σ
theorem ins_enc0 (x:Ins):∃ u,x.enc[0]?=some u:=⟨_,rfl⟩
theorem def_enc0 (x:TDef):∃ u,x.enc[0]?=some u:=⟨_,rfl⟩
structure FrontD (v cv dv iv rv:Value)(L:List Ins)(e:EnvD)(w:World):Prop where
 few:∀ W,Ext w W→Calls Tryz.prog 23 #[v] W fun r w'=>∃ v',r=.returned v'∧Rd w' 5 Ins.enc v' L∧Ext W w'∧∀ j∈fblk v',j < w.heap.size
 env:∀ W,Ext w W→Calls Tryz.prog 24 #[.agg #[cv,dv,iv,rv]] W fun r w'=>∃ cv' dv' iv' rv' rows',r=.returned (.agg #[cv',dv',iv',rv'])∧EnvR w' e cv' dv' iv' rv' rows'∧Ext W w'∧∀ j∈fblk dv',j < w.heap.size
 new:∀ W lv' cv' dv' iv' rv' rows',Rd W 5 Ins.enc lv' L→EnvR W e cv' dv' iv' rv' rows'→(∀ j∈fblk lv',j < w.heap.size)→(∀ j∈fblk dv',j < w.heap.size)→Calls Tryz.prog 12 #[lv',.agg #[cv',dv',iv',rv']] W (NewD (RS.new L e) w.heap.size W)
theorem frontD {v cv dv iv rv:Value}{rows:List SV}{L0:List Ins}{e0:EnvD}{w:World}(h:Rd w 5 Ins.enc v L0)(hok:InsOk L0)(he:EnvR w e0 cv dv iv rv rows):FrontD v cv dv iv rv (L0.take 520) (envS e0) w:=by
 refine⟨fun W hW=>?_,fun W hW=>?_,fun W lv' cv' dv' iv' rv' rows' hl hr b1 b2=>?_⟩
 ·refine(l11_few2 v L0 W (h.ext hW)).mono ?_
  rintro r w' ⟨v',rfl,h1,h2,h3⟩
  exact⟨v',rfl,h1,h2,(h3 w h).fblk_lt ins_enc0⟩
 ·refine(l11_env2 cv dv iv rv rows e0 W (he.ext hW)).mono ?_
  rintro r w' ⟨c',d',i',r',rows',rfl,h1,h2,h3⟩
  exact⟨c',d',i',r',rows',rfl,h1,h2,(h3 w he.defs).fblk_lt def_enc0⟩
 ·refine(m_New lv' cv' dv' iv' rv' rows' _ _ W hl (pD hok).2 (pD hok).1 hr (gK e0).1).mono ?_
  intro r w' hr
  cases hn:RS.new (L0.take 520) (envS e0) with
  | none=>rw[hn]at hr;exact hr
  | some σ =>
   rw[hn]at hr
   obtain⟨mb,h1,h2⟩:=hr
   exact⟨mb,h1,_,fun j hj=>(List.mem_append.1 hj).elim (b1 j) (b2 j),h2⟩
section
variable {A:Lies} {Q:List Nat} {bb b:Nat} {σ:RS} {w w':World}
theorem two_dstep (ka:Kept A)(h:Two2 A (DM bb b σ) Q w)(hbb:bb≤w.heap.size)(hg:σ.Good)(ho:σ.over=false→∃ p x,σ.On p x):
  Calls Tryz.prog 30 #[.pointer (some ⟨b,0,none⟩)] w (fun e w'=>e=.returned (.int .i64 σ.step.2)∧Two2 A (DM bb b σ.step.1) Q w'∧Turn Q w w'):=by
 obtain⟨F,Z,h1,h2,h3,h4,h5⟩:=h.symm.both DM.kept ka
 refine(m_Step (h1.mrel hbb) hg ho).mono ?_
 rintro e w' ⟨rfl,hR⟩
 exact⟨rfl,(h5 _ _ hR.relT).symm,⟨F,hR.keep,fun q hq=>⟨h3 q hq,h2 q hq⟩⟩⟩
theorem Two2.dcells (h:Two2 A (DM bb b σ) Q w):∃ l,∀ (i:Nat) v,(xY σ l)[i]?=some v→w.cell? ⟨b,i,none⟩=some v:=by
 obtain⟨fa,za,fb,zb,h1,⟨l,h2,-,-⟩,h3⟩:=h
 exact⟨l,fun i v hv=>h2.cell i hv⟩
theorem Two2.dplace (h:Two2 A (DM bb b σ) Q w):w.cell? ⟨b,27,none⟩=some (.int .i64 σ.place):=by obtain⟨l,h⟩:=h.dcells;exact h _ _ rfl
theorem Two2.dover (h:Two2 A (DM bb b σ) Q w):w.cell? ⟨b,28,none⟩=some (.bool σ.over):=by obtain⟨l,h⟩:=h.dcells;exact h _ _ rfl
theorem Two2.dR (h:Two2 A (DM bb b σ) Q w){d:Nat}(hd:d≤10):w.cell? ⟨b,1+d,none⟩=some (.int .u64 (σ.R d)):=by obtain⟨l,h⟩:=h.dcells;exact h _ _ (qM _ _ hd)
theorem Two2.dS (h:Two2 A (DM bb b σ) Q w){d:Nat}(hd:d≤10):w.cell? ⟨b,12+d,none⟩=some (.bool (σ.S d)):=by obtain⟨l,h⟩:=h.dcells;exact h _ _ (jT _ _ hd)
end
end Go.Proofs.YtppefchjoodgnaaGreat
