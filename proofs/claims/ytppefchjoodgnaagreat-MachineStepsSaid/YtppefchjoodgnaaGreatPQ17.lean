import Derived.Test.YtppefchjoodgnaaGreatPQ16
import Derived.Test.YtppefchjoodgnaaGreatPQ07
import Derived.Test.YtppefchjoodgnaaGreatPQ05
import Derived.Test.YtppefchjoodgnaaGreatPQ03
set_option linter.unusedSimpArgs false
set_option linter.unusedVariables false
namespace Go.Proofs.YtppefchjoodgnaaGreat
open Go.RowKit
structure PLay  where
 lv:Value
 tb:Nat
 T:Tabs
 dv:Value
 drv:Value
 cv:Value
 cs:List CB
def xZ (σ:RS)(l:PLay):List Value:=[l.lv,.int .u64 (σ.R 0),.bool (σ.S 0),.int .u64 (σ.R 1),.bool (σ.S 1),.int .u64 (σ.R 2),.bool (σ.S 2),.int .u64 (σ.R 3),.bool (σ.S 3),.int .u64 (σ.R 4),.bool (σ.S 4),.int .u64 (σ.R 5),.bool (σ.S 5),.int .u64 (σ.R 6),.bool (σ.S 6),.int .u64 (σ.R 7),.bool (σ.S 7),.int .u64 (σ.R 8),.bool (σ.S 8),.int .u64 (σ.R 9),.bool (σ.S 9),.int .u64 (σ.R 10),.bool (σ.S 10),
 .pointer (some ⟨l.T.b,0,none⟩),.pointer (some ⟨l.tb,0,none⟩),l.dv,l.drv,.int .i64 σ.place,.bool σ.over,.int .i64 σ.code,.int .i64 σ.steps,l.cv]
def zW (mb:Nat)(l:PLay):List Nat:=mb :: (l.cv.ownBlock.toList++zM l.tb l.T)
def pfrz (l:PLay):List Nat:=fblk l.lv++(fblk l.dv++(vblk l.drv++l.cs.flatMap fun c=>vblk c.kv++(vblk c.vv++vblk c.nv)))
structure PAt (w:World)(base mb:Nat)(σ:RS)(l:PLay):Prop where
 head:w.heap[mb]?=some (.cells (xZ σ l).toArray 109 (0,0))
 low:base≤mb
 tab:TabAt w base l.tb l.T
 view:zN l.T=σ.V
 calls:Own w base 76 6 CB.enc l.cv l.cs
 cls:l.cs.map (·.c)=σ.calls
 callS:∀ c∈l.cs,Sl w .u8 c.kv c.c.key∧Sl w .u8 c.vv c.c.val∧Sl w .u64 c.nv c.c.n
 code:Rd w 5 Ins.enc l.lv σ.L
 defs:Rd w 4 TDef.enc l.dv σ.D
 draws:Sl w .u64 l.drv σ.dr
 apart:(zW mb l).Nodup
 frz:∀ j∈pfrz l,j ∉ zW mb l∧j < w.heap.size
section
variable {w w':World} {base mb:Nat} {σ:RS} {l:PLay} {F:List Nat}
theorem kC {l:PLay}{c:CB}(hc:c∈l.cs){j:Nat}(hj:j∈vblk c.kv++(vblk c.vv++vblk c.nv)):j∈pfrz l:=by
 simp only[pfrz,List.mem_append,List.mem_flatMap]
 exact .inr (.inr (.inr ⟨c,hc,by simpa using hj⟩))
theorem PAt.keep (h:PAt w base mb σ l)(k:Keep F w w')(hF:∀ j∈zW mb l,j ∉ F)(hZ:∀ j∈pfrz l,j ∉ F):PAt w' base mb σ l:=by
 have hz:∀ {v:Value},(∀ j∈vblk v,j∈pfrz l)→∀ a n c,v=.slice (some a) n c→a.block ∉ F:=fun hv=>kD fun j hj=>hZ j (hv j hj)
 refine⟨k.obj h.head (hF _ (by simp[zW])),h.low,h.tab.keep k (fun j hj=>hF j (by simp[zW,hj])),h.view,h.calls.keep k (fun j hj=>hF j (by simp[zW,hj])),h.cls,fun c hc=>⟨?_,?_,?_⟩,?_,?_,?_,h.apart,fun j hj=>⟨(h.frz j hj).1,Nat.lt_of_lt_of_le (h.frz j hj).2 k.size⟩⟩
 ·exact(h.callS c hc).1.keep k (hz fun j hj=>kC hc (by simp[hj]))
 ·exact(h.callS c hc).2.1.keep k (hz fun j hj=>kC hc (by simp[hj]))
 ·exact(h.callS c hc).2.2.keep k (hz fun j hj=>kC hc (by simp[hj]))
 ·exact h.code.keepF k (fun j hj=>hZ j (by simp[pfrz,hj]))
 ·exact h.defs.keepF k (fun j hj=>hZ j (by simp[pfrz,hj]))
 ·exact h.draws.keep k (hz fun j hj=>by simp[pfrz,hj])
theorem PAt.ext (h:PAt w base mb σ l)(k:Ext w w'):PAt w' base mb σ l:=h.keep (F:=[]) (Keep.of_ext k) (fun _ _=>by simp) (fun _ _=>by simp)
theorem PAt.cells (h:PAt w base mb σ l){σ':RS}(k:Keep [mb] w w')(hc:w'.heap[mb]?=some (.cells (xZ σ' l).toArray 109 (0,0)))(hV:σ'.V=σ.V)(hL:σ'.L=σ.L)(hD:σ'.D=σ.D)(hd:σ'.dr=σ.dr)(hcl:σ'.calls=σ.calls):PAt w' base mb σ' l:=by
 have ha:=List.nodup_cons.1 h.apart
 have hm:∀ {j:Nat},j∈l.cv.ownBlock.toList++zM l.tb l.T→j ∉ [mb]:=fun hj e=>ha.1 (by rw[List.mem_singleton]at e;rwa[← e])
 have hx:∀ j∈pfrz l,j ∉ [mb]:=fun j hj e=>(h.frz j hj).1 (by rw[List.mem_singleton]at e;subst e;simp[zW])
 have hz:∀ {v:Value},(∀ j∈vblk v,j∈pfrz l)→∀ a n c,v=.slice (some a) n c→a.block ∉ [mb]:=fun hv=>kD fun j hj=>hx j (hv j hj)
 refine⟨hc,h.low,h.tab.keep k (fun j hj=>hm (by simp[hj])),by rw[hV];exact h.view,h.calls.keep k (fun j hj=>hm (by simp[hj])),by rw[hcl];exact h.cls,fun c hc=>⟨?_,?_,?_⟩,?_,?_,?_,h.apart,fun j hj=>⟨(h.frz j hj).1,Nat.lt_of_lt_of_le (h.frz j hj).2 k.size⟩⟩
 ·exact(h.callS c hc).1.keep k (hz fun j hj=>kC hc (by simp[hj]))
 ·exact(h.callS c hc).2.1.keep k (hz fun j hj=>kC hc (by simp[hj]))
 ·exact(h.callS c hc).2.2.keep k (hz fun j hj=>kC hc (by simp[hj]))
 ·rw[hL];exact h.code.keepF k (fun j hj=>hx j (by simp[pfrz,hj]))
 ·rw[hD];exact h.defs.keepF k (fun j hj=>hx j (by simp[pfrz,hj]))
 ·rw[hd];exact h.draws.keep k (hz fun j hj=>by simp[pfrz,hj])
theorem PAt.cell (h:PAt w base mb σ l)(i:Nat){v:Value}(hv:(xZ σ l)[i]?=some v):w.cell? ⟨mb,i,none⟩=some v:=by
 rw[cO h.head]
 simpa using hv
theorem pU (σ:RS)(l:PLay){d:Nat}(hd:d≤10):(xZ σ l)[1+2 * d]?=some (.int .u64 (σ.R d)):=by
 rcases ten hd with rfl|rfl|rfl|rfl|rfl|rfl|rfl|rfl|rfl|rfl|rfl<;>rfl
theorem pQ (σ:RS)(l:PLay){d:Nat}(hd:d≤10):(xZ σ l)[2+2 * d]?=some (.bool (σ.S d)):=by
 rcases ten hd with rfl|rfl|rfl|rfl|rfl|rfl|rfl|rfl|rfl|rfl|rfl<;>rfl
theorem pset_R (σ:RS)(l:PLay){d:Nat}(hd:d≤10)(n:Int):(xZ σ l).set (1+2 * d) (.int .u64 n)=xZ {σ with R:=updN σ.R d n} l:=by
 rcases ten hd with rfl|rfl|rfl|rfl|rfl|rfl|rfl|rfl|rfl|rfl|rfl<;>simp[xZ,updN]
theorem pset_S (σ:RS)(l:PLay){d:Nat}(hd:d≤10)(n:Bool):(xZ σ l).set (2+2 * d) (.bool n)=xZ {σ with S:=updN σ.S d n} l:=by
 rcases ten hd with rfl|rfl|rfl|rfl|rfl|rfl|rfl|rfl|rfl|rfl|rfl<;>simp[xZ,updN]
end
structure PRel (F0 Z0:List Nat)(wf:World)(base:Nat)(w:World)(mb:Nat)(σ:RS):Prop where
 keep:Keep F0 wf w
 low:base≤wf.heap.size
 lay:∃ l,PAt w base mb σ l∧(∀ j∈zW mb l,j∈F0∨wf.heap.size≤j)∧∀ j∈pfrz l,j∈Z0∨wf.heap.size≤j
section
variable {F0 Z0:List Nat} {wf w w':World} {base mb:Nat} {σ:RS}
theorem PRel.go (h:PRel F0 Z0 wf base w mb σ)(k:Ext w w'):PRel F0 Z0 wf base w' mb σ:=by
 obtain⟨h0,hl,l,h1,h2,h3⟩:=h
 exact⟨h0.through (F:=[]) (Keep.of_ext k) (fun _ hj=>by cases hj),hl,l,h1.ext k,h2,h3⟩
theorem PRel.turn (h:PRel F0 Z0 wf base w mb σ){σ':RS}(k:Keep [mb] w w')(hc:∀ l,PAt w base mb σ l→w'.heap[mb]?=some (.cells (xZ σ' l).toArray 109 (0,0)))(hV:σ'.V=σ.V:=by rfl)(hL:σ'.L=σ.L:=by rfl)(hD:σ'.D=σ.D:=by rfl)(hd:σ'.dr=σ.dr:=by rfl)(hcl:σ'.calls=σ.calls:=by rfl):PRel F0 Z0 wf base w' mb σ':=by
 obtain⟨h0,hl,l,h1,h2,h3⟩:=h
 exact⟨h0.through k (fun j hj=>by rw[List.mem_singleton]at hj;subst hj;exact h2 _ (by simp[zW])),hl,l,h1.cells k (hc l h1) hV hL hD hd hcl,h2,h3⟩
theorem PRel.lt (h:PRel F0 Z0 wf base w mb σ):mb < w.heap.size:=by
 obtain⟨h0,hl,l,h1,h2,h3⟩:=h
 exact zE h1.head
end
structure KindOk (x:Ins)(k:Wh):Prop where
 dst:x.dst≤10
 src:x.src≤10
 rng:1≤k.kind∧k.kind≤12
 k1:k.kind=1→doOk k.op k.wide x.off
 kd:k.kind≤5→x.dst≠10
 k2:k.kind=2→k.size=2∨k.size=4∨k.size=8
 k3:(k.kind=3∨k.kind=4) ↔ x.op=24
 k4:k.kind=4→0≤x.imm
 km:5≤k.kind→k.kind≤8→k.size=1∨k.size=2∨k.size=4∨k.size=8
 k8:k.kind=8→doOk k.op true 0
 k10:k.kind=10→pL k.op
 kr:k.kind=1→k.op=128→k.reg=false
 ks:k.kind=7∨k.kind=8→k.reg=true
 k6:k.kind=6→k.reg=false
theorem size_ok (op:Int):kR op=1∨kR op=2∨kR op=4∨kR op=8:=by unfold kR;(repeat' split)<;>simp
theorem kind_ok (x:Ins)(k:Wh)(h:xH x=some k):KindOk x k:=by
 unfold xH at h
 split at h
 ·cases h
 rename_i hr
 split at h
 ·rename_i h24
  unfold gV at h
  split at h
  ·cases h
  rename_i hd
  split at h
  ·cases h
   constructor<;>simp_all<;>omega
  split at h
  ·cases h
   constructor<;>simp_all<;>omega
  ·cases h
 rename_i h24
 split at h
 ·unfold vL at h
  split at h
  ·rename_i hs
   cases h
   have:=hs.2.2
   constructor<;>simp_all<;>omega
  ·cases h
 split at h
 ·unfold xD at h
  split at h
  ·cases h
  split at h
  ·cases h
  split at h
  ·rename_i hop
   split at h
   ·rename_i ho
    cases h
    constructor<;>simp_all[doOk]<;>omega
   ·cases h
  split at h
  ·rename_i hop
   split at h
   ·rename_i ho
    cases h
    constructor<;>simp_all[doOk]<;>omega
   ·cases h
  split at h
  ·rename_i hop
   split at h
   ·rename_i ho
    cases h
    have hz:x.off=0:=by
     have:=ho.2
     simp[yN]at this
     exact this.1.2
    constructor<;>simp_all[doOk]<;>omega
   ·cases h
  split at h
  ·rename_i hop
   split at h
   ·rename_i ho
    cases h
    constructor<;>simp_all[doOk]<;>omega
   ·cases h
  ·cases h
 split at h
 ·unfold kJ at h
  split at h
  ·split at h
   ·cases h;constructor<;>simp_all<;>omega
   ·cases h
  split at h
  ·split at h
   ·cases h;constructor<;>simp_all<;>omega
   ·cases h
  split at h
  ·split at h
   ·cases h;constructor<;>simp_all<;>omega
   ·cases h
  split at h
  ·split at h
   ·cases h;constructor<;>simp_all<;>omega
   ·cases h
  split at h
  ·rename_i hg
   split at h
   ·cases h
    have hc:pL (x.op / 16 * 16):=by
     simp[g11]at hg
     unfold pL
     omega
    constructor<;>simp_all<;>omega
   ·cases h
  ·cases h
 split at h
 ·cases h
 have hz:=size_ok x.op
 unfold uM at h
 split at h
 ·split at h
  ·cases h;constructor<;>simp_all<;>omega
  ·cases h
 split at h
 ·split at h
  ·cases h;constructor<;>simp_all<;>omega
  ·cases h
 split at h
 ·split at h
  ·split at h
   ·cases h;constructor<;>simp_all<;>omega
   ·cases h
  split at h
  ·rename_i ha
   cases h
   have hi:doOk (x.imm%256) true 0:=by
    have:=ha.2.2
    simp only[List.mem_cons,List.not_mem_nil,or_false]at this
    rcases this with e|e|e|e<;>rw[e]<;>simp[doOk]
   constructor<;>simp_all<;>omega
  ·cases h
 ·cases h
section
variable {F0 Z0:List Nat} {wf w w':World} {base mb:Nat} {σ:RS}
theorem MRel.cell1 (h:MRel F0 Z0 wf base w mb σ)(i:Nat)(v:Value){σ':RS}(hc:∀ l,(xY σ l).set i v=xY σ' l)(hV:σ'.V=σ.V:=by rfl)(hL:σ'.L=σ.L:=by rfl)(hD:σ'.D=σ.D:=by rfl)(hd:σ'.dr=σ.dr:=by rfl)(hcl:σ'.calls=σ.calls:=by rfl):MRel F0 Z0 wf base (w.setCell ⟨mb,i,none⟩ v) mb σ':=by
 refine h.turn ((Keep.rfl' _ _).setCell (by simp) v) (fun l hl=>?_) hV hL hD hd hcl
 have:=heap_setCell_same w mb i _ _ v hl.head
 rw[← hc l]
 simpa using this
theorem MRel.setR (h:MRel F0 Z0 wf base w mb σ){d:Nat}(hd:d≤10)(n:Int):MRel F0 Z0 wf base ((w.setCell ⟨mb,1+d,none⟩ (.int .u64 n)).setCell ⟨mb,12+d,none⟩ (.bool true)) mb (σ.setR d n) :=
 (h.cell1 (1+d) _ (fun l=>rset_R σ l hd n)).cell1 (12+d) _ (fun l=>rset_S {σ with R:=updN σ.R d n} l hd true)
def MAns (F0 Z0:List Nat)(wf:World)(base mb:Nat)(σ:RS)(r:Value)(e:Ending)(w':World):Prop:=e=.returned r∧MRel F0 Z0 wf base w' mb σ
theorem tA (h:MRel F0 Z0 wf base w mb σ)(d:Nat)(hd:d≤10)(n:Int):
  Calls Tryz.prog 36 #[.pointer (some ⟨mb,0,none⟩),.int .i64 d,.int .u64 n] w (MAns F0 Z0 wf base mb (σ.setR d n) (.tuple #[])):=by
 have HM:=η h
 obtain⟨h0,hl,l,h1,h2,h3⟩:=h
 have c1:=h1.cell (1+d) (qM σ l hd)
 have c2:=h1.cell (12+d) (jT σ l hd)
 have mf:=fun i=>zA (i:=i) h1.head
 have hlt:=zE h1.head
 go_enter Tryz.func36,Tryz.ntmps36
 go_wp2_with fail
 go_returns
 exact⟨rfl,HM.out.setR hd n⟩
theorem m_imm (x:Ins)(w:World)(hx:x.Ok):Calls Tryz.prog 143 #[x.agg] w fun e w'=>e=.returned (.int .u64 (immN x))∧Ext w w':=by
 have HX:=η hx.imm
 go_enter Tryz.func143,Tryz.ntmps143
 go_wp2_with fail
 refine(gZ _ _ _ (by simp[wid]) (by omega) (by omega)).mono ?_
 rintro e w1 ⟨rfl,rfl⟩
 go_wp2_with fail
 go_returns
 exact⟨rfl,by (repeat (first|exact xE0 _|assumption|refine xE1 ?_ _|refine xE2 ?_|refine xE3 ?_ _|refine xE4 ?_ (by assumption)))⟩
set_option maxHeartbeats 1000000 in
theorem m_second (x:Ins)(k:Wh)(h:MRel F0 Z0 wf base w mb σ)(hx:x.Ok)(hs:x.src≤10):
  Calls Tryz.prog 106 #[.pointer (some ⟨mb,0,none⟩),x.agg,k.agg] w fun e w'=>e=.returned (.tuple #[.int .u64 (σ.second x k).1,.bool (σ.second x k).2])∧Ext w w':=by
 obtain⟨op,dst,src,off,imm⟩:=x
 have hsrc:0≤src:=hx.src.1
 obtain⟨d,rfl⟩:∃ d:Nat,src=d:=⟨src.toNat,by omega⟩
 have HX:=η hx
 obtain⟨h0,hl,l,h1,h2,h3⟩:=h
 have hdd:d≤10:=by simp at hs;omega
 have c1:=h1.cell (1+d) (qM σ l hdd)
 have c2:=h1.cell (12+d) (jT σ l hdd)
 have hlt:=zE h1.head
 clear hx
 unfold RS.second
 simp only[Int.toNat_natCast]
 cases hk:k.reg
 ·go_enter Tryz.func106,Tryz.ntmps106
  go_wp2_with fail
  refine(m_imm _ _ HX.out).mono ?_
  rintro e w1 ⟨rfl,he⟩
  go_wp2_with fail
  go_returns
  exact⟨rfl,by (repeat (first|exact xE0 _|assumption|refine xE1 ?_ _|refine xE2 ?_|refine xE3 ?_ _|refine xE4 ?_ (by assumption)))⟩
 ·go_enter Tryz.func106,Tryz.ntmps106
  go_wp2_with fail
  go_quiet (fail)
  go_wp2_with fail
  go_returns
  exact⟨rfl,by (repeat (first|exact xE0 _|assumption|refine xE1 ?_ _|refine xE2 ?_|refine xE3 ?_ _|refine xE4 ?_ (by assumption)))⟩
set_option maxHeartbeats 1000000 in
theorem m_address (x:Ins)(d:Nat)(h:MRel F0 Z0 wf base w mb σ)(hx:x.Ok)(hd:d≤10):
  Calls Tryz.prog 141 #[.pointer (some ⟨mb,0,none⟩),.int .u8 d,x.agg] w fun e w'=>e=.returned (.int .u64 (σ.addr d x))∧Ext w w':=by
 have HX:=η hx.off
 have hd1:(d:Int)≤10:=by omega
 have hd2:0≤(d:Int):=by omega
 have hd3:(d:Int) < 11:=by omega
 have e16:IntKind.u64.wrap (IntKind.u16.wrap x.off)=x.off%65536:=by simp[IntKind.wrap,IntKind.bits,IntKind.signed];try omega
 have HSG:=η (fun W=>gZ (x.off%65536) 16 W (by simp[wid]) (by omega) (by omega))
 obtain⟨h0,hl,l,h1,h2,h3⟩:=h
 have c1:=h1.cell (1+d) (qM σ l hd)
 have hlt:=zE h1.head
 unfold RS.addr
 simp only[Int.toNat_natCast]
 clear hx
 go_enter Tryz.func141,Tryz.ntmps141
 go_wp2_with fail
 go_quiet ((go_at_call 142;exact Calls.quiet_of_same (HSG.out _)))
 go_wp2_with fail
 go_returns
 exact⟨rfl,by (repeat (first|exact xE0 _|assumption|refine xE1 ?_ _|refine xE2 ?_|refine xE3 ?_ _|refine xE4 ?_ (by assumption)))⟩
set_option maxHeartbeats 2000000 in
theorem m_arith (x:Ins)(k:Wh)(h:MRel F0 Z0 wf base w mb σ)(ho:σ.Ok)(hx:x.Ok)(hk:KindOk x k)(h1:k.kind=1):
  Calls Tryz.prog 99 #[.pointer (some ⟨mb,0,none⟩),x.agg,k.agg] w (MAns F0 Z0 wf base mb (σ.arith x k).1 (.int .i64 (σ.arith x k).2)):=by
 obtain⟨op,dst,src,off,imm⟩:=x
 obtain⟨kind,kop,wide,reg,sg,size⟩:=k
 have hdst:0≤dst:=hx.dst.1
 obtain⟨d,rfl⟩:∃ d:Nat,dst=d:=⟨dst.toNat,by omega⟩
 have hdd:d≤10:=by have:=hk.dst;simp at this;omega
 have HX:=η hx
 have HK:=η hk
 have HB:=η (qX ho ⟨op,d,src,off,imm⟩ ⟨kind,kop,wide,reg,sg,size⟩ hk.src)
 have HR:=η (ho d hdd)
 have HM:=η h
 have HDO:=η (hk.k1 h1)
 obtain⟨h0,hl,l,g1,g2,g3⟩:=h
 have HG:=η g1
 have HC1:=η (qM σ l hdd)
 have HC2:=η (jT σ l hdd)
 clear hx hk h0 g2 g3 hl h1
 have HSEC:=η (fun W (he:Ext w W)=>m_second ⟨op,d,src,off,imm⟩ ⟨kind,kop,wide,reg,sg,size⟩ (HM.out.go he) HX.out HK.out.src)
 obtain⟨res,hres⟩:∃ r,RS.arith σ ⟨op,d,src,off,imm⟩ ⟨kind,kop,wide,reg,sg,size⟩=r:=⟨_,rfl⟩
 rw[hres]
 have HRES:=η hres
 clear hres
 obtain⟨b,ok,hb⟩:∃ b ok,σ.second ⟨op,d,src,off,imm⟩ ⟨kind,kop,wide,reg,sg,size⟩=(b,ok):=⟨_,_,rfl⟩
 rw[hb]at HSEC HB
 have HBB:=η hb
 clear hb
 have hd1:(d:Int)≤10:=by omega
 have hd2:0≤(d:Int):=by omega
 have hd3:(d:Int) < 11:=by omega
 go_enter Tryz.func99,Tryz.ntmps99
 go_wp2_with fail
 refine(HSEC.out _ (by (repeat (first|exact xE0 _|assumption|refine xE1 ?_ _|refine xE2 ?_|refine xE3 ?_ _|refine xE4 ?_ (by assumption))))).mono ?_
 rintro e w1 ⟨rfl,he⟩
 have HE:=η he
 have hE:Ext w w1:=by (repeat (first|exact xE0 _|assumption|refine xE1 ?_ _|refine xE2 ?_|refine xE3 ?_ _|refine xE4 ?_ (by assumption)))
 have HM1:=η (HM.out.go hE)
 have c2:=(HG.out.ext hE).cell _ HC2.out
 have c1:=(HG.out.ext hE).cell _ HC1.out
 have hmb1:=HM1.out.lt
 clear hE
 have b0:w1.heap[w.heap.size]?=some (zQ ⟨op,d,src,off,imm⟩):=he.obj (zB _ (zD w _ rfl))
 have b1:w1.heap[w.heap.size+1]?=some (zF ⟨kind,kop,wide,reg,sg,size⟩):=he.obj (zD _ _ (by simp))
 have x1:w1.cell? ⟨w.heap.size,1,none⟩=some (.int .u8 d):=cO b0
 have x3:w1.cell? ⟨w.heap.size,3,none⟩=some (.int .i16 off):=cO b0
 have k1:w1.cell? ⟨w.heap.size+1,1,none⟩=some (.int .u8 kop):=cO b1
 have k2:w1.cell? ⟨w.heap.size+1,2,none⟩=some (.bool wide):=cO b1
 clear b0 b1 he
 have bad:(ok=false∨((kop != 176)=true∧σ.S d=false))→res=(σ,110):=fun hg=>by
  rw[← HRES.out,RS.arith,HBB.out,if_pos]
  simpa using hg
 have good:¬ (ok=false∨((kop != 176)=true∧σ.S d=false))→res=(σ.setR d (aluN kop wide off (σ.R d) (negB kop b)),0):=fun hg=>by
  rw[← HRES.out,RS.arith,HBB.out,if_neg]
  ·simp
  ·simpa using hg
 have BAD:=η bad
 have GOOD:=η good
 clear bad good
 by_cases hg:(ok=false∨((kop != 176)=true∧σ.S d=false))
 ·obtain rfl:=BAD.out hg
  clear BAD GOOD
  cases hok:ok<;>cases hq:(kop != 176)<;>cases hs:σ.S d
  all_goals
   first
   | (exfalso;rw[hok,hq,hs]at hg;revert hg;decide)
   | (rw[hs]at c2
      clear hg
      go_wp2_with fail
      go_quiet (fail)
      go_wp2_with fail
      go_returns
      exact⟨rfl,HM1.out.go (by (repeat (first|exact xE0 _|assumption|refine xE1 ?_ _|refine xE2 ?_|refine xE3 ?_ _|refine xE4 ?_ (by assumption))))⟩)
 ·obtain rfl:=GOOD.out hg
  clear BAD GOOD
  cases hok:ok<;>cases hq:(kop != 176)<;>cases hs:σ.S d
  all_goals
   first
   | (exfalso;rw[hok,hq,hs]at hg;revert hg;decide)
   | (rw[hs]at c2
      clear hg
      go_upto_region 2 with fail
      go_cut [34] from 18 to 35 (fun v wx=>v=.bool false∧∃ n,wx=w1.drewN n)
      case first =>
       go_wp2_with fail
       go_quiet (fail)
       go_wp2_with fail
       go_meet
       exact⟨rfl,_,rfl⟩
      case rest =>
       obtain⟨rfl,nq,rfl⟩:=hcut
       cases hneg:(kop == 128)
       all_goals
        have hn2:negB kop b=if (kop == 128)=true then 0 else b:=by simp[negB]
        rw[hneg]at hn2
        simp only[if_true,Bool.false_eq_true,if_false]at hn2
        have HN2:=η hn2
        clear hn2
        go_upto_region 6 with fail
        have p1:=Grow.cell (W:=w1.drewN nq) (show (w1.drewN nq).cell? _=_ from x1)
        have p3:=Grow.cell (W:=w1.drewN nq) (show (w1.drewN nq).cell? _=_ from x3)
        have q1:=Grow.cell (W:=w1.drewN nq) (show (w1.drewN nq).cell? _=_ from k1)
        have q2:=Grow.cell (W:=w1.drewN nq) (show (w1.drewN nq).cell? _=_ from k2)
        have r1:=Grow.cell (W:=w1.drewN nq) (show (w1.drewN nq).cell? _=_ from c1)
        clear x1 x3 k1 k2 c1 c2
        refine yE (by kernel_rfl) (by kernel_rfl) ?_
        repeat (go_big_quiet_step ((go_at_call 138;exact Calls.grow (r_do kop wide off (σ.R d) _ _ HDO.out HR.out.1 HR.out.2 (by first|exact HB.out.1|decide) (by first|exact HB.out.2|decide)))))
        refine wpQuiet_nil ?_
        rintro wz ⟨nz,hz⟩
        have hwq:=nz.ext
        have y1:=p1 nz
        rw[← hz]at hwq y1
        clear p1 p3 q1 q2 r1 hz
        go_wp2_with fail
        refine(tA (HM1.out.go (by (repeat (first|exact xE0 _|assumption|refine xE1 ?_ _|refine xE2 ?_|refine xE3 ?_ _|refine xE4 ?_ (by assumption))))) d hdd _).mono ?_
        rintro e w6 ⟨rfl,hM⟩
        go_wp2_with fail
        go_returns
        exact⟨rfl,by rw[HN2.out];exact hM⟩)
end
set_option maxHeartbeats 1000000 in
theorem ref_read (base b:Nat)(lv:Value)(L:List RR)(p s:Int)(w:World)(h:RefAt w base b lv L)(hp:0≤p)(H:Hid (p≤18446744073709551615)):
  Calls Tryz.prog 185 #[.pointer (some ⟨b,0,none⟩),.int .u64 p,.int .i64 s] w (ReadAns (zV L) p s w):=by
 obtain⟨a,n,c,rfl,hn,hN,RL,hb⟩:=h.open
 have HR:=η h
 clear h
 by_cases hbad:s < 0∨1024 < s
 ·have e1:=read_bad (M:=zV L) (p:=p) hbad
  have E1:=η e1
  clear e1
  rcases hbad with hs|hs
  all_goals
   go_enter Tryz.func185,Tryz.ntmps185
   go_wp2_with fail
   go_returns
   exact⟨.slice none 0 0,by rw[E1.out];rfl,by rw[E1.out];exact Own.nil _ _ _ _ _,by (repeat (first|exact xE0 _|assumption|refine xE1 ?_ _|refine xE2 ?_|refine xE3 ?_ _|refine xE4 ?_ (by assumption)))⟩
 ·have HB:=η hbad
  have hs0:0≤s:=by omega
  have hs1:s≤1024:=by omega
  clear hbad
  go_enter Tryz.func185,Tryz.ntmps185
  go_wp2_with fail
  refine(ref_where base b _ L p s _ HR.out hp hs0 hs1 H).mono ?_
  rintro e w1 ⟨rfl,⟨hf,rfl⟩|⟨i,x,hx,hxn,hf,rfl⟩⟩
  ·have HF:=η hf
   clear hf
   go_wp2_with fail
   go_returns
   exact⟨.slice none 0 0,by rw[gD HB.out HF.out];rfl,by rw[gD HB.out HF.out];exact Own.nil _ _ _ _ _,by (repeat (first|exact xE0 _|assumption|refine xE1 ?_ _|refine xE2 ?_|refine xE3 ?_ _|refine xE4 ?_ (by assumption)))⟩
  ·obtain⟨c0,c1,c2,c3⟩:=HR.out.cells hx
   have hlt:i < n:=by rw[hN.out];exact(List.getElem?_eq_some_iff.1 hx).1
   have ix:=fun W=>RL.out.run_at (P:=Tryz.prog) el_area.under el_area.size .i64 (i:Int) (by omega) (by omega) W
   simp only[Int.toNat_natCast]at ix
   obtain⟨hle,hoo⟩:=tY hp hs0 hf
   have hm:=List.mem_of_getElem? hx
   obtain⟨hpl,hsm,hu8,_⟩:=HR.out.ok x hm
   have RB:=η ((HR.out.bytes x hm).rd (zG _))
   have RP:=η ((HR.out.put x hm).rd enc_p)
   have HF:=η hf
   have HP:=η hpl
   rw[RR.bv]at c1 RB
   rw[RR.pv]at c2 RP
   rw[hpl]at c2 RP
   clear hx hxn hf hm hpl c0 c3
   obtain⟨o,ho⟩:∃ o:Nat,(p%4294967296).toNat=o:=⟨_,rfl⟩
   rw[ho]at hle hoo HF
   rw[← hoo]
   clear ho hoo
   have hi0:decide ((i:Int) < 0)=false:=by simp
   go_wp2_with fail
   go_loopw [10] (fun t wr=>∃ j:Nat,j≤s.toNat∧t=.int .i64 ((o:Int)+j)∧wr=w1∧Hid (∀ q,q < j→x.A.put[o+q]?=some true)) (fun t _=>o+s.toNat - (intOf t).toNat)
   case atStart=>exact⟨0,Nat.zero_le _,by simp,rfl,η fun q hq=>absurd hq (Nat.not_lt_zero _)⟩
   case round =>
    obtain⟨j,hj,rfl,rfl,HJ⟩:=hrel
    by_cases hlt':(j:Int) < s
    ·obtain⟨y,hy⟩:=zK (xs:=x.A.put) (k:=o+j) (by have:=HP.out;omega)
     have iy:=fun W=>RP.out.run_at (P:=Tryz.prog) el_bool.under el_bool.size .i64 ((o:Int)+j) (by omega) (by omega) W
     have cy:=RP.out.cell hy (j:=0) rfl
     simp only[Nat.mul_one,Nat.add_zero,show ((o:Int)+j).toNat=o+j from by omega]at iy cy
     have HY:=η hy
     clear hy
     cases y with
     | true =>
      go_wp2_with fail
      go_roundw
      case rel =>
       refine⟨j+1,by omega,by go_num,trivial,η fun q hq=>?_⟩
       rcases Nat.lt_succ_iff_lt_or_eq.1 hq with hq|rfl
       ·exact HJ.out q hq
       ·exact HY.out
      case measure=>simp[intOf];omega
     | false =>
      have HC:=η (put_cut' (n:=s.toNat) (by omega) HY.out)
      go_wp2_with fail
      go_returns
      exact⟨.slice none 0 0,by rw[vJ HB.out HF.out HC.out];rfl,by rw[vJ HB.out HF.out HC.out];exact Own.nil _ _ _ _ _,by (repeat (first|exact xE0 _|assumption|refine xE1 ?_ _|refine xE2 ?_|refine xE3 ?_ _|refine xE4 ?_ (by assumption)))⟩
    ·have hjs:j=s.toNat:=by omega
     have hos:(o:Int)+j=(o:Int)+s:=by omega
     rw[hos]
     have HJS:=η hjs
     clear hjs hos hlt' hj
     have HC:=η (put_cut (n:=s.toNat) (by rw[← HJS.out];exact HJ.out))
     have kb:=fun W=>RB.out.run_cut_lh (P:=Tryz.prog) el_u8.under el_u8.size .i64 .i64 (o:Int) ((o:Int)+s) (by omega) (by omega) (by omega) W
     have CB:=η (RB.out.cut (l:=o) (m:=o+s.toNat) (by omega) hle)
     simp only[Int.toNat_natCast,show ((o:Int)+s).toNat=o+s.toNat from by omega]at kb
     simp only[show o+s.toNat - o=s.toNat from by omega]at CB
     have hxw:=(Ext.rfl' wr).alloc' (.cells #[] 5)
     have hb':=hxw.cellOf hb
     have c1':=hxw.cellOf c1
     have hxl:(cutL x.A.bytes o s.toNat).length=s.toNat:=cutL_len _ _ _ hle
     have HXL:=η hxl
     have hd:decide ((o:Int)+s < (o:Int)+s)=false:=by simp
     clear hxl
     go_wp2_with (at_builtin;refine xM el_u8 (zG .u8) rfl _ _ rfl rfl (Own.made wr wr.heap.size _ _ _ rfl (Nat.le_refl _)) rfl (ys:=cutL x.A.bytes o s.toNat) ?q1 ?q2 ?q3 ?q4)
     case q1=>exact CB.out.ext hxw
     case q2=>exact⟨by have:=HXL.out;simp;omega,by have:=HXL.out;simp;omega⟩
     case q3=>simp
     intro v' w2 hown hgrow hbel
     have HO:=η hown
     clear hown hgrow
     go_wp2_with fail
     go_returns
     exact⟨v',by rw[tZ HB.out HF.out HC.out];rfl,by rw[tZ HB.out HF.out HC.out];simpa using HO.out,hbel _ _ hxw (Nat.le_refl _)⟩
theorem pow_le7:∀ k:Nat,k≤7→(256:Int) ^ k≤72057594037927936:=by decide
def RLoadAns (M:Areas)(p s:Int)(w:World)(e:Ending)(w':World):Prop :=
 e=.returned (.tuple #[.int .u64 (kE M p s).1,.int .i64 (kE M p s).2])∧Ext w w'
theorem le_drop {l:List Int}{k:Nat}{x:Int}(hx:l[k]?=some x):le (l.drop k)=x+256 * le (l.drop (k+1)):=by
 have hk:=(List.getElem?_eq_some_iff.1 hx).1
 rw[List.drop_eq_getElem_cons hk,le]
 have:=(List.getElem?_eq_some_iff.1 hx).2
 rw[this]
theorem mread_err {M:Areas}{p s:Int}(h:(yK M p s).2≠0):(yK M p s).1=[]:=by
 revert h
 unfold yK
 split
 ·simp
 ·split
  ·simp
  ·split<;>simp
set_option maxHeartbeats 1000000 in
theorem ref_load (base b:Nat)(lv:Value)(L:List RR)(p s:Int)(w:World)(h:RefAt w base b lv L)(hp:0≤p)(H:Hid (p≤18446744073709551615)):
  Calls Tryz.prog 140 #[.pointer (some ⟨b,0,none⟩),.int .u64 p,.int .i64 s] w (RLoadAns (zV L) p s w):=by
 have HM:=η h
 clear h
 cases hz:vU s with
 | false =>
  have HZ:=η hz
  clear hz
  go_enter Tryz.func140,Tryz.ntmps140
  go_wp2_with fail
  refine(ref_fits s _).mono ?_
  rintro e w1 ⟨rfl,rfl⟩
  rw[HZ.out]
  go_wp2_with fail
  go_returns
  exact⟨by simp[kE,HZ.out],by (repeat (first|exact xE0 _|assumption|refine xE1 ?_ _|refine xE2 ?_|refine xE3 ?_ _|refine xE4 ?_ (by assumption)))⟩
 | true =>
  have HZ:=η hz
  clear hz
  go_enter Tryz.func140,Tryz.ntmps140
  go_wp2_with fail
  refine(ref_fits s _).mono ?_
  rintro e w1 ⟨rfl,rfl⟩
  rw[HZ.out]
  go_wp2_with fail
  refine(ref_read base b _ L p s _ HM.out hp H).mono ?_
  rintro e w2 ⟨v,rfl,hv,he⟩
  have RV:=η (hv.rd (zG _))
  have HU:=η (mread_u8 HM.out.u8 p s)
  have HS:Hid (s.toNat≤8):=by
   have:=HZ.out
   simp only[vU,Bool.or_eq_true,beq_iff_eq]at this
   show _≤_;omega
  clear hv
  obtain⟨va,vn,vc,rfl,hvn,hVN⟩:=RV.out.val
  by_cases hne:(yK (zV L) p s).2=0
  case neg =>
   have h1:((yK (zV L) p s).2 != 0)=true:=by simpa using hne
   have HE:=η (mread_err hne)
   clear hne
   go_wp2_with fail
   go_returns
   exact⟨by simp only[kE,HZ.out,if_true,HE.out];rfl,by (repeat (first|exact xE0 _|assumption|refine xE1 ?_ _|refine xE2 ?_|refine xE3 ?_ _|refine xE4 ?_ (by assumption)))⟩
  case pos =>
   have h1:((yK (zV L) p s).2 != 0)=false:=by simp[hne]
   have HE:=η hne
   clear hne
   have hv8:vn≤8:=by have h1:=HU.out.2;have h2:=HS.out;have h3:=hVN.out;omega
   go_wp2_with fail
   go_loop [11,10] (fun i n=>∃ k:Nat,k≤vn∧i=.int .i64 ((k:Int) - 1)∧n=.int .u64 (le ((yK (zV L) p s).1.drop k))) (fun i _=>(intOf i+1).toNat)
   case atStart=>exact⟨vn,Nat.le_refl _,rfl,by rw[List.drop_of_length_le (by have:=hVN.out;omega)];rfl⟩
   case round =>
    obtain⟨k,hk,rfl,rfl⟩:=hrel
    cases k with
    | succ k =>
     obtain⟨x,hx⟩:=zK (xs:=(yK (zV L) p s).1) (k:=k) (by have:=hVN.out;omega)
     have ia:=fun W=>RV.out.run_at (P:=Tryz.prog) el_u8.under el_u8.size .i64 (k:Int) (by omega) (by omega) W
     have ca:=RV.out.cell hx (j:=0) rfl
     simp only[Nat.mul_one,Nat.add_zero,Int.toNat_natCast]at ia ca
     have HX:=η hx
     clear hx
     have hx0:0≤x:=(HU.out.1 x (List.mem_of_getElem? HX.out)).1
     have hx1:x≤255:=(HU.out.1 x (List.mem_of_getElem? HX.out)).2
     have hb:=le_lt ((yK (zV L) p s).1.drop (k+1)) (fun x hx=>HU.out.1 x (List.mem_of_mem_drop hx))
     have hb0:0≤le ((yK (zV L) p s).1.drop (k+1)):=hb.1
     have hb1:le ((yK (zV L) p s).1.drop (k+1)) < 72057594037927936:=by
      refine Int.lt_of_lt_of_le hb.2 ?_
      rw[List.length_drop]
      exact pow_le7 _ (by have:=hVN.out;omega)
     have hk1:((k+1:Nat):Int) - 1=k:=by omega
     have hkk:decide ((0:Int)≤k)=true:=by simp
     rw[hk1]
     clear hb hk1
     obtain⟨N,hN⟩:∃ N,le ((yK (zV L) p s).1.drop (k+1))=N:=⟨_,rfl⟩
     have HN:=η hN
     rw[hN]at hb0 hb1 ⊢
     clear hN
     go_wp2
     go_round
     case rel=>exact⟨k,by omega,by go_num,by rw[le_drop HX.out,HN.out];congr 1;omega⟩
     case measure=>simp[intOf]
    | zero =>
     go_wp2
     go_returns
     refine⟨?_,by (repeat (first|exact xE0 _|assumption|refine xE1 ?_ _|refine xE2 ?_|refine xE3 ?_ _|refine xE4 ?_ (by assumption)))⟩
     simp only[kE,HZ.out,if_true,HE.out]
     rfl
end Go.Proofs.YtppefchjoodgnaaGreat
