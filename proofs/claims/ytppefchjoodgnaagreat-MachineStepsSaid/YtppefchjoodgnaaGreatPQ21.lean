import Derived.Test.YtppefchjoodgnaaGreatPQ20
import Derived.Test.YtppefchjoodgnaaGreatPQ10
import Derived.Test.YtppefchjoodgnaaGreatPQ11
import Derived.Test.YtppefchjoodgnaaGreatPQ19
import Derived.Test.YtppefchjoodgnaaGreatPQ17
set_option linter.unusedSimpArgs false
set_option linter.unusedVariables false
namespace Go.Proofs.YtppefchjoodgnaaGreat
open Go.RowKit
def cmpN (x y:Int):Int:=if x < y then -1 else if y < x then 1 else 0
theorem p_nanU (x:Int)(w:World):Calls Tryz.prog 200 #[.int .u64 x] w fun e w'=>e=.returned (.bool false)∧w'=w:=by
 have hx:(x != x)=false:=by simp
 go_enter Tryz.func200,Tryz.ntmps200
 go_wp2_with fail
 go_returns
 exact⟨rfl,rfl⟩
theorem p_nanI (x:Int)(w:World):Calls Tryz.prog 201 #[.int .i64 x] w fun e w'=>e=.returned (.bool false)∧w'=w:=by
 have hx:(x != x)=false:=by simp
 go_enter Tryz.func201,Tryz.ntmps201
 go_wp2_with fail
 go_returns
 exact⟨rfl,rfl⟩
theorem p_cmpU (x y:Int)(w:World):Calls Tryz.prog 180 #[.int .u64 x,.int .u64 y] w fun e w'=>e=.returned (.int .i64 (cmpN x y))∧w'=w:=by
 have h3:x < y∨y < x∨x=y:=by omega
 have hx:(x != x)=false:=by simp
 have hy:(y != y)=false:=by simp
 rcases h3 with h|h|h
 ·have e1:cmpN x y=-1:=by unfold cmpN;rw[if_pos h]
  rw[e1]
  go_enter Tryz.func180,Tryz.ntmps180
  go_wp2_with (go_at_call 200;refine(p_nanU _ _).mono ?_;rintro e w1 ⟨rfl,rfl⟩)
  go_returns
  exact⟨rfl,rfl⟩
 ·have e1:cmpN x y=1:=by unfold cmpN;rw[if_neg (by omega),if_pos h]
  have h':¬ x < y:=by omega
  rw[e1]
  go_enter Tryz.func180,Tryz.ntmps180
  go_wp2_with (go_at_call 200;refine(p_nanU _ _).mono ?_;rintro e w1 ⟨rfl,rfl⟩)
  go_returns
  exact⟨rfl,rfl⟩
 ·subst h
  have e1:cmpN x x=0:=by unfold cmpN;simp
  rw[e1]
  go_enter Tryz.func180,Tryz.ntmps180
  go_wp2_with (go_at_call 200;refine(p_nanU _ _).mono ?_;rintro e w1 ⟨rfl,rfl⟩)
  go_returns
  exact⟨rfl,rfl⟩
theorem p_cmpI (x y:Int)(w:World):Calls Tryz.prog 181 #[.int .i64 x,.int .i64 y] w fun e w'=>e=.returned (.int .i64 (cmpN x y))∧w'=w:=by
 have h3:x < y∨y < x∨x=y:=by omega
 have hx:(x != x)=false:=by simp
 have hy:(y != y)=false:=by simp
 rcases h3 with h|h|h
 ·have e1:cmpN x y=-1:=by unfold cmpN;rw[if_pos h]
  rw[e1]
  go_enter Tryz.func181,Tryz.ntmps181
  go_wp2_with (go_at_call 201;refine(p_nanI _ _).mono ?_;rintro e w1 ⟨rfl,rfl⟩)
  go_returns
  exact⟨rfl,rfl⟩
 ·have e1:cmpN x y=1:=by unfold cmpN;rw[if_neg (by omega),if_pos h]
  have h':¬ x < y:=by omega
  rw[e1]
  go_enter Tryz.func181,Tryz.ntmps181
  go_wp2_with (go_at_call 201;refine(p_nanI _ _).mono ?_;rintro e w1 ⟨rfl,rfl⟩)
  go_returns
  exact⟨rfl,rfl⟩
 ·subst h
  have e1:cmpN x x=0:=by unfold cmpN;simp
  rw[e1]
  go_enter Tryz.func181,Tryz.ntmps181
  go_wp2_with (go_at_call 201;refine(p_nanI _ _).mono ?_;rintro e w1 ⟨rfl,rfl⟩)
  go_returns
  exact⟨rfl,rfl⟩
def ordN (op o:Int):Bool :=
 if op=16 then o == 0 else if op=80 then o != 0 else if op=48∨op=112 then o == 0 || o == 1 else if op=32∨op=96 then o == 1
 else if op=176∨op=208 then o == 0 || o == -1 else o == -1
theorem p_compared (op o:Int)(w:World)(ho:o=-1∨o=0∨o=1)(h:op=16∨op=80∨op=32∨op=48∨op=160∨op=176∨op=96∨op=112∨op=192∨op=208):
  Calls Tryz.prog 182 #[.int .u8 op,.int .i64 o] w fun e w'=>e=.returned (.tuple #[.bool (ordN op o),.bool true])∧w'=w:=by
 rcases ho with rfl|rfl|rfl<;>rcases h with rfl|rfl|rfl|rfl|rfl|rfl|rfl|rfl|rfl|rfl
 all_goals
  go_enter Tryz.func182,Tryz.ntmps182
  go_wp2_with fail
  go_returns
  exact⟨rfl,rfl⟩
theorem cmp0 (x y:Int):(cmpN x y == 0)=(x == y):=by
 unfold cmpN
 by_cases h:x < y
 ·rw[if_pos h];have:x≠y:=by omega
  simp[this]
 ·rw[if_neg h]
  by_cases h2:y < x
  ·rw[if_pos h2];have:x≠y:=by omega
   simp[this]
  ·rw[if_neg h2];have:x=y:=by omega
   simp[this]
theorem cmp1 (x y:Int):(cmpN x y == 1)=decide (y < x):=by
 unfold cmpN
 by_cases h:x < y
 ·rw[if_pos h];have:¬ y < x:=by omega
  simp[this]
 ·rw[if_neg h]
  by_cases h2:y < x
  ·rw[if_pos h2];simp[h2]
  ·rw[if_neg h2];simp[h2]
theorem cmpM (x y:Int):(cmpN x y == -1)=decide (x < y):=by
 unfold cmpN
 by_cases h:x < y
 ·rw[if_pos h];simp[h]
 ·rw[if_neg h]
  by_cases h2:y < x
  ·rw[if_pos h2];simp[h]
  ·rw[if_neg h2];simp[h]
theorem cmpR (x y:Int):cmpN x y=-1∨cmpN x y=0∨cmpN x y=1:=by
 unfold cmpN
 split
 ·exact .inl rfl
 ·split
  ·exact .inr (.inr rfl)
  ·exact .inr (.inl rfl)
theorem le_or (x y:Int):(x == y || decide (y < x))=decide (x ≥ y):=by
 rw[Bool.eq_iff_iff];simp;omega
theorem ge_or (x y:Int):(x == y || decide (x < y))=decide (x≤y):=by
 rw[Bool.eq_iff_iff];simp;omega
theorem top64 {p:Int}(h0:0≤p)(h1:p≤18446744073709551615):IntKind.u64.wrap (p+9223372036854775808)=wrap64 p+9223372036854775808:=by
 rw[IntKind.wrap_u64];unfold wrap64;omega
set_option maxRecDepth 20000 in
set_option maxHeartbeats 8000000 in
theorem p_is (op:Int)(wide:Bool)(a b:Int)(w:World)(h:pL op)(h0:0≤a)(h1:a≤18446744073709551615)(k0:0≤b)(k1:b≤18446744073709551615):
  Calls Tryz.prog 136 #[.int .u8 op,.bool wide,.int .u64 a,.int .u64 b] w fun e w'=>e=.returned (.tuple #[.bool (uE op wide a b),.int .i64 0])∧Ext w w':=by
 obtain⟨x,hx⟩:∃ x,(if wide then a else a%4294967296)=x:=⟨_,rfl⟩
 obtain⟨y,hy⟩:∃ x,(if wide then b else b%4294967296)=x:=⟨_,rfl⟩
 have hx1:0≤x∧x≤18446744073709551615:=by subst hx;split<;>omega
 have hy1:0≤y∧y≤18446744073709551615:=by subst hy;split<;>omega
 have hp:=jK (yV wide) hx1.1 hx1.2
 have hq:=jK (yV wide) hy1.1 hy1.2
 obtain⟨p,hp'⟩:∃ p,yY x (zZ wide)=p:=⟨_,rfl⟩
 obtain⟨q,hq'⟩:∃ p,yY y (zZ wide)=p:=⟨_,rfl⟩
 rw[hp']at hp
 rw[hq']at hq
 have ht1:=top64 hp.1 hp.2
 have ht2:=top64 hq.1 hq.2
 have HSX:=η (fun W=>p_Sign x (zZ wide) W (yV wide) hx1.1 hx1.2)
 have HSY:=η (fun W=>p_Sign y (zZ wide) W (yV wide) hy1.1 hy1.2)
 rw[hp']at HSX
 rw[hq']at HSY
 have hv:uE op wide a b=if op=64 then bits .and .u64 x y != 0 else ordN op (if op=96∨op=112∨op=192∨op=208 then cmpN (wrap64 p) (wrap64 q) else cmpN x y):=by
  unfold uE isN topN
  rw[hx,hy,hp',hq',ht1,ht2]
  unfold ordN
  rcases h with rfl|rfl|rfl|rfl|rfl|rfl|rfl|rfl|rfl|rfl|rfl
  all_goals simp only[show ∀ m n:Int,(m=n)=(m=n) from fun _ _=>rfl]
  all_goals simp[bne,cmp0,cmp1,cmpM,le_or,ge_or]
  all_goals (try first|omega|(rw[Bool.eq_iff_iff];simp;omega))
 rw[hv]
 have HX:=η hx
 have HY:=η hy
 clear hx hy hp' hq' hv ht1 ht2
 have HC1:=η (cmpR x y)
 have HC2:=η (cmpR (wrap64 p) (wrap64 q))
 by_cases h64:op=64
 ·subst h64
  rw[if_pos rfl]
  cases wide
  all_goals
   simp only[Bool.false_eq_true,if_false,if_true]at HX HY
   go_enter Tryz.func136,Tryz.ntmps136
   go_wp2_with fail
   try simp only[HX.out,HY.out]
   go_returns
   exact⟨rfl,Ext.rfl' _⟩
 ·rw[if_neg h64]
  have HO1:=η (fun W=>p_compared op (cmpN x y) W HC1.out (by unfold pL at h;omega))
  have HO2:=η (fun W=>p_compared op (cmpN (wrap64 p) (wrap64 q)) W HC2.out (by unfold pL at h;omega))
  by_cases hs:op=96∨op=112∨op=192∨op=208
  ·rw[if_pos hs]
   clear h h64 HO1
   rcases hs with rfl|rfl|rfl|rfl<;>cases wide
   all_goals
    simp only[zZ,Bool.false_eq_true,if_false,if_true]at HX HY HSX HSY
    go_enter Tryz.func136,Tryz.ntmps136
    go_wp2_with fail
    try simp only[HX.out,HY.out]
    refine(p_cmpU x y _).mono ?_
    rintro e w1 ⟨rfl,rfl⟩
    go_wp2_with fail
    refine(HSX.out _).mono ?_
    rintro e w1 ⟨rfl,rfl⟩
    go_wp2_with fail
    refine(HSY.out _).mono ?_
    rintro e w1 ⟨rfl,rfl⟩
    go_wp2_with fail
    refine(p_cmpI _ _ _).mono ?_
    rintro e w1 ⟨rfl,rfl⟩
    go_wp2_with fail
    refine(HO2.out _).mono ?_
    rintro e w1 ⟨rfl,rfl⟩
    go_wp2_with fail
    go_returns
    exact⟨rfl,by (repeat (first|exact xE0 _|assumption|refine xE1 ?_ _|refine xE2 ?_|refine xE3 ?_ _|refine xE4 ?_ (by assumption)))⟩
  ·rw[if_neg hs]
   have h6:op=16∨op=80∨op=32∨op=48∨op=160∨op=176:=by unfold pL at h;omega
   clear h h64 hs HO2
   rcases h6 with rfl|rfl|rfl|rfl|rfl|rfl<;>cases wide
   all_goals
    simp only[zZ,Bool.false_eq_true,if_false,if_true]at HX HY
    go_enter Tryz.func136,Tryz.ntmps136
    go_wp2_with fail
    try simp only[HX.out,HY.out]
    refine(p_cmpU x y _).mono ?_
    rintro e w1 ⟨rfl,rfl⟩
    go_wp2_with fail
    refine(HO1.out _).mono ?_
    rintro e w1 ⟨rfl,rfl⟩
    go_wp2_with fail
    go_returns
    exact⟨rfl,by (repeat (first|exact xE0 _|assumption|refine xE1 ?_ _|refine xE2 ?_|refine xE3 ?_ _|refine xE4 ?_ (by assumption)))⟩
theorem sign_imm {a:Int}(h:-2147483648≤a∧a≤2147483647):yY (a%4294967296) 32=IntKind.u64.wrap (wrap64 a):=by
 have e:wrap64 a=a:=by unfold wrap64;omega
 rw[e]
 simp only[yY,cutN,qG,IntKind.wrap,IntKind.bits,IntKind.signed]
 simp
 split<;>omega
theorem sign_off {a:Int}(h:-32768≤a∧a≤32767):yY (a%65536) 16=IntKind.u64.wrap (wrap64 a):=by
 have e:wrap64 a=a:=by unfold wrap64;omega
 rw[e]
 simp only[yY,cutN,qG,IntKind.wrap,IntKind.bits,IntKind.signed]
 simp
 split<;>omega
theorem p_imm (x:Ins)(w:World)(hx:x.Ok):Calls Tryz.prog 175 #[x.agg] w fun e w'=>e=.returned (.int .u64 (immN x))∧w'=w.alloc (zQ x):=by
 have HX:=η (sign_imm hx.imm)
 unfold immN
 rw[HX.out]
 clear HX
 go_enter Tryz.func175,Tryz.ntmps175
 go_wp2_with fail
 go_returns
 exact⟨rfl,rfl⟩
theorem p_where (n:Int)(x:Ins)(w:World)(hx:x.Ok):Calls Tryz.prog 129 #[.int .u64 n,x.agg] w fun e w'=>e=.returned (.int .u64 (IntKind.u64.wrap (n+yY (x.off%65536) 16)))∧w'=w.alloc (zQ x):=by
 have HX:=η (sign_off hx.off)
 rw[HX.out]
 clear HX
 go_enter Tryz.func129,Tryz.ntmps129
 go_wp2_with fail
 go_returns
 exact⟨rfl,rfl⟩
section
variable {F0 Z0:List Nat} {wf w w':World} {base mb:Nat} {σ:RS}
theorem PRel.cell1 (h:PRel F0 Z0 wf base w mb σ)(i:Nat)(v:Value){σ':RS}(hc:∀ l,(xZ σ l).set i v=xZ σ' l)(hV:σ'.V=σ.V:=by rfl)(hL:σ'.L=σ.L:=by rfl)(hD:σ'.D=σ.D:=by rfl)(hd:σ'.dr=σ.dr:=by rfl)(hcl:σ'.calls=σ.calls:=by rfl):PRel F0 Z0 wf base (w.setCell ⟨mb,i,none⟩ v) mb σ':=by
 refine h.turn ((Keep.rfl' _ _).setCell (by simp) v) (fun l hl=>?_) hV hL hD hd hcl
 have:=heap_setCell_same w mb i _ _ v hl.head
 rw[← hc l]
 simpa using this
theorem PRel.setR (h:PRel F0 Z0 wf base w mb σ){d:Nat}(hd:d≤10)(n:Int):PRel F0 Z0 wf base ((w.setCell ⟨mb,1+2 * d,none⟩ (.int .u64 n)).setCell ⟨mb,2+2 * d,none⟩ (.bool true)) mb (σ.setR d n) :=
 (h.cell1 (1+2 * d) _ (fun l=>pset_R σ l hd n)).cell1 (2+2 * d) _ (fun l=>pset_S {σ with R:=updN σ.R d n} l hd true)
def PAns (F0 Z0:List Nat)(wf:World)(base mb:Nat)(σ:RS)(r:Value)(e:Ending)(w':World):Prop:=e=.returned r∧PRel F0 Z0 wf base w' mb σ
theorem qW (x:Ins)(n:Int)(h:PRel F0 Z0 wf base w mb σ)(d:Nat)(hxd:x.dst=d)(hd:d≤10):
  Calls Tryz.prog 93 #[.pointer (some ⟨mb,0,none⟩),x.agg,.int .u64 n,.int .i64 0] w (PAns F0 Z0 wf base mb (σ.setR d n) (.int .i64 0)):=by
 obtain⟨op,dst,src,off,imm⟩:=x
 simp only at hxd
 subst hxd
 have HM:=η h
 obtain⟨h0,hl,l,h1,h2,h3⟩:=h
 have HA:=η h1
 clear h0 hl h1 h2 h3
 have hd1:(d:Int)≤10:=by omega
 have hd2:0≤(d:Int):=by omega
 have hd3:(d:Int) < 11:=by omega
 go_enter Tryz.func93,Tryz.ntmps93
 go_upto_region 2 with fail
 have HX:=η (zD w (zQ ⟨op,d,src,off,imm⟩) rfl)
 have HE:Hid (Ext w (w.alloc (zQ ⟨op,d,src,off,imm⟩))):=η (by (repeat (first|exact xE0 _|assumption|refine xE1 ?_ _|refine xE2 ?_|refine xE3 ?_ _|refine xE4 ?_ (by assumption))))
 simp only[zQ]at HX HE
 generalize hF:w.alloc (.cells #[.int .u8 op,.int .u8 d,.int .u8 src,.int .i16 off,.int .i32 imm] 58)=wa at HX HE ⊢
 clear hF
 have HM1:=η (HM.out.go HE.out)
 have c1:=(HA.out.ext HE.out).cell _ (pU σ l hd)
 have c2:=(HA.out.ext HE.out).cell _ (pQ σ l hd)
 have mf:=fun i=>zA (i:=i) (HA.out.ext HE.out).head
 have hlt:=HM1.out.lt
 have hlt0:=HM.out.lt
 generalize w.heap.size=q at HX hlt0 ⊢
 have x1:=cO (i:=1) HX.out
 simp only[gA,gB,gC]at x1
 have HS:=η (HM1.out.setR hd n)
 rw[show 1+2 * d=1+d * 2 by omega]at c1
 rw[show 2+2 * d=1+d * 2+1 by omega]at c2
 rw[show 1+2 * d=1+d * 2 by omega,show 2+2 * d=1+d * 2+1 by omega]at HS
 clear HX
 go_region
 all_goals
  go_wp2_with fail
  go_returns
  exact⟨rfl,HS.out.go (by (repeat (first|exact xE0 _|assumption|refine xE1 ?_ _|refine xE2 ?_|refine xE3 ?_ _|refine xE4 ?_ (by assumption))))⟩
theorem p_becomesE (x:Ins)(n e0:Int)(he:e0≠0)(w:World):
  Calls Tryz.prog 93 #[.pointer (some ⟨mb,0,none⟩),x.agg,.int .u64 n,.int .i64 e0] w fun e w'=>e=.returned (.int .i64 e0)∧Ext w w':=by
 go_enter Tryz.func93,Tryz.ntmps93
 go_wp2_with fail
 go_returns
 exact⟨rfl,by (repeat (first|exact xE0 _|assumption|refine xE1 ?_ _|refine xE2 ?_|refine xE3 ?_ _|refine xE4 ?_ (by assumption)))⟩
def gN (σ:RS)(x:Ins)(k:Wh):Bool:=(σ.second x k).2 && (σ.S x.dst.toNat || (k.kind == 1 && k.op == 176))
set_option maxHeartbeats 4000000 in
theorem p_both (x:Ins)(k:Wh)(h:PRel F0 Z0 wf base w mb σ)(hx:x.Ok)(d s:Nat)(hxd:x.dst=d)(hd:d≤10)(hxs:x.src=s)(hs:s≤10):
  Calls Tryz.prog 133 #[.pointer (some ⟨mb,0,none⟩),x.agg,k.agg] w fun e w'=>e=.returned (.tuple #[.int .u64 (σ.R d),.int .u64 (σ.second x k).1,.bool (gN σ x k)])∧Ext w w':=by
 have HI:=η (fun W=>p_imm x W hx)
 obtain⟨op,dst,src,off,imm⟩:=x
 obtain⟨kind,kop,wide,reg,sg,size⟩:=k
 simp only at hxd hxs
 subst hxd
 subst hxs
 have HM:=η h
 obtain⟨h0,hl,l,h1,h2,h3⟩:=h
 have HA:=η h1
 clear h0 hl h1 h2 h3 hx
 have hd1:(d:Int)≤10:=by omega
 have hd2:0≤(d:Int):=by omega
 have hd3:(d:Int) < 11:=by omega
 have hs1:(s:Int)≤10:=by omega
 have hs2:0≤(s:Int):=by omega
 have hs3:(s:Int) < 11:=by omega
 simp only[gN,RS.second,Int.toNat_natCast]
 generalize hq:immN ⟨op,d,s,off,imm⟩=im at HI ⊢
 clear hq
 simp only[zQ]at HI
 go_enter Tryz.func133,Tryz.ntmps133
 go_upto_region 1 with fail
 have HX:=η (zB (zF ⟨kind,kop,wide,reg,sg,size⟩) (zD w (zQ ⟨op,d,s,off,imm⟩) rfl))
 have HW:=η (zD (w.alloc (zQ ⟨op,d,s,off,imm⟩)) (zF ⟨kind,kop,wide,reg,sg,size⟩) (k:=w.heap.size+1) (by simp))
 have HE1:Hid (Ext w ((w.alloc (zQ ⟨op,d,s,off,imm⟩)).alloc (zF ⟨kind,kop,wide,reg,sg,size⟩))):=η (by (repeat (first|exact xE0 _|assumption|refine xE1 ?_ _|refine xE2 ?_|refine xE3 ?_ _|refine xE4 ?_ (by assumption))))
 have hBw:mb < w.heap.size:=HM.out.lt
 simp only[zQ,zF]at HX HW HE1
 generalize hF:(w.alloc (.cells #[.int .u8 op,.int .u8 d,.int .u8 s,.int .i16 off,.int .i32 imm] 58)).alloc (.cells #[.int .u8 kind,.int .u8 kop,.bool wide,.bool reg,.bool sg,.int .i64 size] 60)=wa at HX HW HE1 ⊢
 have HA1:=η (HA.out.ext HE1.out)
 clear hF
 generalize w.heap.size=q at HX HW hBw ⊢
 have hlq:q+1 < wa.heap.size:=zE HW.out
 have x0:=cO (i:=0) HX.out
 have x1:=cO (i:=1) HX.out
 have x2:=cO (i:=2) HX.out
 have x3:=cO (i:=3) HX.out
 have x4:=cO (i:=4) HX.out
 have m1:=HA1.out.cell _ (pU σ l hd)
 have m2:=HA1.out.cell _ (pQ σ l hd)
 have n1:=HA1.out.cell _ (pU σ l hs)
 have n2:=HA1.out.cell _ (pQ σ l hs)
 simp only[gA,gB,gC]at x0 x1 x2 x3 x4
 rw[show 1+2 * d=1+d * 2 by omega]at m1
 rw[show 2+2 * d=1+d * 2+1 by omega]at m2
 rw[show 1+2 * s=1+s * 2 by omega]at n1
 rw[show 2+2 * s=1+s * 2+1 by omega]at n2
 have N1:=η n1
 have N2:=η n2
 clear n1 n2
 have hS:∀ W,Ext wa W→(W.cell? ⟨q,0,none⟩=some (.int .u8 op)∧W.cell? ⟨q,1,none⟩=some (.int .u8 d)∧W.cell? ⟨q,2,none⟩=some (.int .u8 s)∧W.cell? ⟨q,3,none⟩=some (.int .i16 off)∧W.cell? ⟨q,4,none⟩=some (.int .i32 imm)∧W.cell? ⟨mb,1+d * 2,none⟩=some (.int .u64 (σ.R d))∧W.cell? ⟨mb,1+d * 2+1,none⟩=some (.bool (σ.S d))):=fun W h =>
  ⟨h.cellOf x0,h.cellOf x1,h.cellOf x2,h.cellOf x3,h.cellOf x4,h.cellOf m1,h.cellOf m2⟩
 have HS:=η hS
 clear hS
 go_cut [9,10] from 11 to 21 (fun v9 v10 wx=>∃ p r:Nat,v9=.pointer (some ⟨p,0,none⟩)∧v10=.pointer (some ⟨r,0,none⟩)∧wa.heap.size≤r∧p≠r∧Hid (wx.heap[p]?=some (.cells #[.int .u64 (σ.R d),.bool (σ.S d)] 105 (0,0))∧wx.heap[r]?=some (.cells #[.int .u64 im,.bool true] 105 (0,0))∧Ext wa wx))
 case first =>
  go_region_held3 (fun w'=>w'.cell? ⟨q,0,none⟩=some (.int .u8 op)∧w'.cell? ⟨q,1,none⟩=some (.int .u8 d)∧w'.cell? ⟨q,2,none⟩=some (.int .u8 s)∧w'.cell? ⟨q,3,none⟩=some (.int .i16 off)∧w'.cell? ⟨q,4,none⟩=some (.int .i32 imm)∧w'.cell? ⟨mb,1+d * 2,none⟩=some (.int .u64 (σ.R d))∧w'.cell? ⟨mb,1+d * 2+1,none⟩=some (.bool (σ.S d)))
   (exact HS.out _ (by (repeat (first|exact xE0 _|assumption|refine xE1 ?_ _|refine xE2 ?_|refine xE3 ?_ _|refine Below.setCell ?_ (by first|(simp;done)|(simp;omega)|omega) _|refine Ext.trans' ?_ (by assumption)))))
   ((go_at_call 175;refine(HI.out _).mono ?_;rintro e w5 ⟨rfl,rfl⟩))
  all_goals
   go_wp2_with fail
   go_meet
   refine⟨_,_,rfl,rfl,by first|exact Nat.le_refl _|omega|(simp;done)|(simp;omega),by first|omega|(simp;done)|(simp;omega),η ⟨?_,?_,by (repeat (first|exact xE0 _|assumption|refine xE1 ?_ _|refine xE2 ?_|refine xE3 ?_ _|refine xE4 ?_ (by assumption)))⟩⟩
   ·(repeat (first|(refine zD _ _ ?_;simp;done)|refine zB _ ?_))
   ·(repeat (first|(refine zD _ _ ?_;simp;done)|refine zB _ ?_))
 case rest =>
  obtain⟨p,r,rfl,rfl,hlr,hpr,HI2⟩:=hcut
  clear x0 x1 x2 x3 x4 m1 m2 HS HI
  have HE2:=η (HE1.out.trans' HI2.out.2.2)
  have p0:=cO (i:=0) HI2.out.1
  have p1:=cO (i:=1) HI2.out.1
  have r0:=cO (i:=0) HI2.out.2.1
  have r1:=cO (i:=1) HI2.out.2.1
  have y0:=cO (i:=0) (HI2.out.2.2.obj HW.out)
  have y1:=cO (i:=1) (HI2.out.2.2.obj HW.out)
  have y3:=cO (i:=3) (HI2.out.2.2.obj HW.out)
  have x2:=cO (i:=2) (HI2.out.2.2.obj HX.out)
  have n1:=HI2.out.2.2.cellOf N1.out
  have n2:=HI2.out.2.2.cellOf N2.out
  have rf:=fun i=>zA (i:=i) HI2.out.2.1
  simp only[gA,gB,gC]at p0 p1 r0 r1 y0 y1 y3 x2
  have hrq:r≠q+1:=by omega
  have hrw:w.heap.size≤r:=by have:=HE1.out.size;omega
  have hlc:r < wc.heap.size:=zE HI2.out.2.1
  cases reg with
  | false =>
   cases hSd:σ.S d<;>cases hk1:(kind == 1)<;>rw[hSd]at p1
   all_goals
    go_wp2_with fail
    go_quiet (fail)
    go_wp2_with fail
    go_returns
    refine⟨?_,by have:=HE2.out;(repeat (first|exact xE0 _|assumption|refine xE1 ?_ _|refine xE2 ?_|refine xE3 ?_ _|refine xE4 ?_ (by assumption)))⟩
    simp[hSd,hk1]
  | true =>
   have HSW:=η (heap_setCell_same _ r 1 _ _ (.bool (σ.S s)) (heap_setCell_same wc r 0 _ _ (.int .u64 (σ.R s)) HI2.out.2.1))
   have hEW:Ext w ((wc.setCell ⟨r,0,none⟩ (.int .u64 (σ.R s))).setCell ⟨r,1,none⟩ (.bool (σ.S s))):=by have:=HE2.out;(repeat (first|exact xE0 _|assumption|refine xE1 ?_ _|refine xE2 ?_|refine xE3 ?_ _|refine Below.setCell ?_ (by first|(simp;done)|(simp;omega)|omega) _|refine Ext.trans' ?_ (by assumption)))
   have HPW:Hid (((wc.setCell ⟨r,0,none⟩ (.int .u64 (σ.R s))).setCell ⟨r,1,none⟩ (.bool (σ.S s))).heap[p]?=some (.cells #[.int .u64 (σ.R d),.bool (σ.S d)] 105 (0,0))):=η (by
    rw[heap_setCell_other _ _ _ _ hpr,heap_setCell_other _ _ _ _ hpr];exact HI2.out.1)
   have HQW:Hid (((wc.setCell ⟨r,0,none⟩ (.int .u64 (σ.R s))).setCell ⟨r,1,none⟩ (.bool (σ.S s))).heap[q+1]?=some (.cells #[.int .u8 kind,.int .u8 kop,.bool wide,.bool true,.bool sg,.int .i64 size] 60 (0,0))):=η (by
    rw[heap_setCell_other _ _ _ _ (Ne.symm hrq),heap_setCell_other _ _ _ _ (Ne.symm hrq)];exact HI2.out.2.2.obj HW.out)
   have HEW:=η hEW
   clear hEW
   go_upto_region 3 with fail
   go_region
   all_goals
    have HEX:=η HEW.out.drew
    generalize hG:((wc.setCell ⟨r,0,none⟩ (.int .u64 (σ.R s))).setCell ⟨r,1,none⟩ (.bool (σ.S s))).drew=wd at HEX ⊢
    have P0:=cO (i:=0) (w:=wd) (by rw[← hG];exact HPW.out)
    have P1:=cO (i:=1) (w:=wd) (by rw[← hG];exact HPW.out)
    have R0:=cO (i:=0) (w:=wd) (by rw[← hG];exact HSW.out)
    have R1:=cO (i:=1) (w:=wd) (by rw[← hG];exact HSW.out)
    have Y0:=cO (i:=0) (w:=wd) (by rw[← hG];exact HQW.out)
    have Y1:=cO (i:=1) (w:=wd) (by rw[← hG];exact HQW.out)
    clear hG HPW HSW HQW p0 p1 r0 r1 y0 y1 y3 x2 n1 n2 rf
    simp only[gA,gB,gC]at P0 P1 Y0 Y1
    simp at R0 R1
    cases hSs:σ.S s<;>cases hSd:σ.S d<;>cases hk1:(kind == 1)<;>rw[hSd]at P1<;>rw[hSs]at R1
    all_goals
     go_wp2_with fail
     go_quiet (fail)
     go_wp2_with fail
     go_returns
     refine⟨?_,by have:=HEX.out;(repeat (first|exact xE0 _|assumption|refine xE1 ?_ _|refine xE2 ?_|refine xE3 ?_ _|refine xE4 ?_ (by assumption)))⟩
     simp[hSs,hSd,hk1]
end
section
variable {F0 Z0:List Nat} {wf w w':World} {base mb:Nat} {σ:RS}
def isT (d:Nat)(n:Int):Bool:=decide (12884901888≤n∧n < 12884901888+d)
set_option maxHeartbeats 1000000 in
theorem p_word (h:PRel F0 Z0 wf base w mb σ)(n:Int)(hn:u64R n):
  Calls Tryz.prog 171 #[.pointer (some ⟨mb,0,none⟩),.int .u64 n] w fun e w'=>e=.returned (.tuple #[.int .i64 (if isT σ.D.length n then tblN σ.D.length n else 0),.bool (isT σ.D.length n)])∧Ext w w':=by
 obtain⟨h0,hl,l,g1,g2,g3⟩:=h
 obtain⟨a,m,c,hdv,hm,hN⟩:=g1.defs.val
 have hd:=g1.cell 25 rfl
 rw[hdv]at hd
 have hlt:=zE g1.head
 have HN:=η hn
 obtain hD:m=σ.D.length:=hN.out
 rw[← hD]
 clear h0 hl g1 g2 g3 hdv hN hD hn
 have e3:mat 3 0=12884901888:=rfl
 have em:IntKind.u64.wrap (m:Int)=m:=by simp[IntKind.wrap,IntKind.bits,IntKind.signed];omega
 obtain⟨i,hi⟩:∃ i,IntKind.u64.wrap (n - 12884901888)=i:=⟨_,rfl⟩
 have hi2:i=if 12884901888≤n then n - 12884901888 else n - 12884901888+18446744073709551616:=by
  have:=HN.out
  unfold u64R at this
  rw[← hi]
  simp only[IntKind.wrap,IntKind.bits,IntKind.signed]
  simp
  split<;>omega
 have HI:=η hi2
 have hT:isT m n=decide (i < m):=by
  have:=HN.out
  unfold u64R at this
  rw[hi2]
  unfold isT
  congr 1
  apply propext
  constructor
  ·rintro ⟨h1,h2⟩;rw[if_pos h1];omega
  ·intro h;split at h<;>omega
 rw[hT]
 have hi0:0≤i:=by have:=HN.out;unfold u64R at this;rw[hi2];split<;>omega
 have HV:=η (show i < m→tblN m n=i from fun h=>by
  have:=hT
  rw[decide_eq_true h]at this
  have h3:12884901888≤n∧n < 12884901888+m:=by simpa[isT]using this
  rw[tblN,if_pos h3,hi2,if_pos h3.1])
 clear hT hi2
 by_cases hc:i < m
 ·rw[decide_eq_true hc,if_pos rfl,HV.out hc]
  have hw:wrap64 i=i:=by unfold wrap64;omega
  go_enter Tryz.func171,Tryz.ntmps171
  go_wp2_with fail
  refine(tT 3 0 _).mono ?_
  rintro e w1 ⟨rfl,rfl⟩
  rw[e3]
  go_wp2_with fail
  go_returns
  exact⟨rfl,by (repeat (first|exact xE0 _|assumption|refine xE1 ?_ _|refine xE2 ?_|refine xE3 ?_ _|refine xE4 ?_ (by assumption)))⟩
 ·rw[decide_eq_false hc]
  go_enter Tryz.func171,Tryz.ntmps171
  go_wp2_with fail
  refine(tT 3 0 _).mono ?_
  rintro e w1 ⟨rfl,rfl⟩
  rw[e3]
  go_wp2_with fail
  go_returns
  exact⟨rfl,by (repeat (first|exact xE0 _|assumption|refine xE1 ?_ _|refine xE2 ?_|refine xE3 ?_ _|refine xE4 ?_ (by assumption)))⟩
set_option maxHeartbeats 4000000 in
theorem p_load (x:Ins)(k:Wh)(h:PRel F0 Z0 wf base w mb σ)(hx:x.Ok)(hk:KindOk x k)(h1:k.kind=5):
  Calls Tryz.prog 95 #[.pointer (some ⟨mb,0,none⟩),x.agg,k.agg] w (PAns F0 Z0 wf base mb (σ.load x k).1 (.int .i64 (σ.load x k).2)):=by
 have HWH:=η (fun n W=>p_where n x W hx)
 obtain⟨op,dst,src,off,imm⟩:=x
 obtain⟨kind,kop,wide,reg,sg,size⟩:=k
 have hsrc:0≤src:=hx.src.1
 obtain⟨d,rfl⟩:∃ d:Nat,src=d:=⟨src.toNat,by omega⟩
 have hdd:d≤10:=by have:=hk.src;simp at this;omega
 have hdst:0≤dst:=hx.dst.1
 obtain⟨t,rfl⟩:∃ d:Nat,dst=d:=⟨dst.toNat,by omega⟩
 have htt:t≤10:=by have:=hk.dst;simp at this;omega
 have HM:=η h
 have HSZ:=η (hk.km (by omega) (by omega))
 obtain⟨rb,lv,L,cm,HV,HRF,_⟩:=h.mem
 obtain⟨h0,hl,l,g1,g2,g3⟩:=h
 have HAT:=η g1
 have HCM:=η cm
 clear hx hk h0 g1 g2 g3 hl h1 cm
 have HA:=η (addr_rng σ d ⟨op,t,d,off,imm⟩)
 obtain⟨A,hA⟩:∃ A,σ.addr d ⟨op,t,d,off,imm⟩=A:=⟨_,rfl⟩
 have hA2:IntKind.u64.wrap (σ.R d+yY (off%65536) 16)=A:=by rw[← hA];simp[RS.addr]
 rw[hA]at HA
 have HWR:=η (fun W=>(HWH.out (σ.R d) W).mono (R':=fun e w'=>e=.returned (.int .u64 A)∧Ext W w') (fun e w' h=>⟨by rw[h.1,← hA2],by rw[h.2];(repeat (first|exact xE0 _|assumption|refine xE1 ?_ _|refine xE2 ?_|refine xE3 ?_ _|refine xE4 ?_ (by assumption)))⟩))
 obtain⟨n,er,hL⟩:∃ n er,kE σ.V.1 A size=(n,er):=⟨_,_,rfl⟩
 have HLD:=η (fun W (he:Ext w W)=>(mem_load rb lv L A size W (HRF.out W he) HA.out.1 (η HA.out.2)).mono (R':=fun e w'=>e=.returned (.tuple #[.int .u64 n,.int .i64 er])∧Ext W w') (fun e w' h=>by rw[LoadAns,HV.out,hL]at h;exact h))
 have HLL:=η hL
 have HAA:=η hA
 clear hA hA2 hL HWH
 obtain⟨res,hres⟩:∃ r,RS.load σ ⟨op,t,d,off,imm⟩ ⟨kind,kop,wide,reg,sg,size⟩=r:=⟨_,rfl⟩
 rw[hres]
 have HRES:=η hres
 clear hres
 have hd1:(d:Int)≤10:=by omega
 have hd2:0≤(d:Int):=by omega
 have hd3:(d:Int) < 11:=by omega
 go_enter Tryz.func95,Tryz.ntmps95
 go_upto_region 1 with fail
 have HX:=η (zB (zF ⟨kind,kop,wide,reg,sg,size⟩) (zD w (zQ ⟨op,t,d,off,imm⟩) rfl))
 have HW:=η (zD (w.alloc (zQ ⟨op,t,d,off,imm⟩)) (zF ⟨kind,kop,wide,reg,sg,size⟩) (k:=w.heap.size+1) (by simp))
 have HE1:Hid (Ext w ((w.alloc (zQ ⟨op,t,d,off,imm⟩)).alloc (zF ⟨kind,kop,wide,reg,sg,size⟩))):=η (by (repeat (first|exact xE0 _|assumption|refine xE1 ?_ _|refine xE2 ?_|refine xE3 ?_ _|refine xE4 ?_ (by assumption))))
 simp only[zQ,zF]at HX HW HE1
 generalize hF:(w.alloc (.cells #[.int .u8 op,.int .u8 t,.int .u8 d,.int .i16 off,.int .i32 imm] 58)).alloc (.cells #[.int .u8 kind,.int .u8 kop,.bool wide,.bool reg,.bool sg,.int .i64 size] 60)=wa at HX HW HE1 ⊢
 have HA1:=η (HAT.out.ext HE1.out)
 have HM1:=η (HM.out.go HE1.out)
 clear hF
 generalize w.heap.size=q at HX HW ⊢
 have x2:=cO (i:=2) HX.out
 have m1:=HA1.out.cell _ (pU σ l hdd)
 have m2:=HA1.out.cell _ (pQ σ l hdd)
 simp only[gA,gB,gC]at x2
 rw[show 1+2 * d=1+d * 2 by omega]at m1
 rw[show 2+2 * d=1+d * 2+1 by omega]at m2
 have hS:∀ W,Ext wa W→(W.cell? ⟨q,2,none⟩=some (.int .u8 d)∧W.cell? ⟨mb,1+d * 2,none⟩=some (.int .u64 (σ.R d))∧W.cell? ⟨mb,1+d * 2+1,none⟩=some (.bool (σ.S d))):=fun W h =>
  ⟨h.cellOf x2,h.cellOf m1,h.cellOf m2⟩
 have HS:=η hS
 clear hS
 go_cut [7] from 10 to 17 (fun v7 wx=>∃ p:Nat,v7=.pointer (some ⟨p,0,none⟩)∧Hid (wx.heap[p]?=some (.cells #[.int .u64 (σ.R d),.bool (σ.S d)] 105 (0,0))∧Ext wa wx))
 case first =>
  go_region_held3 (fun w'=>w'.cell? ⟨q,2,none⟩=some (.int .u8 d)∧w'.cell? ⟨mb,1+d * 2,none⟩=some (.int .u64 (σ.R d))∧w'.cell? ⟨mb,1+d * 2+1,none⟩=some (.bool (σ.S d)))
   (exact HS.out _ (by (repeat (first|exact xE0 _|assumption|refine xE1 ?_ _|refine xE2 ?_|refine xE3 ?_ _|refine Below.setCell ?_ (by first|(simp;done)|(simp;omega)|omega) _|refine Ext.trans' ?_ (by assumption)))))
   ((fail))
  all_goals
   go_wp2_with fail
   go_meet
   refine⟨_,rfl,η ⟨?_,by (repeat (first|exact xE0 _|assumption|refine xE1 ?_ _|refine xE2 ?_|refine xE3 ?_ _|refine xE4 ?_ (by assumption)))⟩⟩
   (repeat (first|(refine zD _ _ ?_;simp;done)|refine zB _ ?_))
 case rest =>
  obtain⟨p,rfl,HI2⟩:=hcut
  obtain⟨p0,p1⟩:=κ2 HI2.out.1
  have HE2:=η (HE1.out.trans' HI2.out.2)
  have HM2:=η (HM1.out.go HI2.out.2)
  clear x2 m1 m2 HS HM1
  cases hs:σ.S d
  all_goals
   rw[hs]at p1
   have HSS:=η hs
   clear hs
  ·go_wp2_with fail
   go_returns
   obtain rfl:res=(σ,110):=by rw[← HRES.out,RS.load,if_pos];simpa using HSS.out
   exact⟨rfl,HM2.out.go (by (repeat (first|exact xE0 _|assumption|refine xE1 ?_ _|refine xE2 ?_|refine xE3 ?_ _|refine xE4 ?_ (by assumption))))⟩
  ·have x0:=cO (i:=0) (HI2.out.2.obj HX.out)
   have x1:=cO (i:=1) (HI2.out.2.obj HX.out)
   have x2:=cO (i:=2) (HI2.out.2.obj HX.out)
   have x3:=cO (i:=3) (HI2.out.2.obj HX.out)
   have x4:=cO (i:=4) (HI2.out.2.obj HX.out)
   have y5:=cO (i:=5) (HI2.out.2.obj HW.out)
   have hcm:=HE2.out.cellOf HCM.out
   have hlc:mb < wc.heap.size:=HM2.out.lt
   simp only[gA,gB,gC]at x0 x1 x2 x3 x4 y5
   go_upto_region 4 with fail
   go_cut [8,9] from 20 to 34 (fun v7 v8 wy=>v7=.int .u64 n∧v8=.int .i64 er∧Hid (Ext wc wy))
   case first =>
    have cmg:=Grow.cell hcm
    have x0g:=Grow.cell x0
    have x1g:=Grow.cell x1
    have x2g:=Grow.cell x2
    have x3g:=Grow.cell x3
    have x4g:=Grow.cell x4
    have y5g:=Grow.cell y5
    have p0g:=Grow.cell p0
    clear x0 x1 x2 x3 x4 y5 p0 p1 hcm
    refine yE (by kernel_rfl) (by kernel_rfl) ?_
    repeat (go_big_quiet_step (first|(go_at_call 129;exact Calls.grow (HWR.out _))|(go_at_call 128;exact Calls.grow (HLD.out _ (HE2.out.trans' (Grow.ext _))))))
    refine wpQuiet_nil ?_
    rintro _ ⟨⟨wq,hwq⟩,rfl⟩
    go_wp2_with fail
    go_meet
    exact⟨rfl,rfl,η hwq⟩
   case rest =>
    obtain⟨rfl,rfl,HC⟩:=hcut
    have HEZ:=η (HI2.out.2.trans' HC.out)
    have HM3:=η (HM2.out.go HC.out)
    have HN:=η (by have:=uN HM3.out.u8 A size;rw[HLL.out]at this;exact this:u64R n)
    have e8:wrap64 (8 * size)=8 * size:=by rcases HSZ.out with h|h|h|h<;>(subst h;unfold wrap64;omega)
    have E8:=η e8
    clear x0 x1 x2 x3 x4 y5 p0 p1 hcm e8
    obtain⟨x0,x1,x2,x3,x4⟩:=κ5 (HEZ.out.obj HX.out);have y4:=cO (i:=4) (HEZ.out.obj HW.out);have y5:=cO (i:=5) (HEZ.out.obj HW.out);simp only[gA,gB,gC]at y4 y5
    have HBAD:=η (fun (her:er≠0)=>(by rw[← HRES.out,RS.load,if_neg (by simpa using HSS.out)];simp only[Int.toNat_natCast,HAA.out,HLL.out];rw[if_pos (by simpa using her)]:res=(σ,er)))
    have HGOOD:=η (fun (her:er=0)=>(by rw[← HRES.out,RS.load,if_neg (by simpa using HSS.out)];simp only[Int.toNat_natCast,HAA.out,HLL.out];rw[if_neg (by simpa using her)]:res=(σ.setR t (if sg then yY n (8 * size) else n),0)))
    clear HRES
    cases sg
    ·go_wp2_with fail
     by_cases her:er=0
     ·subst her
      obtain rfl:=HGOOD.out rfl
      refine(qW ⟨op,t,d,off,imm⟩ n HM3.out t rfl htt).mono ?_
      rintro e w6 ⟨rfl,hM⟩
      go_wp2_with fail
      go_returns
      exact⟨rfl,hM⟩
     ·obtain rfl:=HBAD.out her
      refine(p_becomesE ⟨op,t,d,off,imm⟩ n er her _).mono ?_
      rintro e w6 ⟨rfl,hM⟩
      have HM4:=η (HM3.out.go hM)
      go_wp2_with fail
      go_returns
      exact⟨rfl,HM4.out⟩
    ·go_wp2_with fail
     rw[E8.out]
     refine(p_Sign n (8 * size) _ (by have:=HSZ.out;simp only[wid];omega) HN.out.1 HN.out.2).mono ?_
     rintro e w5 ⟨rfl,rfl⟩
     go_wp2_with fail
     by_cases her:er=0
     ·subst her
      obtain rfl:=HGOOD.out rfl
      refine(qW ⟨op,t,d,off,imm⟩ _ HM3.out t rfl htt).mono ?_
      rintro e w6 ⟨rfl,hM⟩
      go_wp2_with fail
      go_returns
      exact⟨rfl,hM⟩
     ·obtain rfl:=HBAD.out her
      refine(p_becomesE ⟨op,t,d,off,imm⟩ _ er her _).mono ?_
      rintro e w6 ⟨rfl,hM⟩
      have HM4:=η (HM3.out.go hM)
      go_wp2_with fail
      go_returns
      exact⟨rfl,HM4.out⟩
end
section
variable {F0 Z0:List Nat} {wf w w':World} {base mb:Nat} {σ:RS}
def RS.putS (σ:RS)(k:Wh)(A b:Int):RS×Int :=
 if k.kind=8 then
  (if (kE σ.V.1 A k.size).2≠0 then (σ,(kE σ.V.1 A k.size).2)
   else σ.putM A k.size (aluN k.op true 0 (kE σ.V.1 A k.size).1 b))
 else σ.putM A k.size b
theorem store_putS (σ:RS)(x:Ins)(k:Wh):σ.store x k=if (σ.second x k).2=false∨σ.S x.dst.toNat=false then (σ,110) else σ.putS k (σ.addr x.dst x) (σ.second x k).1:=rfl
set_option maxHeartbeats 4000000 in
theorem p_store (x:Ins)(k:Wh)(a b A:Int)(h:PRel F0 Z0 wf base w mb σ)(hx:x.Ok)(hk:KindOk x k)(h1:k.kind=6∨k.kind=7∨k.kind=8)(hb:u64R b)(hA:IntKind.u64.wrap (a+yY (x.off%65536) 16)=A):
  Calls Tryz.prog 137 #[.pointer (some ⟨mb,0,none⟩),x.agg,k.agg,.int .u64 a,.int .u64 b] w (PAns F0 Z0 wf base mb (σ.putS k A b).1 (.int .i64 (σ.putS k A b).2)):=by
 have HWR:=η (fun W=>(p_where a x W hx).mono (R':=fun e w'=>e=.returned (.int .u64 A)∧Ext W w') (fun e w' h=>⟨by rw[h.1,← hA],by rw[h.2];(repeat (first|exact xE0 _|assumption|refine xE1 ?_ _|refine xE2 ?_|refine xE3 ?_ _|refine xE4 ?_ (by assumption)))⟩))
 have HA:Hid (u64R A):=η (by rw[← hA];exact uY _)
 obtain⟨op,dst,src,off,imm⟩:=x
 obtain⟨kind,kop,wide,reg,sg,size⟩:=k
 have HM:=η h
 have HB:=η hb
 have HSZ:=η (hk.km (by omega) (by omega))
 have HDO:=η hk.k8
 clear hx hk h1 hb h hA
 obtain⟨res,hres⟩:∃ r,RS.putS σ ⟨kind,kop,wide,reg,sg,size⟩ A b=r:=⟨_,rfl⟩
 rw[hres]
 have HRES:=η hres
 clear hres
 go_enter Tryz.func137,Tryz.ntmps137
 go_wp2_with fail
 refine(HWR.out _).mono ?_
 rintro e w1 ⟨rfl,he1⟩
 have HE1:Hid (Ext w w1):=η (by (repeat (first|exact xE0 _|assumption|refine xE1 ?_ _|refine xE2 ?_|refine xE3 ?_ _|refine xE4 ?_ (by assumption))))
 have HW:Hid (w1.heap[w.heap.size+1]?=some (zF ⟨kind,kop,wide,reg,sg,size⟩)):=η (he1.obj (zD _ _ (by simp)))
 have HM1:=η (HM.out.go HE1.out)
 clear he1 HWR
 have y0:=cO (i:=0) HW.out
 have y1:=cO (i:=1) HW.out
 have y5:=cO (i:=5) HW.out
 simp only[zF,gA,gB,gC]at y0 y1 y5
 have hlt:=HM1.out.lt
 obtain⟨rb,lv,L,cm,HV,HRF,HST⟩:=HM1.out.mem
 by_cases hk8:(kind == 8)=true
 ·have hk8':kind=8:=by simpa using hk8
  subst hk8'
  obtain⟨n,er,hL⟩:∃ n er,kE σ.V.1 A size=(n,er):=⟨_,_,rfl⟩
  have HN:=η (by have:=uN HM1.out.u8 A size;rw[hL]at this;exact this:u64R n)
  have HG:=η (show res=if er≠0 then (σ,er) else σ.putM A size (aluN kop true 0 n b) by rw[← HRES.out,RS.putS,if_pos rfl];simp only[hL])
  have HLD:=η (fun W (he:Ext w1 W)=>(mem_load rb lv L A size W (HRF.out W he) HA.out.1 (η HA.out.2)).mono (R':=fun e w'=>e=.returned (.tuple #[.int .u64 n,.int .i64 er])∧Ext W w') (fun e w' h=>by rw[LoadAns,HV.out,hL]at h;exact h))
  clear HRES hL
  go_upto_region 3 with fail
  go_cut [12,13] from 20 to 31 (fun v10 v11 wy=>v10=.int .u64 n∧v11=.int .i64 er∧Hid (Ext w1 wy))
  case first =>
   have cmg:=Grow.cell cm
   have y5g:=Grow.cell y5
   clear cm y0 y1 y5
   (refine yE (by kernel_rfl) (by kernel_rfl) ?_;(repeat (go_big_quiet_step ((go_at_call 128;exact Calls.grow (HLD.out _ (Grow.ext _))))));refine wpQuiet_nil ?_;rintro wz ⟨nz,hz⟩;have hwq:=nz.ext;rw[← hz]at hwq;clear hz)
   go_wp2_with fail
   go_meet
   exact⟨rfl,rfl,η hwq⟩
  case rest =>
   obtain⟨rfl,rfl,HE3⟩:=hcut
   have HM2:=η (HM1.out.go HE3.out)
   have HW2:=η (HE3.out.obj HW.out)
   clear cm y0 y1 y5 HV HRF HST HLD rb lv L
   have y1:=cO (i:=1) HW2.out
   simp only[zF,gA,gB,gC]at y1
   by_cases her:(er != 0)=true
   ·obtain rfl:res=(σ,er):=by rw[HG.out,if_pos (by simpa using her)]
    go_wp2_with fail
    go_returns
    exact⟨rfl,HM2.out⟩
   ·obtain rfl:er=0:=by simpa using her
    obtain rfl:=HG.out
    clear her HG
    have HDD:=η (fun W=>p_do kop true 0 n b W (HDO.out (by first|trivial|rfl)) HN.out.1 HN.out.2 HB.out.1 HB.out.2)
    have HRG:=η (alu_rng (HDO.out (by first|trivial|rfl)) HN.out HB.out)
    go_wp2_with fail
    refine(HDD.out _).mono ?_
    rintro e w3 ⟨rfl,rfl⟩
    obtain⟨rb,lv,L,cm,HV,HRF,HST⟩:=HM2.out.mem
    have hlt2:=HM2.out.lt
    have y5:=cO (i:=5) HW2.out
    simp only[zF,gA,gB,gC]at y5
    go_upto_region 7 with fail
    have cmg:=Grow.cell cm
    have y5g:=Grow.cell y5
    clear cm y1 y5
    (refine zR 8 (by kernel_rfl) (by kernel_rfl) ?_;simp only[List.take_succ_cons,List.take_zero];(repeat (go_big_quiet_step ((fail))));refine wpQuiet_nil ?_;rintro wz ⟨nz,hz⟩;have hwq:=nz.ext;rw[← hz]at hwq;simp only[List.drop_succ_cons,List.drop_zero];clear hz)
    go_wp2_with fail
    refine(mem_store rb lv L A size _ wz (HRF.out _ hwq) HA.out.1 (η HA.out.2) HRG.out.1).mono ?_
    intro e w3 hA3
    obtain⟨rfl,hM3⟩:=HST.out _ _ _ _ _ _ hwq hA3
    go_wp2_with fail
    go_returns
    exact⟨rfl,hM3⟩
 ·have HG:=η (show res=σ.putM A size b by rw[← HRES.out,RS.putS,if_neg (by simpa using hk8)])
  clear HRES
  obtain rfl:=HG.out
  go_upto_region 7 with fail
  have cmg:=Grow.cell cm
  have y5g:=Grow.cell y5
  clear cm y0 y1 y5
  (refine zR 8 (by kernel_rfl) (by kernel_rfl) ?_;simp only[List.take_succ_cons,List.take_zero];(repeat (go_big_quiet_step ((fail))));refine wpQuiet_nil ?_;rintro wz ⟨nz,hz⟩;have hwq:=nz.ext;rw[← hz]at hwq;simp only[List.drop_succ_cons,List.drop_zero];clear hz)
  go_wp2_with fail
  refine(mem_store rb lv L A size b wz (HRF.out _ hwq) HA.out.1 (η HA.out.2) HB.out.1).mono ?_
  intro e w3 hA3
  obtain⟨rfl,hM3⟩:=HST.out _ _ _ _ _ _ hwq hA3
  go_wp2_with fail
  go_returns
  exact⟨rfl,hM3⟩
end
section
variable {F0 Z0:List Nat} {wf w w':World} {base mb:Nat} {σ:RS}
def RS.plain (σ:RS)(x:Ins)(k:Wh):RS×Bool×Int :=
 if gN σ x k=false then (σ,false,110)
 else if k.kind=1 then (σ.setR x.dst.toNat (aluN k.op k.wide x.off (σ.R x.dst.toNat) (negB k.op (σ.second x k).1)),false,0)
 else if k.kind=2 then (σ.setR x.dst.toNat (kM k.wide (8 * k.size) (σ.R x.dst.toNat)),false,0)
 else if k.kind=10 then (σ,uE k.op k.wide (σ.R x.dst.toNat) (σ.second x k).1,0)
 else ((σ.putS k (σ.addr x.dst x) (σ.second x k).1).1,false,(σ.putS k (σ.addr x.dst x) (σ.second x k).1).2)
def PAns2 (F0 Z0:List Nat)(wf:World)(base mb:Nat)(r:RS×Bool×Int)(e:Ending)(w':World):Prop:=e=.returned (.tuple #[.bool r.2.1,.int .i64 r.2.2])∧PRel F0 Z0 wf base w' mb r.1
set_option maxHeartbeats 4000000 in
theorem p_plain (x:Ins)(k:Wh)(h:PRel F0 Z0 wf base w mb σ)(ho:σ.Ok)(hx:x.Ok)(hk:KindOk x k)(h1:k.kind=1∨k.kind=2∨k.kind=10∨k.kind=6∨k.kind=7∨k.kind=8):
  Calls Tryz.prog 97 #[.pointer (some ⟨mb,0,none⟩),x.agg,k.agg] w (PAns2 F0 Z0 wf base mb (σ.plain x k)):=by
 have hdst:0≤x.dst:=hx.dst.1
 obtain⟨d,hd⟩:∃ d:Nat,x.dst=d:=⟨x.dst.toNat,by omega⟩
 have hsrc:0≤x.src:=hx.src.1
 obtain⟨s,hs⟩:∃ d:Nat,x.src=d:=⟨x.src.toNat,by omega⟩
 have hdd:d≤10:=by have:=hk.dst;omega
 have hss:s≤10:=by have:=hk.src;omega
 have HB:=η (fun W (he:PRel F0 Z0 wf base W mb σ)=>p_both x k he hx d s hd hdd hs hss)
 have HX:=η hx
 have HK:=η hk
 have HM:=η h
 have HR:=η (ho d hdd)
 have HS:=η (qX ho x k hk.src)
 have HBC:=η (fun n W (he:PRel F0 Z0 wf base W mb σ)=>qW x n he d hd hdd)
 have HST:=η (fun b W (he:PRel F0 Z0 wf base W mb σ) (hb:u64R b) (hkk:k.kind=6∨k.kind=7∨k.kind=8)=>p_store x k (σ.R d) b (σ.addr x.dst x) he hx hk hkk hb (by rw[hd];simp[RS.addr]))
 have hP:σ.plain x k=if gN σ x k=false then (σ,false,110)
   else if k.kind=1 then (σ.setR d (aluN k.op k.wide x.off (σ.R d) (negB k.op (σ.second x k).1)),false,0)
   else if k.kind=2 then (σ.setR d (kM k.wide (8 * k.size) (σ.R d)),false,0)
   else if k.kind=10 then (σ,uE k.op k.wide (σ.R d) (σ.second x k).1,0)
   else ((σ.putS k (σ.addr x.dst x) (σ.second x k).1).1,false,(σ.putS k (σ.addr x.dst x) (σ.second x k).1).2):=by
  rw[RS.plain,hd];rfl
 obtain⟨res,hres⟩:∃ r,σ.plain x k=r:=⟨_,rfl⟩
 rw[hres]at hP ⊢
 have HRES:=η hP
 obtain⟨b,hb⟩:∃ b,(σ.second x k).1=b:=⟨_,rfl⟩
 obtain⟨ok,hok⟩:∃ b,gN σ x k=b:=⟨_,rfl⟩
 obtain⟨A,hA⟩:∃ A,σ.addr x.dst x=A:=⟨_,rfl⟩
 simp only[hb,hok,hA]at HRES HB HS HST
 clear hres hP hb hok hA h ho hx hk hdst hsrc
 obtain⟨op,dst,src,off,imm⟩:=x
 obtain⟨kind,kop,wide,reg,sg,size⟩:=k
 simp only at hd hs h1 HRES
 subst hd
 subst hs
 go_enter Tryz.func97,Tryz.ntmps97
 go_wp2_with fail
 refine(HB.out _ (HM.out.go (by (repeat (first|exact xE0 _|assumption|refine xE1 ?_ _|refine xE2 ?_|refine xE3 ?_ _|refine xE4 ?_ (by assumption)))))).mono ?_
 rintro e w1 ⟨rfl,he1⟩
 have HE1:Hid (Ext w w1):=η (by (repeat (first|exact xE0 _|assumption|refine xE1 ?_ _|refine xE2 ?_|refine xE3 ?_ _|refine xE4 ?_ (by assumption))))
 have HX1:Hid (w1.heap[w.heap.size]?=some (zQ ⟨op,d,s,off,imm⟩)):=η (he1.obj (zB _ (zD w _ rfl)))
 have HW1:Hid (w1.heap[w.heap.size+1]?=some (zF ⟨kind,kop,wide,reg,sg,size⟩)):=η (he1.obj (zD _ _ (by simp)))
 have HM1:=η (HM.out.go HE1.out)
 have x0:=cO (i:=0) HX1.out
 have x1:=cO (i:=1) HX1.out
 have x2:=cO (i:=2) HX1.out
 have x3:=cO (i:=3) HX1.out
 have x4:=cO (i:=4) HX1.out
 have y0:=cO (i:=0) HW1.out
 have y1:=cO (i:=1) HW1.out
 have y2:=cO (i:=2) HW1.out
 have y3:=cO (i:=3) HW1.out
 have y4:=cO (i:=4) HW1.out
 have y5:=cO (i:=5) HW1.out
 simp only[zQ,zF,gA,gB,gC]at x0 x1 x2 x3 x4 y0 y1 y2 y3 y4 y5
 clear he1 HB
 cases ok with
 | false =>
  obtain rfl:res=(σ,false,110):=by rw[HRES.out];rfl
  go_wp2_with fail
  go_returns
  exact⟨rfl,HM1.out⟩
 | true =>
  have HRS:=η (show res=if kind=1 then (σ.setR d (aluN kop wide off (σ.R d) (negB kop b)),false,0)
   else if kind=2 then (σ.setR d (kM wide (8 * size) (σ.R d)),false,0)
   else if kind=10 then (σ,uE kop wide (σ.R d) b,0)
   else ((σ.putS ⟨kind,kop,wide,reg,sg,size⟩ A b).1,false,(σ.putS ⟨kind,kop,wide,reg,sg,size⟩ A b).2) from by have:=HRES.out;rw[if_neg (by simp)]at this;exact this)
  clear HRES
  rcases h1 with rfl|rfl|rfl|h6
  ·obtain rfl:res=(σ.setR d (aluN kop wide off (σ.R d) (negB kop b)),false,0):=by rw[HRS.out,if_pos rfl]
   clear HRS
   have HDO:=η (HK.out.k1 rfl)
   cases hneg:(kop == 128)
   all_goals
    have hn2:negB kop b=if (kop == 128)=true then 0 else b:=by simp[negB]
    rw[hneg]at hn2
    simp only[if_true,Bool.false_eq_true,if_false]at hn2
    have HN2:=η hn2
    clear hn2
    go_wp2_with fail
    refine(p_do kop wide off (σ.R d) _ _ HDO.out HR.out.1 HR.out.2 (by first|exact HS.out.1|decide) (by first|exact HS.out.2|decide)).mono ?_
    rintro e w3 ⟨rfl,rfl⟩
    go_wp2_with fail
    refine(HBC.out _ _ HM1.out).mono ?_
    rintro e w3 ⟨rfl,hM⟩
    rw[← HN2.out]at hM
    have HM3:=η hM
    clear hM
    go_wp2_with fail
    go_returns
    exact⟨rfl,HM3.out⟩
  ·obtain rfl:res=(σ.setR d (kM wide (8 * size) (σ.R d)),false,0):=by rw[HRS.out,if_neg (by decide),if_pos rfl]
   clear HRS
   have hsz:=HK.out.k2 rfl
   have e8:wrap64 (8 * size)=8 * size:=by unfold wrap64;simp only at hsz;omega
   have E8:=η e8
   have h16:8 * size=16∨8 * size=32∨8 * size=64:=by simp only at hsz;omega
   have H16:=η h16
   clear hsz e8 h16
   go_wp2_with fail
   rw[E8.out]
   refine(p_swap wide (8 * size) (σ.R d) _ H16.out HR.out.1 HR.out.2).mono ?_
   rintro e w3 ⟨rfl,hE3⟩
   have HM2:=η (HM1.out.go hE3)
   have x0:=hE3.cellOf x0
   have x1:=hE3.cellOf x1
   have x2:=hE3.cellOf x2
   have x3:=hE3.cellOf x3
   have x4:=hE3.cellOf x4
   clear hE3
   go_wp2_with fail
   refine(HBC.out _ _ HM2.out).mono ?_
   rintro e w4 ⟨rfl,hM⟩
   have HM3:=η hM
   clear hM
   go_wp2_with fail
   go_returns
   exact⟨rfl,HM3.out⟩
  ·obtain rfl:res=(σ,uE kop wide (σ.R d) b,0):=by rw[HRS.out,if_neg (by decide),if_neg (by decide),if_pos rfl]
   clear HRS
   have HC:=η (HK.out.k10 rfl)
   go_wp2_with fail
   refine(p_is kop wide (σ.R d) b _ HC.out HR.out.1 HR.out.2 HS.out.1 HS.out.2).mono ?_
   rintro e w3 ⟨rfl,hE3⟩
   have HM2:=η (HM1.out.go hE3)
   clear hE3
   go_wp2_with fail
   go_returns
   exact⟨rfl,HM2.out⟩
  ·have n1:kind≠1:=by omega
   have n2:kind≠2:=by omega
   have n3:kind≠10:=by omega
   have HSS:=η (fun W (he:PRel F0 Z0 wf base W mb σ)=>HST.out b W he HS.out h6)
   obtain rfl:res=((σ.putS ⟨kind,kop,wide,reg,sg,size⟩ A b).1,false,(σ.putS ⟨kind,kop,wide,reg,sg,size⟩ A b).2):=by rw[HRS.out,if_neg n1,if_neg n2,if_neg n3]
   clear HRS HST h6
   have b1:(kind == 1)=false:=by simpa using n1
   have b2:(kind == 2)=false:=by simpa using n2
   have b3:(kind == 10)=false:=by simpa using n3
   clear n1 n2 n3
   go_wp2_with fail
   refine(HSS.out _ HM1.out).mono ?_
   rintro e w3 ⟨rfl,hM⟩
   have HM3:=η hM
   clear hM
   go_wp2_with fail
   go_returns
   exact⟨rfl,HM3.out⟩
end
section
variable {F0 Z0:List Nat} {wf w w':World} {base mb:Nat} {σ:RS}
theorem p_At (h:PRel F0 Z0 wf base w mb σ):Calls Tryz.prog 31 #[.pointer (some ⟨mb,0,none⟩)] w fun e w'=>e=.returned (.int .i64 σ.place)∧Ext w w':=by
 obtain⟨h0,hl,l,g1,g2,g3⟩:=h
 have hd:=g1.cell 27 rfl
 have hlt:=zE g1.head
 clear h0 hl g1 g2 g3
 go_enter Tryz.func31,Tryz.ntmps31
 go_wp2_with fail
 go_returns
 exact⟨rfl,by (repeat (first|exact xE0 _|assumption|refine xE1 ?_ _|refine xE2 ?_|refine xE3 ?_ _|refine xE4 ?_ (by assumption)))⟩
theorem p_Over (h:PRel F0 Z0 wf base w mb σ):Calls Tryz.prog 26 #[.pointer (some ⟨mb,0,none⟩)] w fun e w'=>e=.returned (.bool σ.over)∧Ext w w':=by
 obtain⟨h0,hl,l,g1,g2,g3⟩:=h
 have hd:=g1.cell 28 rfl
 have hlt:=zE g1.head
 clear h0 hl g1 g2 g3
 go_enter Tryz.func26,Tryz.ntmps26
 go_wp2_with fail
 go_returns
 exact⟨rfl,by (repeat (first|exact xE0 _|assumption|refine xE1 ?_ _|refine xE2 ?_|refine xE3 ?_ _|refine xE4 ?_ (by assumption)))⟩
set_option maxHeartbeats 1000000 in
theorem p_Reg (h:PRel F0 Z0 wf base w mb σ)(d:Nat)(hd:d≤10):Calls Tryz.prog 28 #[.pointer (some ⟨mb,0,none⟩),.int .i64 d] w fun e w'=>e=.returned (.tuple #[.int .u64 (σ.R d),.bool (σ.S d)])∧Ext w w':=by
 obtain⟨h0,hl,l,g1,g2,g3⟩:=h
 have c1:=g1.cell _ (pU σ l hd)
 have c2:=g1.cell _ (pQ σ l hd)
 rw[show 1+2 * d=1+d * 2 by omega]at c1
 rw[show 2+2 * d=1+d * 2+1 by omega]at c2
 have hlt:=zE g1.head
 have hd1:(d:Int)≤10:=by omega
 have hd2:0≤(d:Int):=by omega
 have hd3:(d:Int) < 11:=by omega
 clear h0 hl g1 g2 g3
 go_enter Tryz.func28,Tryz.ntmps28
 go_wp2_with fail
 go_quiet (fail)
 go_wp2_with fail
 go_returns
 exact⟨rfl,by (repeat (first|exact xE0 _|assumption|refine xE1 ?_ _|refine xE2 ?_|refine xE3 ?_ _|refine xE4 ?_ (by assumption)))⟩
theorem or_long (a b:Int)(h0:0≤a)(h1:a < 4294967296)(k0:0≤b)(k1:b < 4294967296):bits .or .u64 a (b * 4294967296)=a+4294967296 * b:=by
 obtain⟨m,rfl⟩:=Int.eq_ofNat_of_zero_le h0
 obtain⟨n,rfl⟩:=Int.eq_ofNat_of_zero_le k0
 have e:(n:Int) * 4294967296=((2 ^ 32 * n:Nat):Int):=by omega
 have hm:m < 2 ^ 32:=by omega
 rw[e,bits_or_u64_nat m (2 ^ 32 * n) (by omega) (by omega),Nat.or_comm,← Nat.two_pow_add_eq_or_of_lt hm n]
 omega
theorem p_Long (x y:Ins)(w:World)(hx:x.Ok)(hy:y.Ok):Calls Tryz.prog 94 #[x.agg,y.agg] w fun e w'=>e=.returned (.int .u64 (longN x y))∧Ext w w':=by
 have HL:=η (or_long (x.imm%4294967296) (y.imm%4294967296) (by omega) (by omega) (by omega) (by omega))
 go_enter Tryz.func94,Tryz.ntmps94
 go_wp2_with fail
 go_returns
 refine⟨?_,by (repeat (first|exact xE0 _|assumption|refine xE1 ?_ _|refine xE2 ?_|refine xE3 ?_ _|refine xE4 ?_ (by assumption)))⟩
 rw[HL.out]
 rfl
end
end Go.Proofs.YtppefchjoodgnaaGreat
