import Derived.Test.YtppefchjoodgnaaGreatPQ09
import Derived.Test.YtppefchjoodgnaaGreatPQ01
import Derived.StillTail
set_option linter.unusedSimpArgs false
set_option linter.unusedVariables false
namespace Go.Proofs.YtppefchjoodgnaaGreat
open Go.RowKit
def wid (n:Int):Prop:=n=8∨n=16∨n=32∨n=64
def cutN (a n:Int):Int:=if n=64 then a else a%(2 ^ n.toNat)
def qG (n:Int):Int:=2 ^ (n - 1).toNat
def yY (a n:Int):Int:=if cutN a n / qG n=0∨n=64 then cutN a n else cutN a n - 2 ^ n.toNat+18446744073709551616
def negN (x n:Int):Bool:=x / qG n == 1
def jB (x:Int):Int:=(-x)%18446744073709551616
def kN (x n:Int):Int:=if negN x n then cutN (jB x) n else x
def quoN (x y n:Int)(s:Bool):Int:=if y=0 then 0 else if s=false then x / y else if negN x n=negN y n then kN x n / kN y n else cutN (jB (kN x n / kN y n)) n
def remN (x y n:Int)(s:Bool):Int:=if y=0 then x else if s=false then x%y else if negN x n then cutN (jB (kN x n%kN y n)) n else kN x n%kN y n
def revN:Nat→Int→Int→Int
 | 0,_,out=>out
 | k+1,x,out=>revN k (x / 256) ((out * 256+x%256)%18446744073709551616)
def kM (turn:Bool)(n a:Int):Int:=if turn then revN (n / 8).toNat (cutN a n) 0 else cutN a n
theorem cutN_le {a n:Int}(h:0≤a)(h1:a≤18446744073709551615)(hn:wid n):0≤cutN a n∧cutN a n≤18446744073709551615∧cutN a n≤a∧(n=8→cutN a n < 256)∧(n=16→cutN a n < 65536)∧(n=32→cutN a n < 4294967296):=by
 rcases hn with rfl|rfl|rfl|rfl
 all_goals simp[cutN];try omega
theorem xV (a n:Int)(w:World)(hn:wid n)(h0:0≤a):Calls Tryz.prog 139 #[.int .u64 a,.int .i64 n] w fun e w'=>e=.returned (.int .u64 (cutN a n))∧w'=w:=by
 rcases hn with rfl|rfl|rfl|rfl
 all_goals
  go_enter Tryz.func139,Tryz.ntmps139
  go_wp2_with fail
  go_returns
  exact⟨xX (by simp[cutN]),rfl⟩
theorem kT (a n:Int)(w:World)(hn:wid n)(h0:0≤a):Calls Tryz.prog 184 #[.int .u64 a,.int .i64 n] w fun e w'=>e=.returned (.bool (negN a n))∧w'=w:=by
 rcases hn with rfl|rfl|rfl|rfl
 all_goals
  go_enter Tryz.func184,Tryz.ntmps184
  go_wp2_with fail
  go_returns
  exact⟨yS (by simp[negN,qG]),rfl⟩
theorem gZ (a n:Int)(w:World)(hn:wid n)(h0:0≤a)(h1:a≤18446744073709551615):Calls Tryz.prog 142 #[.int .u64 a,.int .i64 n] w fun e w'=>e=.returned (.int .u64 (yY a n))∧w'=w:=by
 have hc:=cutN_le h0 h1 hn
 have HN:=η hn
 obtain⟨c,hC⟩:∃ c,cutN a n=c:=⟨_,rfl⟩
 have HC:=η hC
 rw[hC]at hc
 rcases hn with rfl|rfl|rfl|rfl
 all_goals
  go_enter Tryz.func142,Tryz.ntmps142
  go_wp2_with fail
  refine(xV a _ _ HN.out h0).mono ?_
  rintro e w1 ⟨rfl,rfl⟩
  rw[HC.out]
 ·by_cases hz:c < 128
  all_goals
   go_wp2_with fail
   go_returns
   refine⟨xX ?_,rfl⟩
   simp only[yY,HC.out,qG,IntKind.wrap_u64]
   simp at hc ⊢
   try first|omega|(split<;>omega)
 ·by_cases hz:c < 32768
  all_goals
   go_wp2_with fail
   go_returns
   refine⟨xX ?_,rfl⟩
   simp only[yY,HC.out,qG,IntKind.wrap_u64]
   simp at hc ⊢
   try first|omega|(split<;>omega)
 ·by_cases hz:c < 2147483648
  all_goals
   go_wp2_with fail
   go_returns
   refine⟨xX ?_,rfl⟩
   simp only[yY,HC.out,qG,IntKind.wrap_u64]
   simp at hc ⊢
   try first|omega|(split<;>omega)
 ·by_cases hz:c < 9223372036854775808
  all_goals
   go_wp2_with fail
   go_returns
   refine⟨xX ?_,rfl⟩
   simp only[yY,HC.out,qG,IntKind.wrap_u64]
   simp at hc ⊢
   try first|omega|(split<;>omega)
theorem emod_le' {p q:Int}(h:0≤p)(h1:0≤q):p%q≤p:=by
 have:=Int.emod_add_mul_ediv p q
 have:=Int.mul_nonneg h1 (Int.ediv_nonneg h h1)
 omega
theorem r_size (a n:Int)(w:World)(hn:wid n)(h0:0≤a)(h1:a≤18446744073709551615):Calls Tryz.prog 202 #[.int .u64 a,.int .i64 n] w fun e w'=>e=.returned (.int .u64 (kN a n))∧w'=w:=by
 have HN:=η hn
 obtain⟨z,hz⟩:∃ z,negN a n=z:=⟨_,rfl⟩
 have HZ:=η hz
 clear hz
 go_enter Tryz.func202,Tryz.ntmps202
 go_wp2_with fail
 refine(kT a _ _ HN.out h0).mono ?_
 rintro e w1 ⟨rfl,rfl⟩
 rw[HZ.out]
 cases z
 ·go_wp2_with fail
  go_returns
  exact⟨xX (by simp[kN,HZ.out]),rfl⟩
 ·go_wp2_with fail
  refine(xV _ _ _ HN.out (by rw[IntKind.wrap_u64];omega)).mono ?_
  rintro e w1 ⟨rfl,rfl⟩
  go_wp2_with fail
  go_returns
  exact⟨xX (by simp[kN,HZ.out,jB,IntKind.wrap_u64]),rfl⟩
theorem kY {a n:Int}(hn:wid n)(h:0≤a)(h1:a≤18446744073709551615):0≤cutN a n∧cutN a n≤18446744073709551615:=⟨(cutN_le h h1 hn).1,(cutN_le h h1 hn).2.1⟩
theorem jY (a:Int):0≤jB a∧jB a≤18446744073709551615:=by unfold jB;omega
theorem pS {a n:Int}(hn:wid n)(h:0≤a)(h1:a≤18446744073709551615):0≤kN a n∧kN a n≤18446744073709551615:=by
 unfold kN
 split
 ·exact kY hn (jY a).1 (jY a).2
 ·exact⟨h,h1⟩
theorem size_zero {a n:Int}(hn:wid n)(h:0 < a)(h1:a < 2 ^ n.toNat):kN a n≠0:=by
 unfold kN negN
 rcases hn with rfl|rfl|rfl|rfl
 all_goals
  simp[qG,cutN,jB]at h1 ⊢
  split<;>omega
set_option maxRecDepth 20000 in
set_option maxHeartbeats 2000000 in
theorem r_parts (x y n:Int)(s:Bool)(w:World)(hn:wid n)(h0:0≤x)(h1:x≤18446744073709551615)(k0:0≤y)(k1:y≤18446744073709551615)(HY:Hid (y < 2 ^ n.toNat)):
  Calls Tryz.prog 183 #[.int .u64 x,.int .u64 y,.int .i64 n,.bool s] w fun e w'=>e=.returned (.tuple #[.int .u64 (quoN x y n s),.int .u64 (remN x y n s)])∧Ext w w':=by
 by_cases hy:y=0
 ·subst hy
  clear k0 k1 HY
  have e1:quoN x 0 n s=0:=by simp[quoN]
  have e2:remN x 0 n s=x:=by simp[remN]
  rw[e1,e2]
  clear e1 e2
  cases s
  all_goals
   go_enter Tryz.func183,Tryz.ntmps183
   go_wp2_with fail
   go_returns
   exact⟨rfl,by (repeat (first|exact xE0 _|assumption|refine xE1 ?_ _|refine xE2 ?_|refine xE3 ?_ _|refine xE4 ?_ (by assumption)))⟩
 ·cases s
  ·go_enter Tryz.func183,Tryz.ntmps183
   have hy':(y == 0)=false:=by simpa using hy
   go_wp2_with fail
   go_region
   go_wp2_with fail
   go_returns
   exact⟨by simp[quoN,remN,hy],by (repeat (first|exact xE0 _|assumption|refine xE1 ?_ _|refine xE2 ?_|refine xE3 ?_ _|refine xE4 ?_ (by assumption)))⟩
  ·have HN:=η hn
   obtain⟨p,hp⟩:∃ p,kN x n=p:=⟨_,rfl⟩
   obtain⟨q,hq⟩:∃ p,kN y n=p:=⟨_,rfl⟩
   have hp1:=pS hn h0 h1
   have hq1:=pS hn k0 k1
   have hq0:=size_zero hn (by omega) HY.out
   rw[hp]at hp1
   rw[hq]at hq1 hq0
   obtain⟨u,hu⟩:∃ z,negN x n=z:=⟨_,rfl⟩
   obtain⟨v,hv⟩:∃ z,negN y n=z:=⟨_,rfl⟩
   have HP:=η hp
   have HQ:=η hq
   have HU:=η hu
   have HV:=η hv
   have hd:=Int.ediv_nonneg hp1.1 hq1.1
   have hd1:p / q≤18446744073709551615:=Int.le_trans (Int.ediv_le_self _ hp1.1) hp1.2
   have hm:=Int.emod_nonneg p hq0
   have hm1:p%q≤18446744073709551615:=Int.le_trans (emod_le' hp1.1 hq1.1) hp1.2
   clear hn hp hq hu hv
   go_enter Tryz.func183,Tryz.ntmps183
   go_wp2_with fail
   refine(r_size x n _ HN.out h0 h1).mono ?_
   rintro e w1 ⟨rfl,rfl⟩
   rw[HP.out]
   go_wp2_with fail
   refine(r_size y n _ HN.out k0 k1).mono ?_
   rintro e w1 ⟨rfl,rfl⟩
   rw[HQ.out]
   go_wp2_with fail
   refine(r_size x n _ HN.out h0 h1).mono ?_
   rintro e w1 ⟨rfl,rfl⟩
   rw[HP.out]
   go_wp2_with fail
   refine(r_size y n _ HN.out k0 k1).mono ?_
   rintro e w1 ⟨rfl,rfl⟩
   rw[HQ.out]
   go_wp2_with fail
   refine(kT x n _ HN.out h0).mono ?_
   rintro e w1 ⟨rfl,rfl⟩
   rw[HU.out]
   go_wp2_with fail
   refine(kT y n _ HN.out k0).mono ?_
   rintro e w1 ⟨rfl,rfl⟩
   rw[HV.out]
   have H1:=η (jY (p / q))
   have H2:=η (jY (p%q))
   cases u<;>cases v
   ·go_wp2_with fail
    refine(kT x n _ HN.out h0).mono ?_
    rintro e w1 ⟨rfl,rfl⟩
    rw[HU.out]
    go_wp2_with fail
    go_returns
    exact⟨by simp[quoN,remN,hy,HU.out,HV.out,HP.out,HQ.out],by (repeat (first|exact xE0 _|assumption|refine xE1 ?_ _|refine xE2 ?_|refine xE3 ?_ _|refine xE4 ?_ (by assumption)))⟩
   ·go_wp2_with fail
    refine(xV _ n _ HN.out (by rw[IntKind.wrap_u64];exact H1.out.1)).mono ?_
    rintro e w1 ⟨rfl,rfl⟩
    go_wp2_with fail
    refine(kT x n _ HN.out h0).mono ?_
    rintro e w1 ⟨rfl,rfl⟩
    rw[HU.out]
    go_wp2_with fail
    go_returns
    exact⟨by simp[quoN,remN,hy,HU.out,HV.out,HP.out,HQ.out,jB,IntKind.wrap_u64],by (repeat (first|exact xE0 _|assumption|refine xE1 ?_ _|refine xE2 ?_|refine xE3 ?_ _|refine xE4 ?_ (by assumption)))⟩
   ·go_wp2_with fail
    refine(xV _ n _ HN.out (by rw[IntKind.wrap_u64];exact H1.out.1)).mono ?_
    rintro e w1 ⟨rfl,rfl⟩
    go_wp2_with fail
    refine(kT x n _ HN.out h0).mono ?_
    rintro e w1 ⟨rfl,rfl⟩
    rw[HU.out]
    go_wp2_with fail
    refine(xV _ n _ HN.out (by rw[IntKind.wrap_u64];exact H2.out.1)).mono ?_
    rintro e w1 ⟨rfl,rfl⟩
    go_wp2_with fail
    go_returns
    exact⟨by simp[quoN,remN,hy,HU.out,HV.out,HP.out,HQ.out,jB,IntKind.wrap_u64],by (repeat (first|exact xE0 _|assumption|refine xE1 ?_ _|refine xE2 ?_|refine xE3 ?_ _|refine xE4 ?_ (by assumption)))⟩
   ·go_wp2_with fail
    refine(kT x n _ HN.out h0).mono ?_
    rintro e w1 ⟨rfl,rfl⟩
    rw[HU.out]
    go_wp2_with fail
    refine(xV _ n _ HN.out (by rw[IntKind.wrap_u64];exact H2.out.1)).mono ?_
    rintro e w1 ⟨rfl,rfl⟩
    go_wp2_with fail
    go_returns
    exact⟨by simp[quoN,remN,hy,HU.out,HV.out,HP.out,HQ.out,jB,IntKind.wrap_u64],by (repeat (first|exact xE0 _|assumption|refine xE1 ?_ _|refine xE2 ?_|refine xE3 ?_ _|refine xE4 ?_ (by assumption)))⟩
set_option maxRecDepth 20000 in
set_option maxHeartbeats 2000000 in
theorem r_swap (t:Bool)(n a:Int)(w:World)(hn:n=16∨n=32∨n=64)(h0:0≤a)(h1:a≤18446744073709551615):
  Calls Tryz.prog 100 #[.bool t,.int .i64 n,.int .u64 a] w fun e w'=>e=.returned (.tuple #[.int .u64 (kM t n a),.int .i64 0])∧w'=w:=by
 have hw:wid n:=.inr hn
 have HN:=η hw
 obtain⟨c,hc⟩:∃ c,cutN a n=c:=⟨_,rfl⟩
 have hc1:=kY hw h0 h1
 rw[hc]at hc1
 have HC:=η hc
 clear hw hc
 cases t
 ·rcases hn with rfl|rfl|rfl
  all_goals
   go_enter Tryz.func100,Tryz.ntmps100
   go_wp2_with fail
   refine(xV a _ _ HN.out h0).mono ?_
   rintro e w1 ⟨rfl,rfl⟩
   rw[HC.out]
   go_wp2_with fail
   go_returns
   exact⟨by simp[kM,HC.out],rfl⟩
 ·rcases hn with rfl|rfl|rfl
  all_goals
   go_enter Tryz.func100,Tryz.ntmps100
   go_wp2_with fail
   refine(xV a _ _ HN.out h0).mono ?_
   rintro e w1 ⟨rfl,rfl⟩
   rw[HC.out]
   go_wp2_with fail
  ·go_loopw [8,9,10] (fun x o i wr=>∃ (k:Nat) (x' o':Int),k≤2∧x=.int .u64 x'∧o=.int .u64 o'∧i=.int .i64 k∧wr=w1∧0≤x'∧x'≤18446744073709551615∧0≤o'∧o'≤18446744073709551615∧Hid (revN (2 - k) x' o'=revN 2 c 0)) (fun x o i _=>2 - (intOf i).toNat)
   case atStart=>exact⟨0,c,0,by omega,rfl,rfl,rfl,rfl,hc1.1,hc1.2,by omega,by omega,η rfl⟩
   case round =>
    obtain⟨k,x',o',hk,rfl,rfl,rfl,rfl,hx0,hx1,ho0,ho1,HR⟩:=hrel
    by_cases hlt:k < 2
    ·go_wp2_with fail
     go_roundw
     case rel=>exact⟨k+1,x' / 256,_,by omega,by go_num,rfl,by go_num,trivial,by omega,by omega,by rw[IntKind.wrap_u64];omega,by rw[IntKind.wrap_u64];omega,η (by rw[← HR.out,show 2 - k=(2 - (k+1))+1 by omega,revN];simp[IntKind.wrap_u64])⟩
     case measure=>simp[intOf];omega
    ·go_wp2_with fail
     go_returns
     exact⟨by simp[kM,HC.out];rw[← HR.out,show 2 - k=0 by omega];rfl,rfl⟩
  ·go_loopw [8,9,10] (fun x o i wr=>∃ (k:Nat) (x' o':Int),k≤4∧x=.int .u64 x'∧o=.int .u64 o'∧i=.int .i64 k∧wr=w1∧0≤x'∧x'≤18446744073709551615∧0≤o'∧o'≤18446744073709551615∧Hid (revN (4 - k) x' o'=revN 4 c 0)) (fun x o i _=>4 - (intOf i).toNat)
   case atStart=>exact⟨0,c,0,by omega,rfl,rfl,rfl,rfl,hc1.1,hc1.2,by omega,by omega,η rfl⟩
   case round =>
    obtain⟨k,x',o',hk,rfl,rfl,rfl,rfl,hx0,hx1,ho0,ho1,HR⟩:=hrel
    by_cases hlt:k < 4
    ·go_wp2_with fail
     go_roundw
     case rel=>exact⟨k+1,x' / 256,_,by omega,by go_num,rfl,by go_num,trivial,by omega,by omega,by rw[IntKind.wrap_u64];omega,by rw[IntKind.wrap_u64];omega,η (by rw[← HR.out,show 4 - k=(4 - (k+1))+1 by omega,revN];simp[IntKind.wrap_u64])⟩
     case measure=>simp[intOf];omega
    ·go_wp2_with fail
     go_returns
     exact⟨by simp[kM,HC.out];rw[← HR.out,show 4 - k=0 by omega];rfl,rfl⟩
  ·go_loopw [8,9,10] (fun x o i wr=>∃ (k:Nat) (x' o':Int),k≤8∧x=.int .u64 x'∧o=.int .u64 o'∧i=.int .i64 k∧wr=w1∧0≤x'∧x'≤18446744073709551615∧0≤o'∧o'≤18446744073709551615∧Hid (revN (8 - k) x' o'=revN 8 c 0)) (fun x o i _=>8 - (intOf i).toNat)
   case atStart=>exact⟨0,c,0,by omega,rfl,rfl,rfl,rfl,hc1.1,hc1.2,by omega,by omega,η rfl⟩
   case round =>
    obtain⟨k,x',o',hk,rfl,rfl,rfl,rfl,hx0,hx1,ho0,ho1,HR⟩:=hrel
    by_cases hlt:k < 8
    ·go_wp2_with fail
     go_roundw
     case rel=>exact⟨k+1,x' / 256,_,by omega,by go_num,rfl,by go_num,trivial,by omega,by omega,by rw[IntKind.wrap_u64];omega,by rw[IntKind.wrap_u64];omega,η (by rw[← HR.out,show 8 - k=(8 - (k+1))+1 by omega,revN];simp[IntKind.wrap_u64])⟩
     case measure=>simp[intOf];omega
    ·go_wp2_with fail
     go_returns
     exact⟨by simp[kM,HC.out];rw[← HR.out,show 8 - k=0 by omega];rfl,rfl⟩
def doOk (op:Int)(wide:Bool)(off:Int):Prop:=(off=0∧(op=176∨op=0∨op=16∨op=32∨op=64∨op=80∨op=96∨op=112∨op=128∨op=160))∨(off=0∧op=192)∨((off=0∨off=1)∧(op=48∨op=144))∨(op=176∧(off=8∨off=16∨off=32∧wide=true))
def zZ (wide:Bool):Int:=if wide then 64 else 32
theorem yV (b:Bool):wid (zZ b):=by cases b<;>simp[zZ,wid]
def rawN (op:Int)(n x y:Int):Int :=
 if op=0 then IntKind.u64.wrap (x+y) else if op=16 then IntKind.u64.wrap (x - y) else if op=32 then IntKind.u64.wrap (x * y)
 else if op=64 then bits .or .u64 x y else if op=80 then bits .and .u64 x y else if op=160 then bits .xor .u64 x y
 else if op=128 then IntKind.u64.wrap (-x) else if op=96 then IntKind.u64.wrap (x * 2 ^ (y%n).toNat) else if op=112 then x / 2 ^ (y%n).toNat
 else if op=192 then (if negN x n then IntKind.u64.wrap (IntKind.u64.wrap (cutN 18446744073709551615 n - cutN 18446744073709551615 n / 2 ^ (y%n).toNat)+x / 2 ^ (y%n).toNat) else x / 2 ^ (y%n).toNat)
 else y
def aluN (op:Int)(wide:Bool)(off a b:Int):Int :=
 if op=176∧off≠0 then cutN (yY (cutN b (zZ wide)) off) (zZ wide)
 else if op=48 then quoN (cutN a (zZ wide)) (cutN b (zZ wide)) (zZ wide) (off == 1)
 else if op=144 then remN (cutN a (zZ wide)) (cutN b (zZ wide)) (zZ wide) (off == 1)
 else cutN (rawN op (zZ wide) (cutN a (zZ wide)) (cutN b (zZ wide))) (zZ wide)
theorem uY (n:Int):0≤IntKind.u64.wrap n∧IntKind.u64.wrap n≤18446744073709551615:=by rw[IntKind.wrap_u64];omega
theorem bits_rng (op:BinOp)(x y:Int)(h:op=.or∨op=.and∨op=.xor):0≤bits op .u64 x y∧bits op .u64 x y≤18446744073709551615:=by
 rcases h with rfl|rfl|rfl
 all_goals
  simp only[bits]
  exact uY _
theorem shr_rng {x:Int}(h:0≤x)(h1:x≤18446744073709551615)(k:Nat):0≤x / 2 ^ k∧x / 2 ^ k≤18446744073709551615 :=
 ⟨Int.ediv_nonneg h (Int.le_of_lt (Int.pow_pos (by decide))),Int.le_trans (Int.ediv_le_self _ h) h1⟩
theorem raw_rng {op n x y:Int}(hx:0≤x∧x≤18446744073709551615)(hy:0≤y∧y≤18446744073709551615):0≤rawN op n x y∧rawN op n x y≤18446744073709551615:=by
 unfold rawN
 repeat' split
 all_goals first|exact uY _|exact bits_rng _ _ _ (by simp)|exact shr_rng hx.1 hx.2 _|exact hy
theorem jK {a n:Int}(hn:wid n)(h:0≤a)(h1:a≤18446744073709551615):0≤yY a n∧yY a n≤18446744073709551615:=by
 have hc:=cutN_le h h1 hn
 unfold yY
 rcases hn with rfl|rfl|rfl|rfl
 all_goals
  simp[qG]at hc ⊢
  try (split<;>omega)
 exact⟨hc.1,hc.2.1⟩
theorem rem_rng {x y n:Int}{s:Bool}(hn:wid n)(hx:0≤x∧x≤18446744073709551615)(hy:0≤y∧y≤18446744073709551615):0≤remN x y n s∧remN x y n s≤18446744073709551615:=by
 have hp:=pS hn hx.1 hx.2
 have hq:=pS hn hy.1 hy.2
 unfold remN
 split
 ·exact hx
 ·split
  ·exact⟨Int.emod_nonneg _ (by assumption),Int.le_trans (emod_le' hx.1 hy.1) hx.2⟩
  ·split
   ·exact kY hn (jY _).1 (jY _).2
   ·refine⟨?_,Int.le_trans (emod_le' hp.1 hq.1) hp.2⟩
    by_cases h0:kN y n=0
    ·rw[h0,Int.emod_zero];exact hp.1
    ·exact Int.emod_nonneg _ h0
theorem quo_rng {x y n:Int}{s:Bool}(hn:wid n)(hx:0≤x∧x≤18446744073709551615)(hy:0≤y∧y≤18446744073709551615):0≤quoN x y n s∧quoN x y n s≤18446744073709551615:=by
 have hp:=pS hn hx.1 hx.2
 have hq:=pS hn hy.1 hy.2
 unfold quoN
 split
 ·omega
 ·split
  ·exact⟨Int.ediv_nonneg hx.1 hy.1,Int.le_trans (Int.ediv_le_self _ hx.1) hx.2⟩
  ·split
   ·exact⟨Int.ediv_nonneg hp.1 hq.1,Int.le_trans (Int.ediv_le_self _ hp.1) hp.2⟩
   ·exact kY hn (jY _).1 (jY _).2
theorem alu_rng {op:Int}{wide:Bool}{off a b:Int}(h:doOk op wide off)(ha:0≤a∧a≤18446744073709551615)(hb:0≤b∧b≤18446744073709551615):0≤aluN op wide off a b∧aluN op wide off a b≤18446744073709551615:=by
 have hw:=yV wide
 have hx:=kY hw ha.1 ha.2
 have hy:=kY hw hb.1 hb.2
 unfold aluN
 split
 ·rename_i h1
  have:wid off:=by
   rcases h with ⟨h,_⟩|⟨h,_⟩|⟨_,h|h⟩|⟨_,h|h|h⟩
   ·exact absurd h h1.2
   ·exact absurd h h1.2
   ·have:=h1.1;omega
   ·have:=h1.1;omega
   ·exact .inl h
   ·exact .inr (.inl h)
   ·exact .inr (.inr (.inl h.1))
  have:=jK this hy.1 hy.2
  exact kY hw this.1 this.2
 ·split
  ·exact quo_rng hw hx hy
  ·split
   ·exact rem_rng hw hx hy
   ·have:=raw_rng (op:=op) (n:=zZ wide) hx hy
    exact kY hw this.1 this.2
theorem cut_pow {a n:Int}(hn:wid n)(h1:a≤18446744073709551615):cutN a n < 2 ^ n.toNat:=by
 rcases hn with rfl|rfl|rfl|rfl
 all_goals simp[cutN];omega
def AluA (x:Int)(w:World)(e:Ending)(w':World):Prop:=e=.returned (.tuple #[.int .u64 x,.int .i64 0])∧Ext w w'
set_option maxRecDepth 20000 in
set_option maxHeartbeats 8000000 in
theorem r_do_raw (op:Int)(wide:Bool)(off a b:Int)(w:World)(h:off=0∧(op=176∨op=0∨op=16∨op=32∨op=64∨op=80∨op=96∨op=112∨op=128∨op=160))(h0:0≤a)(h1:a≤18446744073709551615)(k0:0≤b)(k1:b≤18446744073709551615):
  Calls Tryz.prog 138 #[.int .u8 op,.bool wide,.int .i16 off,.int .u64 a,.int .u64 b] w (AluA (aluN op wide off a b) w):=by
 have ha:=kY (yV wide) h0 h1
 have hb:=kY (yV wide) k0 k1
 have HP:=η (cut_pow (yV wide) k1)
 obtain⟨x,hx⟩:∃ x,cutN a (zZ wide)=x:=⟨_,rfl⟩
 obtain⟨y,hy⟩:∃ x,cutN b (zZ wide)=x:=⟨_,rfl⟩
 rw[hx]at ha
 rw[hy]at hb HP
 have HX:=η hx
 have HY:=η hy
 clear hx hy
 obtain⟨rfl,h⟩:=h
 have HW:=fun n=>η (uY n)
 have HB:=fun o (h:o=BinOp.or∨o=.and∨o=.xor)=>η (bits_rng o x y h)
 have HS:=fun n=>η (shr_rng ha.1 ha.2 n)
 rcases h with rfl|rfl|rfl|rfl|rfl|rfl|rfl|rfl|rfl|rfl<;>cases wide
 all_goals
  simp only[zZ,Bool.false_eq_true,if_false,if_true]at HX HY HP
  go_enter Tryz.func138,Tryz.ntmps138
  go_wp2_with fail
  refine(xV a _ _ (by simp[wid]) h0).mono ?_
  rintro e w1 ⟨rfl,rfl⟩
  rw[HX.out]
  go_wp2_with fail
  refine(xV b _ _ (by simp[wid]) k0).mono ?_
  rintro e w1 ⟨rfl,rfl⟩
  rw[HY.out]
  go_wp2_with fail
  refine(xV _ _ _ (by simp[wid]) (by first|exact hb.1|exact(HW _).out.1|exact(HB _ (by simp)).out.1|exact(HS _).out.1)).mono ?_
  rintro e w1 ⟨rfl,rfl⟩
  go_wp2_with fail
  go_returns
  exact⟨by simp[aluN,rawN,zZ,HX.out,HY.out],by (repeat (first|exact xE0 _|assumption|refine xE1 ?_ _|refine xE2 ?_|refine xE3 ?_ _|refine xE4 ?_ (by assumption)))⟩
set_option maxRecDepth 20000 in
set_option maxHeartbeats 8000000 in
theorem r_do_arsh (op:Int)(wide:Bool)(off a b:Int)(w:World)(h:off=0∧op=192)(h0:0≤a)(h1:a≤18446744073709551615)(k0:0≤b)(k1:b≤18446744073709551615):
  Calls Tryz.prog 138 #[.int .u8 op,.bool wide,.int .i16 off,.int .u64 a,.int .u64 b] w (AluA (aluN op wide off a b) w):=by
 have ha:=kY (yV wide) h0 h1
 have hb:=kY (yV wide) k0 k1
 have HP:=η (cut_pow (yV wide) k1)
 obtain⟨x,hx⟩:∃ x,cutN a (zZ wide)=x:=⟨_,rfl⟩
 obtain⟨y,hy⟩:∃ x,cutN b (zZ wide)=x:=⟨_,rfl⟩
 rw[hx]at ha
 rw[hy]at hb HP
 have HX:=η hx
 have HY:=η hy
 clear hx hy
 obtain⟨rfl,rfl⟩:=h
 have HW:=fun n=>η (uY n)
 have HS:=fun n=>η (shr_rng ha.1 ha.2 n)
 obtain⟨u,hu⟩:∃ u,negN x (zZ wide)=u:=⟨_,rfl⟩
 have HU:=η hu
 clear hu
 cases wide
 all_goals
  simp only[zZ,Bool.false_eq_true,if_false,if_true]at HU
  simp only[zZ,Bool.false_eq_true,if_false,if_true]at HX HY HP
  go_enter Tryz.func138,Tryz.ntmps138
  go_wp2_with fail
  refine(xV a _ _ (by simp[wid]) h0).mono ?_
  rintro e w1 ⟨rfl,rfl⟩
  rw[HX.out]
  go_wp2_with fail
  refine(xV b _ _ (by simp[wid]) k0).mono ?_
  rintro e w1 ⟨rfl,rfl⟩
  rw[HY.out]
  go_wp2_with fail
  refine(kT x _ _ (by simp[wid]) ha.1).mono ?_
  rintro e w1 ⟨rfl,rfl⟩
  rw[HU.out]
  cases u
  ·go_wp2_with fail
   refine(xV _ _ _ (by simp[wid]) (HS _).out.1).mono ?_
   rintro e w1 ⟨rfl,rfl⟩
   go_wp2_with fail
   go_returns
   exact⟨by simp[aluN,rawN,zZ,HX.out,HY.out,HU.out],by (repeat (first|exact xE0 _|assumption|refine xE1 ?_ _|refine xE2 ?_|refine xE3 ?_ _|refine xE4 ?_ (by assumption)))⟩
  ·go_wp2_with fail
   refine(xV _ _ _ (by simp[wid]) (by decide)).mono ?_
   rintro e w1 ⟨rfl,rfl⟩
   simp only[cutN]
   go_wp2_with fail
   refine(xV _ _ _ (by simp[wid]) (HW _).out.1).mono ?_
   rintro e w1 ⟨rfl,rfl⟩
   go_wp2_with fail
   go_returns
   exact⟨by simp[aluN,rawN,zZ,HX.out,HY.out,HU.out,show cutN 18446744073709551615 32=4294967295 by decide,show cutN 18446744073709551615 64=18446744073709551615 by decide],by (repeat (first|exact xE0 _|assumption|refine xE1 ?_ _|refine xE2 ?_|refine xE3 ?_ _|refine xE4 ?_ (by assumption)))⟩
set_option maxRecDepth 20000 in
set_option maxHeartbeats 8000000 in
theorem r_do_div (op:Int)(wide:Bool)(off a b:Int)(w:World)(h:(off=0∨off=1)∧(op=48∨op=144))(h0:0≤a)(h1:a≤18446744073709551615)(k0:0≤b)(k1:b≤18446744073709551615):
  Calls Tryz.prog 138 #[.int .u8 op,.bool wide,.int .i16 off,.int .u64 a,.int .u64 b] w (AluA (aluN op wide off a b) w):=by
 have ha:=kY (yV wide) h0 h1
 have hb:=kY (yV wide) k0 k1
 have HP:=η (cut_pow (yV wide) k1)
 obtain⟨x,hx⟩:∃ x,cutN a (zZ wide)=x:=⟨_,rfl⟩
 obtain⟨y,hy⟩:∃ x,cutN b (zZ wide)=x:=⟨_,rfl⟩
 rw[hx]at ha
 rw[hy]at hb HP
 have HX:=η hx
 have HY:=η hy
 clear hx hy
 obtain⟨h,h'⟩:=h
 rcases h with rfl|rfl<;>rcases h' with rfl|rfl<;>cases wide
 all_goals
  simp only[zZ,Bool.false_eq_true,if_false,if_true]at HX HY HP
  go_enter Tryz.func138,Tryz.ntmps138
  go_wp2_with fail
  refine(xV a _ _ (by simp[wid]) h0).mono ?_
  rintro e w1 ⟨rfl,rfl⟩
  rw[HX.out]
  go_wp2_with fail
  refine(xV b _ _ (by simp[wid]) k0).mono ?_
  rintro e w1 ⟨rfl,rfl⟩
  rw[HY.out]
  go_wp2_with fail
  refine(r_parts x y _ _ _ (by simp[wid]) ha.1 ha.2 hb.1 hb.2 HP).mono ?_
  rintro e w2 ⟨rfl,hE⟩
  go_wp2_with fail
  go_returns
  exact⟨by simp[aluN,zZ,HX.out,HY.out],by (repeat (first|exact xE0 _|assumption|refine xE1 ?_ _|refine xE2 ?_|refine xE3 ?_ _|refine xE4 ?_ (by assumption)))⟩
set_option maxRecDepth 20000 in
set_option maxHeartbeats 8000000 in
theorem r_do_mov (op:Int)(wide:Bool)(off a b:Int)(w:World)(h:op=176∧(off=8∨off=16∨off=32∧wide=true))(h0:0≤a)(h1:a≤18446744073709551615)(k0:0≤b)(k1:b≤18446744073709551615):
  Calls Tryz.prog 138 #[.int .u8 op,.bool wide,.int .i16 off,.int .u64 a,.int .u64 b] w (AluA (aluN op wide off a b) w):=by
 have ha:=kY (yV wide) h0 h1
 have hb:=kY (yV wide) k0 k1
 have HP:=η (cut_pow (yV wide) k1)
 obtain⟨x,hx⟩:∃ x,cutN a (zZ wide)=x:=⟨_,rfl⟩
 obtain⟨y,hy⟩:∃ x,cutN b (zZ wide)=x:=⟨_,rfl⟩
 rw[hx]at ha
 rw[hy]at hb HP
 have HX:=η hx
 have HY:=η hy
 clear hx hy
 obtain⟨rfl,h⟩:=h
 have HS:=fun n (hn:wid n)=>η (jK hn hb.1 hb.2)
 rcases h with rfl|rfl|⟨rfl,rfl⟩
 ·cases wide
  all_goals
   simp only[zZ,Bool.false_eq_true,if_false,if_true]at HX HY HP
   go_enter Tryz.func138,Tryz.ntmps138
   go_wp2_with fail
   refine(xV a _ _ (by simp[wid]) h0).mono ?_
   rintro e w1 ⟨rfl,rfl⟩
   rw[HX.out]
   go_wp2_with fail
   refine(xV b _ _ (by simp[wid]) k0).mono ?_
   rintro e w1 ⟨rfl,rfl⟩
   rw[HY.out]
   go_wp2_with fail
   refine(gZ y _ _ (by simp[wid]) hb.1 hb.2).mono ?_
   rintro e w1 ⟨rfl,rfl⟩
   go_wp2_with fail
   refine(xV _ _ _ (by simp[wid]) (HS _ (by simp[wid])).out.1).mono ?_
   rintro e w1 ⟨rfl,rfl⟩
   go_wp2_with fail
   go_returns
   exact⟨by simp[aluN,zZ,HX.out,HY.out],by (repeat (first|exact xE0 _|assumption|refine xE1 ?_ _|refine xE2 ?_|refine xE3 ?_ _|refine xE4 ?_ (by assumption)))⟩
 ·cases wide
  all_goals
   simp only[zZ,Bool.false_eq_true,if_false,if_true]at HX HY HP
   go_enter Tryz.func138,Tryz.ntmps138
   go_wp2_with fail
   refine(xV a _ _ (by simp[wid]) h0).mono ?_
   rintro e w1 ⟨rfl,rfl⟩
   rw[HX.out]
   go_wp2_with fail
   refine(xV b _ _ (by simp[wid]) k0).mono ?_
   rintro e w1 ⟨rfl,rfl⟩
   rw[HY.out]
   go_wp2_with fail
   refine(gZ y _ _ (by simp[wid]) hb.1 hb.2).mono ?_
   rintro e w1 ⟨rfl,rfl⟩
   go_wp2_with fail
   refine(xV _ _ _ (by simp[wid]) (HS _ (by simp[wid])).out.1).mono ?_
   rintro e w1 ⟨rfl,rfl⟩
   go_wp2_with fail
   go_returns
   exact⟨by simp[aluN,zZ,HX.out,HY.out],by (repeat (first|exact xE0 _|assumption|refine xE1 ?_ _|refine xE2 ?_|refine xE3 ?_ _|refine xE4 ?_ (by assumption)))⟩
 ·simp only[zZ,Bool.false_eq_true,if_false,if_true]at HX HY HP
  go_enter Tryz.func138,Tryz.ntmps138
  go_wp2_with fail
  refine(xV a _ _ (by simp[wid]) h0).mono ?_
  rintro e w1 ⟨rfl,rfl⟩
  rw[HX.out]
  go_wp2_with fail
  refine(xV b _ _ (by simp[wid]) k0).mono ?_
  rintro e w1 ⟨rfl,rfl⟩
  rw[HY.out]
  go_wp2_with fail
  refine(gZ y _ _ (by simp[wid]) hb.1 hb.2).mono ?_
  rintro e w1 ⟨rfl,rfl⟩
  go_wp2_with fail
  refine(xV _ _ _ (by simp[wid]) (HS _ (by simp[wid])).out.1).mono ?_
  rintro e w1 ⟨rfl,rfl⟩
  go_wp2_with fail
  go_returns
  exact⟨by simp[aluN,zZ,HX.out,HY.out],by (repeat (first|exact xE0 _|assumption|refine xE1 ?_ _|refine xE2 ?_|refine xE3 ?_ _|refine xE4 ?_ (by assumption)))⟩
theorem r_do (op:Int)(wide:Bool)(off a b:Int)(w:World)(h:doOk op wide off)(h0:0≤a)(h1:a≤18446744073709551615)(k0:0≤b)(k1:b≤18446744073709551615):
  Calls Tryz.prog 138 #[.int .u8 op,.bool wide,.int .i16 off,.int .u64 a,.int .u64 b] w (AluA (aluN op wide off a b) w):=by
 rcases h with h|h|h|h
 ·exact r_do_raw op wide off a b w h h0 h1 k0 k1
 ·exact r_do_arsh op wide off a b w h h0 h1 k0 k1
 ·exact r_do_div op wide off a b w h h0 h1 k0 k1
 ·exact r_do_mov op wide off a b w h h0 h1 k0 k1
def pL (op:Int):Prop:=op=16∨op=80∨op=32∨op=48∨op=160∨op=176∨op=96∨op=112∨op=192∨op=208∨op=64
def topN (x n:Int):Int:=IntKind.u64.wrap (yY x n+9223372036854775808)
def isN (op n x y:Int):Bool :=
 if op=16 then x == y else if op=80 then x != y else if op=32 then decide (x > y) else if op=48 then decide (x ≥ y) else if op=160 then decide (x < y) else if op=176 then decide (x≤y)
 else if op=96 then decide (topN x n > topN y n) else if op=112 then decide (topN x n ≥ topN y n) else if op=192 then decide (topN x n < topN y n) else if op=208 then decide (topN x n≤topN y n)
 else bits .and .u64 x y != 0
def uE (op:Int)(wide:Bool)(a b:Int):Bool:=isN op (zZ wide) (if wide then a else a%4294967296) (if wide then b else b%4294967296)
set_option maxRecDepth 20000 in
set_option maxHeartbeats 8000000 in
theorem r_is (op:Int)(wide:Bool)(a b:Int)(w:World)(h:pL op)(h0:0≤a)(h1:a≤18446744073709551615)(k0:0≤b)(k1:b≤18446744073709551615):
  Calls Tryz.prog 107 #[.int .u8 op,.bool wide,.int .u64 a,.int .u64 b] w fun e w'=>e=.returned (.tuple #[.bool (uE op wide a b),.int .i64 0])∧Ext w w':=by
 obtain⟨x,hx⟩:∃ x,(if wide then a else a%4294967296)=x:=⟨_,rfl⟩
 obtain⟨y,hy⟩:∃ x,(if wide then b else b%4294967296)=x:=⟨_,rfl⟩
 have hx1:0≤x∧x≤18446744073709551615:=by subst hx;split<;>omega
 have hy1:0≤y∧y≤18446744073709551615:=by subst hy;split<;>omega
 have hp:=jK (yV wide) hx1.1 hx1.2
 have hq:=jK (yV wide) hy1.1 hy1.2
 obtain⟨p,hp'⟩:∃ p,yY x (zZ wide)=p:=⟨_,rfl⟩
 obtain⟨q,hq'⟩:∃ p,yY y (zZ wide)=p:=⟨_,rfl⟩
 rw[hp']at hp
 rw[hq']at hq
 unfold uE
 rw[hx,hy]
 have HX:=η hx
 have HY:=η hy
 have HP:=η hp'
 have HQ:=η hq'
 clear hx hy hp' hq'
 rcases h with rfl|rfl|rfl|rfl|rfl|rfl|rfl|rfl|rfl|rfl|rfl<;>cases wide
 all_goals
  simp only[zZ,Bool.false_eq_true,if_false,if_true]at HX HY HP HQ
  go_enter Tryz.func107,Tryz.ntmps107
  go_wp2_with fail
  try simp only[HX.out,HY.out]
  refine(gZ _ _ _ (by simp[wid]) (by first|(rw[HX.out];exact hx1.1)|exact hx1.1|omega) (by first|(rw[HX.out];exact hx1.2)|exact hx1.2|omega)).mono ?_
  rintro e w1 ⟨rfl,rfl⟩
  try rw[HX.out]
  rw[HP.out]
  go_wp2_with fail
  try simp only[HY.out]
  refine(gZ _ _ _ (by simp[wid]) (by first|(rw[HY.out];exact hy1.1)|exact hy1.1|omega) (by first|(rw[HY.out];exact hy1.2)|exact hy1.2|omega)).mono ?_
  rintro e w1 ⟨rfl,rfl⟩
  try rw[HY.out]
  rw[HQ.out]
  go_wp2_with fail
  go_returns
  exact⟨by simp[isN,topN,zZ,HP.out,HQ.out,bne],by (repeat (first|exact xE0 _|assumption|refine xE1 ?_ _|refine xE2 ?_|refine xE3 ?_ _|refine xE4 ?_ (by assumption)))⟩
theorem r_Long (x y:Ins)(w:World)(hx:x.Ok)(hy:y.Ok):Calls Tryz.prog 101 #[x.agg,y.agg] w fun e w'=>e=.returned (.int .u64 (x.imm%4294967296+4294967296 * (y.imm%4294967296)))∧Ext w w':=by
 have HX:=η hx.imm
 have HY:=η hy.imm
 go_enter Tryz.func101,Tryz.ntmps101
 go_wp2_with fail
 go_returns
 exact⟨rfl,by (repeat (first|exact xE0 _|assumption|refine xE1 ?_ _|refine xE2 ?_|refine xE3 ?_ _|refine xE4 ?_ (by assumption)))⟩
structure Cl  where
 id:Int
 map:Int
 key:List Int
 val:List Int
 n:List Int
 ret:Int
structure CB  where
 c:Cl
 ka:Option Addr
 kc:Nat
 va:Option Addr
 vc:Nat
 na:Option Addr
 nc:Nat
def CB.kv (x:CB):Value:=.slice x.ka x.c.key.length x.kc
def CB.vv (x:CB):Value:=.slice x.va x.c.val.length x.vc
def CB.nv (x:CB):Value:=.slice x.na x.c.n.length x.nc
def CB.enc (x:CB):List Value:=[.int .i64 x.c.id,.int .i64 x.c.map,x.kv,x.vv,x.nv,.int .u64 x.c.ret]
theorem xK:Enc 6 CB.enc:=⟨fun _=>rfl,fun x u hu=>by
 simp only[CB.enc,List.mem_cons,List.not_mem_nil,or_false]at hu
 rcases hu with rfl|rfl|rfl|rfl|rfl|rfl<;>rfl⟩
theorem el_called:El Tryz.prog 43 76 6 96 (.agg #[.int .i64 0,.int .i64 0,.slice none 0 0,.slice none 0 0,.slice none 0 0,.int .u64 0]):=⟨Tryz.underlying43,by kernel_rfl,rfl,by decide,fun _=>by kernel_rfl⟩
structure RS  where
 L:List Ins
 R:Nat→Int
 S:Nat→Bool
 V:Areas×List TM
 D:List TDef
 dr:List Int
 place:Int
 over:Bool
 code:Int
 steps:Int
 calls:List Cl
structure RLay  where
 lv:Value
 tb:Nat
 T:RTabs
 dv:Value
 drv:Value
 cv:Value
 cs:List CB
def vblk:Value→List Nat
 | .slice (some a) _ _=>[a.block]
 | _=>[]
def xY (σ:RS)(l:RLay):List Value:=[l.lv,.int .u64 (σ.R 0),.int .u64 (σ.R 1),.int .u64 (σ.R 2),.int .u64 (σ.R 3),.int .u64 (σ.R 4),.int .u64 (σ.R 5),.int .u64 (σ.R 6),.int .u64 (σ.R 7),.int .u64 (σ.R 8),.int .u64 (σ.R 9),.int .u64 (σ.R 10),
 .bool (σ.S 0),.bool (σ.S 1),.bool (σ.S 2),.bool (σ.S 3),.bool (σ.S 4),.bool (σ.S 5),.bool (σ.S 6),.bool (σ.S 7),.bool (σ.S 8),.bool (σ.S 9),.bool (σ.S 10),
 .pointer (some ⟨l.T.rb,0,none⟩),.pointer (some ⟨l.tb,0,none⟩),l.dv,l.drv,.int .i64 σ.place,.bool σ.over,.int .i64 σ.code,.int .i64 σ.steps,l.cv]
def fblk:Value→List Nat
 | .slice (some a) (_+1) _=>[a.block]
 | _=>[]
theorem Rd.keepF {α:Type}{F:List Nat}{w w':World}{sz:Nat}{enc:α→List Value}{v:Value}{xs:List α}(h:Rd w sz enc v xs)(k:Keep F w w')(hF:∀ j∈fblk v,j ∉ F):Rd w' sz enc v xs:=by
 cases xs with
 | nil =>
  obtain⟨a,c,rfl,h2,h3,h4,h5⟩:=h
  exact⟨a,c,rfl,h2,h3,h4,fun i x hx=>by simp at hx⟩
 | cons x xs =>
  refine h.keep k (fun a n c e=>?_)
  obtain⟨a',c',e',_⟩:=h
  rw[e']at e
  injection e with e1 e2 e3
  subst e1
  exact hF a.block (by rw[e'];simp[fblk])
theorem Rd.fblk_lt {α:Type}{w:World}{sz:Nat}{enc:α→List Value}{v:Value}{xs:List α}(h:Rd w sz enc v xs)(h0:∀ x,∃ u,(enc x)[0]?=some u):∀ j∈fblk v,j < w.heap.size:=by
 obtain⟨a,c,rfl,h2,h3,h4,h5⟩:=h
 cases xs with
 | nil=>intro j hj;cases a<;>simp[fblk]at hj
 | cons x xs =>
  cases a with
  | none=>intro j hj;simp[fblk]at hj
  | some a =>
   intro j hj
   simp only[List.length_cons,fblk,List.mem_singleton]at hj
   subst hj
   obtain⟨u,hu⟩:=h0 x
   have:=h5 0 x rfl 0 u hu
   have e1:(elt (.slice (some a) (x :: xs).length c) (0 * sz+0)).block=a.block:=by simp only[elt,Addr.add];split<;>rfl
   rw[← e1]
   unfold World.cell? at this
   cases hb:w.heap[(elt (.slice (some a) (x :: xs).length c) (0 * sz+0)).block]? with
   | none=>rw[hb]at this;cases this
   | some o=>exact zE hb
def zX (mb:Nat)(l:RLay):List Nat:=mb :: (l.cv.ownBlock.toList++zH l.tb l.T)
def mfrz (l:RLay):List Nat:=fblk l.lv++(fblk l.dv++(vblk l.drv++l.cs.flatMap fun c=>vblk c.kv++(vblk c.vv++vblk c.nv)))
structure MAt (w:World)(base mb:Nat)(σ:RS)(l:RLay):Prop where
 head:w.heap[mb]?=some (.cells (xY σ l).toArray 50 (0,0))
 low:base≤mb
 tab:RTabAt w base l.tb l.T
 view:yC l.T=σ.V
 calls:Own w base 76 6 CB.enc l.cv l.cs
 cls:l.cs.map (·.c)=σ.calls
 callS:∀ c∈l.cs,Sl w .u8 c.kv c.c.key∧Sl w .u8 c.vv c.c.val∧Sl w .u64 c.nv c.c.n
 code:Rd w 5 Ins.enc l.lv σ.L
 defs:Rd w 4 TDef.enc l.dv σ.D
 draws:Sl w .u64 l.drv σ.dr
 apart:(zX mb l).Nodup
 frz:∀ j∈mfrz l,j ∉ zX mb l∧j < w.heap.size
theorem kD {v:Value}{F:List Nat}(h:∀ j∈vblk v,j ∉ F):∀ a n c,v=.slice (some a) n c→a.block ∉ F:=by
 rintro a n c rfl
 exact h _ (by simp[vblk])
section
variable {w w':World} {base mb:Nat} {σ:RS} {l:RLay} {F:List Nat}
theorem jF {l:RLay}{c:CB}(hc:c∈l.cs){j:Nat}(hj:j∈vblk c.kv++(vblk c.vv++vblk c.nv)):j∈mfrz l:=by
 simp only[mfrz,List.mem_append,List.mem_flatMap]
 exact .inr (.inr (.inr ⟨c,hc,by simpa using hj⟩))
theorem MAt.keep (h:MAt w base mb σ l)(k:Keep F w w')(hF:∀ j∈zX mb l,j ∉ F)(hZ:∀ j∈mfrz l,j ∉ F):MAt w' base mb σ l:=by
 have hz:∀ {v:Value},(∀ j∈vblk v,j∈mfrz l)→∀ a n c,v=.slice (some a) n c→a.block ∉ F:=fun hv=>kD fun j hj=>hZ j (hv j hj)
 refine⟨k.obj h.head (hF _ (by simp[zX])),h.low,h.tab.keep k (fun j hj=>hF j (by simp[zX,hj])),h.view,h.calls.keep k (fun j hj=>hF j (by simp[zX,hj])),h.cls,fun c hc=>⟨?_,?_,?_⟩,?_,?_,?_,h.apart,fun j hj=>⟨(h.frz j hj).1,Nat.lt_of_lt_of_le (h.frz j hj).2 k.size⟩⟩
 ·exact(h.callS c hc).1.keep k (hz fun j hj=>jF hc (by simp[hj]))
 ·exact(h.callS c hc).2.1.keep k (hz fun j hj=>jF hc (by simp[hj]))
 ·exact(h.callS c hc).2.2.keep k (hz fun j hj=>jF hc (by simp[hj]))
 ·exact h.code.keepF k (fun j hj=>hZ j (by simp[mfrz,hj]))
 ·exact h.defs.keepF k (fun j hj=>hZ j (by simp[mfrz,hj]))
 ·exact h.draws.keep k (hz fun j hj=>by simp[mfrz,hj])
theorem MAt.ext (h:MAt w base mb σ l)(k:Ext w w'):MAt w' base mb σ l:=h.keep (F:=[]) (Keep.of_ext k) (fun _ _=>by simp) (fun _ _=>by simp)
theorem MAt.cells (h:MAt w base mb σ l){σ':RS}(k:Keep [mb] w w')(hc:w'.heap[mb]?=some (.cells (xY σ' l).toArray 50 (0,0)))(hV:σ'.V=σ.V)(hL:σ'.L=σ.L)(hD:σ'.D=σ.D)(hd:σ'.dr=σ.dr)(hcl:σ'.calls=σ.calls):MAt w' base mb σ' l:=by
 have ha:=List.nodup_cons.1 h.apart
 have hm:∀ {j:Nat},j∈l.cv.ownBlock.toList++zH l.tb l.T→j ∉ [mb]:=fun hj e=>ha.1 (by rw[List.mem_singleton]at e;rwa[← e])
 have hx:∀ j∈mfrz l,j ∉ [mb]:=fun j hj e=>(h.frz j hj).1 (by rw[List.mem_singleton]at e;subst e;simp[zX])
 have hz:∀ {v:Value},(∀ j∈vblk v,j∈mfrz l)→∀ a n c,v=.slice (some a) n c→a.block ∉ [mb]:=fun hv=>kD fun j hj=>hx j (hv j hj)
 refine⟨hc,h.low,h.tab.keep k (fun j hj=>hm (by simp[hj])),by rw[hV];exact h.view,h.calls.keep k (fun j hj=>hm (by simp[hj])),by rw[hcl];exact h.cls,fun c hc=>⟨?_,?_,?_⟩,?_,?_,?_,h.apart,fun j hj=>⟨(h.frz j hj).1,Nat.lt_of_lt_of_le (h.frz j hj).2 k.size⟩⟩
 ·exact(h.callS c hc).1.keep k (hz fun j hj=>jF hc (by simp[hj]))
 ·exact(h.callS c hc).2.1.keep k (hz fun j hj=>jF hc (by simp[hj]))
 ·exact(h.callS c hc).2.2.keep k (hz fun j hj=>jF hc (by simp[hj]))
 ·rw[hL];exact h.code.keepF k (fun j hj=>hx j (by simp[mfrz,hj]))
 ·rw[hD];exact h.defs.keepF k (fun j hj=>hx j (by simp[mfrz,hj]))
 ·rw[hd];exact h.draws.keep k (hz fun j hj=>by simp[mfrz,hj])
theorem MAt.cell (h:MAt w base mb σ l)(i:Nat){v:Value}(hv:(xY σ l)[i]?=some v):w.cell? ⟨mb,i,none⟩=some v:=by
 rw[cO h.head]
 simpa using hv
theorem ten {d:Nat}(h:d≤10):d=0∨d=1∨d=2∨d=3∨d=4∨d=5∨d=6∨d=7∨d=8∨d=9∨d=10:=by omega
theorem qM (σ:RS)(l:RLay){d:Nat}(hd:d≤10):(xY σ l)[1+d]?=some (.int .u64 (σ.R d)):=by
 rcases ten hd with rfl|rfl|rfl|rfl|rfl|rfl|rfl|rfl|rfl|rfl|rfl<;>rfl
theorem jT (σ:RS)(l:RLay){d:Nat}(hd:d≤10):(xY σ l)[12+d]?=some (.bool (σ.S d)):=by
 rcases ten hd with rfl|rfl|rfl|rfl|rfl|rfl|rfl|rfl|rfl|rfl|rfl<;>rfl
def updN {α:Type}(f:Nat→α)(d:Nat)(x:α):Nat→α:=fun j=>if j=d then x else f j
theorem rset_R (σ:RS)(l:RLay){d:Nat}(hd:d≤10)(n:Int):(xY σ l).set (1+d) (.int .u64 n)=xY {σ with R:=updN σ.R d n} l:=by
 rcases ten hd with rfl|rfl|rfl|rfl|rfl|rfl|rfl|rfl|rfl|rfl|rfl<;>simp[xY,updN]
theorem rset_S (σ:RS)(l:RLay){d:Nat}(hd:d≤10)(n:Bool):(xY σ l).set (12+d) (.bool n)=xY {σ with S:=updN σ.S d n} l:=by
 rcases ten hd with rfl|rfl|rfl|rfl|rfl|rfl|rfl|rfl|rfl|rfl|rfl<;>simp[xY,updN]
end
structure MRel (F0 Z0:List Nat)(wf:World)(base:Nat)(w:World)(mb:Nat)(σ:RS):Prop where
 keep:Keep F0 wf w
 low:base≤wf.heap.size
 lay:∃ l,MAt w base mb σ l∧(∀ j∈zX mb l,j∈F0∨wf.heap.size≤j)∧∀ j∈mfrz l,j∈Z0∨wf.heap.size≤j
section
variable {F0 Z0:List Nat} {wf w w':World} {base mb:Nat} {σ:RS}
theorem MRel.go (h:MRel F0 Z0 wf base w mb σ)(k:Ext w w'):MRel F0 Z0 wf base w' mb σ:=by
 obtain⟨h0,hl,l,h1,h2,h3⟩:=h
 exact⟨h0.through (F:=[]) (Keep.of_ext k) (fun _ hj=>by cases hj),hl,l,h1.ext k,h2,h3⟩
theorem MRel.turn (h:MRel F0 Z0 wf base w mb σ){σ':RS}(k:Keep [mb] w w')(hc:∀ l,MAt w base mb σ l→w'.heap[mb]?=some (.cells (xY σ' l).toArray 50 (0,0)))(hV:σ'.V=σ.V:=by rfl)(hL:σ'.L=σ.L:=by rfl)(hD:σ'.D=σ.D:=by rfl)(hd:σ'.dr=σ.dr:=by rfl)(hcl:σ'.calls=σ.calls:=by rfl):MRel F0 Z0 wf base w' mb σ':=by
 obtain⟨h0,hl,l,h1,h2,h3⟩:=h
 exact⟨h0.through k (fun j hj=>by rw[List.mem_singleton]at hj;subst hj;exact h2 _ (by simp[zX])),hl,l,h1.cells k (hc l h1) hV hL hD hd hcl,h2,h3⟩
theorem MRel.lt (h:MRel F0 Z0 wf base w mb σ):mb < w.heap.size:=by
 obtain⟨h0,hl,l,h1,h2,h3⟩:=h
 exact zE h1.head
end
section
variable {P:Program} {ops:Array Oper} {md:Region.Mode} {C:World→Prop}
def headQ (P:Program)(md:Region.Mode)(ops:Array Oper)(C:World→Prop)(n:Nat)(L:Array Bool→Act→Prop):Nat→Array Bool→Act→Prop
 | 0,listed,a=>L listed a
 | f+1,listed,a =>
  Region.ready md ops listed≠[]∧∀ i∈Region.ready md ops listed,i < n∧qOp P ops C i (headQ P md ops C n L f (listed.setIfInBounds i true)) a
theorem any_of_headQ {n g:Nat}{L:Array Bool→Act→Prop}{Q':Exit→Act→World→Prop}(hL:∀ listed a w,C w→L listed a→wpAny P md ops Q' g listed a w):
  ∀ (f:Nat) (listed:Array Bool) (a:Act) (w:World),C w→headQ P md ops C n L f listed a→wpAny P md ops Q' (f+g) listed a w
 | 0,listed,a,w,hw,h=>by rw[Nat.zero_add];exact hL _ _ _ hw h
 | f+1,listed,a,w,hw,h=>by
  rw[show f+1+g=(f+g)+1 by omega]
  exact⟨fun h0=>absurd h0 h.1,fun i hi=>wpOp_of_qOp hw (fun a' w' hw' h'=>any_of_headQ hL f _ a' w' hw' h') (h.2 i hi).2⟩
theorem headQ_first {n i:Nat}{oi:Oper}{v:Value}{L:Array Bool→Act→Prop}(hi:ops[i]?=some oi)(hsel:∀ (j:Nat) (o:Oper) cs b,ops[j]?=some o→o.op≠.select cs b)
  (hs:Region.sinkB md ops n=true) (hc:Region.chainB md ops n=true) (hn:n < ops.size) (hin:i < n)
  (hdone:∀ listed a,L listed a→∀ j∈Region.ready md ops listed,n≤j) :
  ∀ (f:Nat) (listed:Array Bool) (a:Act),HeadInv md ops n listed →
   (∀ j oj,ops[j]?=some oj→j≠i→listed.getD j true=false→(∀ e∈oj.after,Region.binds md e=true→e.on≠i)→oi.apart ops oj=true) →
   i∈Region.ready md ops listed→YieldsIn P ops C oi v a →
   headQ P md ops C n L f (listed.setIfInBounds i true) (a.put oi.dst v)→headQ P md ops C n L (f+1) listed a:=by
 intro f
 induction f with
 | zero =>
  intro listed a inv _ hr hy H
  have hun:=(mem_ready.1 hr).1
  refine⟨fun h=>(by rw[h]at hr;cases hr),fun j hj=>?_⟩
  have hjn:j < n:=by
   rcases Nat.lt_or_ge j n with h|h
   ·exact h
   ·exact absurd hj (tail_waits hs hc hn inv _ i rfl hin hun j h)
  refine⟨hjn,?_⟩
  by_cases hji:j=i
  ·subst hji;exact hy.qOp hi H
  ·have:=hdone _ _ H j (ready_mono hj hji)
   omega
 | succ f ih =>
  intro listed a inv hfree hr hy H
  have hun:=(mem_ready.1 hr).1
  refine⟨fun h=>(by rw[h]at hr;cases hr),fun j hj=>?_⟩
  have hjn:j < n:=by
   rcases Nat.lt_or_ge j n with h|h
   ·exact h
   ·exact absurd hj (tail_waits hs hc hn inv _ i rfl hin hun j h)
  refine⟨hjn,?_⟩
  by_cases hji:j=i
  ·subst hji;exact hy.qOp hi H
  ·have h1:=(H.2 j (ready_mono hj hji)).2
   obtain⟨hjun,oj,hoj,hall⟩:=mem_ready.1 hj
   have hnot:∀ e∈oj.after,Region.binds md e=true→e.on≠i:=fun e he hb heq=>by
    have h1:=hall e he hb
    rw[heq,getD_both hun]at h1
    cases h1
   have h2:=qOp_put hoj (hfree j oj hoj hji hjun hnot) (fun cs b=>hsel i oi cs b hi) (fun cs b=>hsel j oj cs b hoj) hy h1
   have hfree':∀ k ok,ops[k]?=some ok→k≠i→(listed.setIfInBounds j true).getD k true=false →
     (∀ e∈ok.after,Region.binds md e=true→e.on≠i)→oi.apart ops ok=true:=fun k ok hk hki hun hno=>by
    refine hfree k ok hk hki ?_ hno
    by_cases hjk:j=k
    ·subst hjk;exact hjun
    ·rw[getD_set_ne true hjk]at hun;exact hun
   refine qOp_mono (fun a' h3=>ih (listed.setIfInBounds j true) a' (inv.set hj hjn) hfree' (ready_mono hr (Ne.symm hji)) h3.1 ?_) h2
   rw[Array.setIfInBounds_comm _ _ hji]
   exact h3.2
theorem headQ_lex {n g:Nat}{Lq:Act→Prop}(hsel:Region.noSelect ops=true)(hs:Region.sinkB md ops n=true)(hc:Region.chainB md ops n=true)(hn:n < ops.size):
  ∀ (l:List Oper) (k:Nat) (listed:Array Bool) (a:Act),(∀ j,j < l.length→l[j]?=ops[k+j]?)→k+l.length=n→HeadInv md ops n listed →
  Region.lexHead md ops g l.length k listed=true→wpQuiet P ops C Lq l a →
  headQ P md ops C n (fun listed' a'=>Region.seqB md ops g n listed'=true∧Lq a') l.length listed a
 | [],k,listed,a,_,hk,_,hB,h=>by
  have:k=n:=by simpa using hk
  subst this
  exact⟨by simpa[Region.lexHead]using hB,h⟩
 | o :: l,k,listed,a,hl,hk,inv,hB,h=>by
  have h0:ops[k]?=some o:=by simpa using (hl 0 (by simp)).symm
  simp only[List.length_cons,Region.lexHead,Bool.and_eq_true]at hB
  obtain⟨⟨hr,hf⟩,hB'⟩:=hB
  have hkn:k < n:=by simp only[List.length_cons]at hk;omega
  have hr':k∈Region.ready md ops listed:=by simpa using hr
  have hst:qOp P ops C k (wpQuiet P ops C Lq l) a:=by unfold qOp;simp only[h0];exact h
  obtain⟨v,hy,hK⟩:=yieldsIn_of_qOp h0 hst
  exact headQ_first h0 (Region.noSelect_spec hsel) hs hc hn hkn (fun listed' a' hL=>seqB_ready hL.1) l.length listed a inv (Region.free_spec h0 hf) hr' hy
   (headQ_lex hsel hs hc hn l (k+1) _ _ (fun j hj=>by have:=hl (j+1) (by simp;omega);simpa[Nat.add_assoc,Nat.add_comm 1 j]using this) (by simp only[List.length_cons]at hk;omega) (inv.set hr' hkn) hB' hK)
theorem pE {id:Nat}{Q:Exit→Act→World→Prop}{a:Act}{w:World}{l:List Oper}(n:Nat)(hm:P.follows .mixedOrders=true)(hB:Region.lexTailB .any l.toArray n=true)(hC:C {w with drawn:=w.drawn+1})
  (h:wpQuiet P l.toArray C (fun a'=>∀ w',C w'→wpList P l.toArray Q (l.drop n) a' w') (l.take n) a):(Code.region id l.toArray true).wp P Q a w:=by
 simp only[Region.lexTailB,Bool.and_eq_true,decide_eq_true_eq]at hB
 obtain⟨⟨⟨⟨hsel,hn⟩,hs⟩,hc⟩,hlex⟩:=hB
 have hn':n < l.length:=by simpa using hn
 have htl:(l.take n).length=n:=by simp;omega
 have hdl:(l.drop n).length=l.toArray.size - n:=by simp
 have inv0:HeadInv .any l.toArray n (Array.replicate l.toArray.size false) :=
  ⟨by simp,fun j oj _ hl=>(by rw[getD_replicate_false]at hl;cases hl),fun t _ ht=>getD_in (by simpa using ht) (getD_replicate_false _ _)⟩
 have H:=headQ_lex (md:=.any) (g:=l.toArray.size - n) (C:=C) hsel hs hc hn (l.take n) 0 _ a (fun j hj=>by
  have hj':j < n:=by rw[htl]at hj;exact hj
  simp[hj']) (by simpa using htl) inv0 (by rw[htl];exact hlex) h
 refine wp_region_any hm ?_
 have:=any_of_headQ (Q':=Q) (g:=l.toArray.size - n) (fun listed a' w' hw' hL=>by
  have:=wpAny_of_seq (md:=.any) (Q':=Q) (l.drop n) n listed a' w' (fun j=>by simp[List.getElem?_drop]) (by rw[hdl];exact hL.1) (hL.2 w' hw')
  rwa[hdl]at this) _ _ _ _ hC H
 rw[htl,show n+(l.toArray.size - n)=l.toArray.size by omega]at this
 exact this
end
structure Grow (W:World) where
 val:World
 ext:Ext W val
instance (W:World):Nonempty (Grow W):=⟨⟨W,Ext.rfl' W⟩⟩
theorem Grow.cell {W:World}{a:Addr}{v:Value}(h:W.cell? a=some v):∀ n:Grow W,n.val.cell? a=some v:=fun n=>n.ext.cellOf h
theorem Calls.grow {P:Program}{f:FuncId}{args:Array Value}{W:World}{n:Grow W}{v:Value}(h:Calls P f args n.val fun e w'=>e=.returned v∧Ext n.val w'):
  Calls P f args n.val fun e w''=>e=.returned v∧∃ m:Grow W,w''=m.val :=
 h.mono fun _ w' ⟨he,hE⟩=>⟨he,⟨w',n.ext.trans' hE⟩,rfl⟩
theorem Calls.grow1 {P:Program}{f:FuncId}{args:Array Value}{W:World}{n:Grow W}{v:Value}{o:Obj}(h:Calls P f args n.val fun e w'=>e=.returned v∧w'=n.val.alloc o):
  Calls P f args n.val fun e w''=>e=.returned v∧∃ m:Grow W,w''=m.val :=
 h.mono fun _ w' ⟨he,hE⟩=>⟨he,⟨w',by subst hE;exact n.ext.alloc' o⟩,rfl⟩
theorem zR {P:Program}{id:Nat}{Q:Exit→Act→World→Prop}{a:Act}{w:World}{l:List Oper}(n:Nat)(hm:P.follows .mixedOrders=true)(hB:Region.lexTailB .any l.toArray n=true)
  (h:wpQuiet P l.toArray (fun w'=>∃ n:Grow w,w'=n.val) (fun a'=>∀ w',(∃ n:Grow w,w'=n.val)→wpList P l.toArray Q (l.drop n) a' w') (l.take n) a):(Code.region id l.toArray true).wp P Q a w :=
 pE (C:=fun w'=>∃ n:Grow w,w'=n.val) n hm hB ⟨⟨_,Ext.drew' (Ext.rfl' w)⟩,rfl⟩ h
theorem yE {P:Program}{id:Nat}{Q:Exit→Act→World→Prop}{a:Act}{w:World}{l:List Oper}(hm:P.follows .mixedOrders=true)(hB:Region.lexB .any l.toArray=true)
  (h:wpQuiet P l.toArray (fun w'=>∃ n:Grow w,w'=n.val) (fun a'=>∀ w',(∃ n:Grow w,w'=n.val)→Q .normal a' w') l a):(Code.region id l.toArray true).wp P Q a w :=
 wp_region_quiet (C:=fun w'=>∃ n:Grow w,w'=n.val) hm hB ⟨⟨_,Ext.drew' (Ext.rfl' w)⟩,rfl⟩ (by simpa using h)
end Go.Proofs.YtppefchjoodgnaaGreat
