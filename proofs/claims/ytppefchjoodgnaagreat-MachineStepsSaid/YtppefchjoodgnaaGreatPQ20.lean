import Derived.Test.YtppefchjoodgnaaGreatPQ10
set_option linter.unusedSimpArgs false
set_option linter.unusedVariables false
namespace Go.Proofs.YtppefchjoodgnaaGreat
open Go.RowKit
theorem p_Sign (a n:Int)(w:World)(hn:wid n)(h0:0≤a)(h1:a≤18446744073709551615):Calls Tryz.prog 130 #[.int .u64 a,.int .i64 n] w fun e w'=>e=.returned (.int .u64 (yY a n))∧w'=w:=by
 rcases hn with rfl|rfl|rfl|rfl
 all_goals
  go_enter Tryz.func130,Tryz.ntmps130
  go_wp2_with fail
  go_returns
  refine⟨xX ?_,rfl⟩
  simp[yY,cutN,qG,IntKind.wrap_u64]
  unfold wrap64
  first|omega|(split<;>omega)
def simpN (op a b:Int):Option Int :=
 if op=0 then some (IntKind.u64.wrap (a+b)) else if op=16 then some (IntKind.u64.wrap (a - b)) else if op=32 then some (IntKind.u64.wrap (a * b))
 else if op=64 then some (bits .or .u64 a b) else if op=80 then some (bits .and .u64 a b) else if op=160 then some (bits .xor .u64 a b)
 else if op=128 then some (IntKind.u64.wrap (-a)) else if op=176 then some b else none
theorem p_simple (op a b:Int)(w:World)(ho:0≤op∧op≤255):Calls Tryz.prog 176 #[.int .u8 op,.int .u64 a,.int .u64 b] w fun e w'=>e=.returned (.tuple #[.int .u64 ((simpN op a b).getD 0),.bool (simpN op a b).isSome])∧w'=w:=by
 by_cases h:op=0∨op=16∨op=32∨op=64∨op=80∨op=160∨op=128∨op=176
 ·rcases h with rfl|rfl|rfl|rfl|rfl|rfl|rfl|rfl
  all_goals
   go_enter Tryz.func176,Tryz.ntmps176
   go_wp2_with fail
   go_returns
   exact⟨by simp[simpN],rfl⟩
 ·have e:simpN op a b=none:=by unfold simpN;simp only[not_or]at h;simp[h]
  rw[e]
  have h1:(op == 0)=false∧(op == 16)=false∧(op == 32)=false∧(op == 64)=false∧(op == 80)=false∧(op == 160)=false∧(op == 128)=false∧(op == 176)=false:=by simp only[beq_eq_false_iff_ne];omega
  obtain⟨g1,g2,g3,g4,g5,g6,g7,g8⟩:=h1
  clear h e
  go_enter Tryz.func176,Tryz.ntmps176
  go_wp2_with fail
  go_returns
  exact⟨rfl,rfl⟩
theorem and63 {b:Int}(k0:0≤b)(k1:b≤18446744073709551615):bits .and .u64 b 63=b%64:=by
 have h:=bits_and_u64_nat b.toNat 63 (by omega) (by omega)
 rw[show (63:Nat)=2 ^ 6 - 1 from rfl,Nat.and_two_pow_sub_one_eq_mod,Int.toNat_of_nonneg k0]at h
 exact h.trans (by omega)
theorem and31 {b:Int}(k0:0≤b)(k1:b≤18446744073709551615):bits .and .u64 b 31=b%32:=by
 have h:=bits_and_u64_nat b.toNat 31 (by omega) (by omega)
 rw[show (31:Nat)=2 ^ 5 - 1 from rfl,Nat.and_two_pow_sub_one_eq_mod,Int.toNat_of_nonneg k0]at h
 exact h.trans (by omega)
def byN (wide:Bool)(b:Int):Nat:=(if wide then b%64 else b%32).toNat
def movN (op:Int)(wide:Bool)(a b:Int):Int :=
 if op=96 then IntKind.u64.wrap (a * 2 ^ byN wide b) else if op=112 then (if wide then a / 2 ^ byN wide b else IntKind.u64.wrap (a%4294967296 / 2 ^ byN wide b))
 else if wide then IntKind.u64.wrap (wrap64 a / 2 ^ byN wide b) else IntKind.u64.wrap (wrap32 a / 2 ^ byN wide b)
theorem p_moved (op:Int)(wide:Bool)(a b:Int)(w:World)(ho:op=96∨op=112∨op=192)(h0:0≤a)(h1:a≤18446744073709551615)(k0:0≤b)(k1:b≤18446744073709551615):Calls Tryz.prog 177 #[.int .u8 op,.bool wide,.int .u64 a,.int .u64 b] w fun e w'=>e=.returned (.tuple #[.int .u64 (movN op wide a b),.bool true])∧w'=w:=by
 have e63:=and63 k0 k1
 have e31:=and31 k0 k1
 rcases ho with rfl|rfl|rfl<;>cases wide
 all_goals
  go_enter Tryz.func177,Tryz.ntmps177
  go_wp2_with fail
  go_returns
  exact⟨by simp[movN,byN],rfl⟩
theorem p_none (op:Int)(wide:Bool)(a b:Int)(w:World)(ho:op=48∨op=144)(h0:0≤a)(h1:a≤18446744073709551615)(k0:0≤b)(k1:b≤18446744073709551615):Calls Tryz.prog 177 #[.int .u8 op,.bool wide,.int .u64 a,.int .u64 b] w fun e w'=>e=.returned (.tuple #[.int .u64 0,.bool false])∧w'=w:=by
 have e63:=and63 k0 k1
 have e31:=and31 k0 k1
 rcases ho with rfl|rfl<;>cases wide
 all_goals
  go_enter Tryz.func177,Tryz.ntmps177
  go_wp2_with fail
  go_returns
  exact⟨rfl,rfl⟩
theorem half64 (x:Int):negN x 64=decide (x / 9223372036854775808=1):=by unfold negN qG;rfl
theorem uW {x:Int}(h0:0≤x)(h1:x≤18446744073709551615):wrap64 x=if x < 9223372036854775808 then x else x - 18446744073709551616:=by unfold wrap64;split<;>omega
theorem quo64 {x y:Int}(h0:0≤x)(h1:x≤18446744073709551615)(k0:0 < y)(k1:y≤18446744073709551615):IntKind.u64.wrap (wrap64 ((wrap64 x).tdiv (wrap64 y)))=quoN x y 64 true:=by
 have hny:y≠0:=by omega
 unfold quoN kN
 simp only[hny,if_false,half64,cutN,if_true,jB,Bool.true_eq_false,uW h0 h1,uW (Int.le_of_lt k0) k1]
 by_cases hx:x < 9223372036854775808<;>by_cases hy:y < 9223372036854775808
 ·have e1:¬ (x / 9223372036854775808=1):=by omega
  have e2:¬ (y / 9223372036854775808=1):=by omega
  simp only[hx,hy,e1,e2,if_true,decide_false,Bool.false_eq_true,if_false]
  rw[Int.tdiv_eq_ediv_of_nonneg h0]
  have:=Int.ediv_le_self y h0
  have:=Int.ediv_nonneg h0 (Int.le_of_lt k0)
  rw[IntKind.wrap_u64]
  unfold wrap64
  omega
 ·have e1:¬ (x / 9223372036854775808=1):=by omega
  have e2:(y / 9223372036854775808=1):=by omega
  simp only[hx,hy,e1,e2,if_true,decide_false,decide_true,Bool.false_eq_true,if_false]
  have e3:y - 18446744073709551616=-(18446744073709551616 - y):=by omega
  have e4:(-y)%18446744073709551616=18446744073709551616 - y:=by omega
  rw[e3,e4,Int.tdiv_neg,Int.tdiv_eq_ediv_of_nonneg h0]
  have:=Int.ediv_le_self (18446744073709551616 - y) h0
  have:=Int.ediv_nonneg h0 (show 0≤18446744073709551616 - y by omega)
  rw[IntKind.wrap_u64]
  unfold wrap64
  omega
 ·have e1:(x / 9223372036854775808=1):=by omega
  have e2:¬ (y / 9223372036854775808=1):=by omega
  simp only[hx,hy,e1,e2,if_true,decide_false,decide_true,Bool.true_eq_false,Bool.false_eq_true,if_false]
  have e3:x - 18446744073709551616=-(18446744073709551616 - x):=by omega
  have e4:(-x)%18446744073709551616=18446744073709551616 - x:=by omega
  rw[e3,e4,Int.neg_tdiv,Int.tdiv_eq_ediv_of_nonneg (by omega)]
  have:=Int.ediv_le_self y (show 0≤18446744073709551616 - x by omega)
  have:=Int.ediv_nonneg (show 0≤18446744073709551616 - x by omega) (Int.le_of_lt k0)
  rw[IntKind.wrap_u64]
  unfold wrap64
  omega
 ·have e1:(x / 9223372036854775808=1):=by omega
  have e2:(y / 9223372036854775808=1):=by omega
  simp only[hx,hy,e1,e2,if_true,decide_true,if_false]
  have e3:x - 18446744073709551616=-(18446744073709551616 - x):=by omega
  have e4:(-x)%18446744073709551616=18446744073709551616 - x:=by omega
  have e5:y - 18446744073709551616=-(18446744073709551616 - y):=by omega
  have e6:(-y)%18446744073709551616=18446744073709551616 - y:=by omega
  rw[e3,e4,e5,e6,Int.neg_tdiv,Int.tdiv_neg,Int.neg_neg,Int.tdiv_eq_ediv_of_nonneg (by omega)]
  have:=Int.ediv_le_self (18446744073709551616 - y) (show 0≤18446744073709551616 - x by omega)
  have:=Int.ediv_nonneg (show 0≤18446744073709551616 - x by omega) (show 0≤18446744073709551616 - y by omega)
  rw[IntKind.wrap_u64]
  unfold wrap64
  omega
theorem rem64 {x y:Int}(h0:0≤x)(h1:x≤18446744073709551615)(k0:0 < y)(k1:y≤18446744073709551615):IntKind.u64.wrap ((wrap64 x).tmod (wrap64 y))=remN x y 64 true:=by
 have hny:y≠0:=by omega
 unfold remN kN
 simp only[hny,if_false,half64,cutN,if_true,jB,Bool.true_eq_false,uW h0 h1,uW (Int.le_of_lt k0) k1]
 by_cases hx:x < 9223372036854775808<;>by_cases hy:y < 9223372036854775808
 ·have e1:¬ (x / 9223372036854775808=1):=by omega
  have e2:¬ (y / 9223372036854775808=1):=by omega
  simp only[hx,hy,e1,e2,if_true,decide_false,Bool.false_eq_true,if_false]
  rw[Int.tmod_eq_emod_of_nonneg h0]
  have:=Int.emod_lt_of_pos x k0
  have:=Int.emod_nonneg x hny
  rw[IntKind.wrap_u64]
  omega
 ·have e1:¬ (x / 9223372036854775808=1):=by omega
  have e2:(y / 9223372036854775808=1):=by omega
  simp only[hx,hy,e1,e2,if_true,decide_false,decide_true,Bool.false_eq_true,if_false]
  have e3:y - 18446744073709551616=-(18446744073709551616 - y):=by omega
  have e4:(-y)%18446744073709551616=18446744073709551616 - y:=by omega
  rw[e3,e4,Int.tmod_neg,Int.tmod_eq_emod_of_nonneg h0]
  have:=Int.emod_lt_of_pos x (show 0 < 18446744073709551616 - y by omega)
  have:=Int.emod_nonneg x (show 18446744073709551616 - y≠0 by omega)
  rw[IntKind.wrap_u64]
  omega
 ·have e1:(x / 9223372036854775808=1):=by omega
  have e2:¬ (y / 9223372036854775808=1):=by omega
  simp only[hx,hy,e1,e2,if_true,decide_false,decide_true,Bool.false_eq_true,if_false]
  have e3:x - 18446744073709551616=-(18446744073709551616 - x):=by omega
  have e4:(-x)%18446744073709551616=18446744073709551616 - x:=by omega
  rw[e3,e4,Int.neg_tmod,Int.tmod_eq_emod_of_nonneg (by omega)]
  have:=Int.emod_lt_of_pos (18446744073709551616 - x) k0
  have:=Int.emod_nonneg (18446744073709551616 - x) hny
  rw[IntKind.wrap_u64]
 ·have e1:(x / 9223372036854775808=1):=by omega
  have e2:(y / 9223372036854775808=1):=by omega
  simp only[hx,hy,e1,e2,if_true,decide_true,if_false]
  have e3:x - 18446744073709551616=-(18446744073709551616 - x):=by omega
  have e4:(-x)%18446744073709551616=18446744073709551616 - x:=by omega
  have e5:y - 18446744073709551616=-(18446744073709551616 - y):=by omega
  have e6:(-y)%18446744073709551616=18446744073709551616 - y:=by omega
  rw[e3,e4,e5,e6,Int.neg_tmod,Int.tmod_neg,Int.tmod_eq_emod_of_nonneg (by omega)]
  rw[IntKind.wrap_u64]
theorem pow32:(2:Int) ^ (32:Int).toNat=4294967296:=rfl
theorem half32 (x:Int):negN x 32=decide (x / 2147483648=1):=by unfold negN qG;rfl
theorem uZ {x:Int}(h0:0≤x)(h1:x≤4294967295):wrap32 x=if x < 2147483648 then x else x - 4294967296:=by unfold wrap32;split<;>omega
theorem quo32 {x y:Int}(h0:0≤x)(h1:x≤4294967295)(k0:0 < y)(k1:y≤4294967295):IntKind.u64.wrap (wrap32 ((wrap32 x).tdiv (wrap32 y)))%4294967296=quoN x y 32 true:=by
 have hny:y≠0:=by omega
 unfold quoN kN
 simp only[hny,if_false,if_true,half32,cutN,show ¬ ((32:Int)=64) by decide,jB,pow32,Bool.true_eq_false,uZ h0 h1,uZ (Int.le_of_lt k0) k1]
 by_cases hx:x < 2147483648<;>by_cases hy:y < 2147483648
 ·have e1:¬ (x / 2147483648=1):=by omega
  have e2:¬ (y / 2147483648=1):=by omega
  simp only[hx,hy,e1,e2,if_true,decide_false,Bool.false_eq_true,if_false]
  rw[Int.tdiv_eq_ediv_of_nonneg h0]
  have:=Int.ediv_le_self y h0
  have:=Int.ediv_nonneg h0 (Int.le_of_lt k0)
  rw[IntKind.wrap_u64]
  unfold wrap32
  omega
 ·have e1:¬ (x / 2147483648=1):=by omega
  have e2:(y / 2147483648=1):=by omega
  simp only[hx,hy,e1,e2,if_true,decide_false,decide_true,Bool.false_eq_true,if_false]
  have e3:y - 4294967296=-(4294967296 - y):=by omega
  have e4:(-y)%18446744073709551616%4294967296=4294967296 - y:=by omega
  rw[e3,e4,Int.tdiv_neg,Int.tdiv_eq_ediv_of_nonneg h0]
  have:=Int.ediv_le_self (4294967296 - y) h0
  have:=Int.ediv_nonneg h0 (show 0≤4294967296 - y by omega)
  rw[IntKind.wrap_u64]
  unfold wrap32
  omega
 ·have e1:(x / 2147483648=1):=by omega
  have e2:¬ (y / 2147483648=1):=by omega
  simp only[hx,hy,e1,e2,if_true,decide_false,decide_true,Bool.true_eq_false,Bool.false_eq_true,if_false]
  have e3:x - 4294967296=-(4294967296 - x):=by omega
  have e4:(-x)%18446744073709551616%4294967296=4294967296 - x:=by omega
  rw[e3,e4,Int.neg_tdiv,Int.tdiv_eq_ediv_of_nonneg (by omega)]
  have:=Int.ediv_le_self y (show 0≤4294967296 - x by omega)
  have:=Int.ediv_nonneg (show 0≤4294967296 - x by omega) (Int.le_of_lt k0)
  rw[IntKind.wrap_u64]
  unfold wrap32
  omega
 ·have e1:(x / 2147483648=1):=by omega
  have e2:(y / 2147483648=1):=by omega
  simp only[hx,hy,e1,e2,if_true,decide_true,if_false]
  have e3:x - 4294967296=-(4294967296 - x):=by omega
  have e4:(-x)%18446744073709551616%4294967296=4294967296 - x:=by omega
  have e5:y - 4294967296=-(4294967296 - y):=by omega
  have e6:(-y)%18446744073709551616%4294967296=4294967296 - y:=by omega
  rw[e3,e4,e5,e6,Int.neg_tdiv,Int.tdiv_neg,Int.neg_neg,Int.tdiv_eq_ediv_of_nonneg (by omega)]
  have:=Int.ediv_le_self (4294967296 - y) (show 0≤4294967296 - x by omega)
  have:=Int.ediv_nonneg (show 0≤4294967296 - x by omega) (show 0≤4294967296 - y by omega)
  rw[IntKind.wrap_u64]
  unfold wrap32
  omega
theorem rem32 {x y:Int}(h0:0≤x)(h1:x≤4294967295)(k0:0 < y)(k1:y≤4294967295):IntKind.u64.wrap ((wrap32 x).tmod (wrap32 y))%4294967296=remN x y 32 true:=by
 have hny:y≠0:=by omega
 unfold remN kN
 simp only[hny,if_false,if_true,half32,cutN,show ¬ ((32:Int)=64) by decide,jB,pow32,Bool.true_eq_false,uZ h0 h1,uZ (Int.le_of_lt k0) k1]
 by_cases hx:x < 2147483648<;>by_cases hy:y < 2147483648
 ·have e1:¬ (x / 2147483648=1):=by omega
  have e2:¬ (y / 2147483648=1):=by omega
  simp only[hx,hy,e1,e2,if_true,decide_false,Bool.false_eq_true,if_false]
  rw[Int.tmod_eq_emod_of_nonneg h0]
  have:=Int.emod_lt_of_pos x k0
  have:=Int.emod_nonneg x hny
  rw[IntKind.wrap_u64]
  omega
 ·have e1:¬ (x / 2147483648=1):=by omega
  have e2:(y / 2147483648=1):=by omega
  simp only[hx,hy,e1,e2,if_true,decide_false,decide_true,Bool.false_eq_true,if_false]
  have e3:y - 4294967296=-(4294967296 - y):=by omega
  have e4:(-y)%18446744073709551616%4294967296=4294967296 - y:=by omega
  rw[e3,e4,Int.tmod_neg,Int.tmod_eq_emod_of_nonneg h0]
  have:=Int.emod_lt_of_pos x (show 0 < 4294967296 - y by omega)
  have:=Int.emod_nonneg x (show 4294967296 - y≠0 by omega)
  rw[IntKind.wrap_u64]
  omega
 ·have e1:(x / 2147483648=1):=by omega
  have e2:¬ (y / 2147483648=1):=by omega
  simp only[hx,hy,e1,e2,if_true,decide_false,decide_true,Bool.false_eq_true,if_false]
  have e3:x - 4294967296=-(4294967296 - x):=by omega
  have e4:(-x)%18446744073709551616%4294967296=4294967296 - x:=by omega
  rw[e3,e4,Int.neg_tmod,Int.tmod_eq_emod_of_nonneg (by omega)]
  have:=Int.emod_lt_of_pos (4294967296 - x) k0
  have:=Int.emod_nonneg (4294967296 - x) hny
  rw[IntKind.wrap_u64]
 ·have e1:(x / 2147483648=1):=by omega
  have e2:(y / 2147483648=1):=by omega
  simp only[hx,hy,e1,e2,if_true,decide_true,if_false]
  have e3:x - 4294967296=-(4294967296 - x):=by omega
  have e4:(-x)%18446744073709551616%4294967296=4294967296 - x:=by omega
  have e5:y - 4294967296=-(4294967296 - y):=by omega
  have e6:(-y)%18446744073709551616%4294967296=4294967296 - y:=by omega
  rw[e3,e4,e5,e6,Int.neg_tmod,Int.tmod_neg,Int.tmod_eq_emod_of_nonneg (by omega)]
  rw[IntKind.wrap_u64]
def dv64 (x y:Int)(left:Bool):Int:=if y=0 then (if left then x else 0) else if left then x.tmod y else wrap64 (x.tdiv y)
def dv32 (x y:Int)(left:Bool):Int:=if y=0 then (if left then x else 0) else if left then x.tmod y else wrap32 (x.tdiv y)
def dvU (x y:Int)(left:Bool):Int:=if y=0 then (if left then x else 0) else if left then x%y else x / y
theorem p_div64 (x y:Int)(left:Bool)(w:World):Calls Tryz.prog 196 #[.int .i64 x,.int .i64 y,.bool left] w fun e w'=>e=.returned (.int .i64 (dv64 x y left))∧w'=w:=by
 by_cases hy:y=0
 ·subst hy
  cases left
  all_goals
   go_enter Tryz.func196,Tryz.ntmps196
   go_wp2_with fail
   go_returns
   exact⟨by simp[dv64],rfl⟩
 ·have hb:(y == 0)=false:=by simpa using hy
  cases left
  all_goals
   go_enter Tryz.func196,Tryz.ntmps196
   go_wp2_with fail
   go_returns
   exact⟨by simp[dv64,hy],rfl⟩
theorem p_div32 (x y:Int)(left:Bool)(w:World):Calls Tryz.prog 198 #[.int .i32 x,.int .i32 y,.bool left] w fun e w'=>e=.returned (.int .i32 (dv32 x y left))∧w'=w:=by
 by_cases hy:y=0
 ·subst hy
  cases left
  all_goals
   go_enter Tryz.func198,Tryz.ntmps198
   go_wp2_with fail
   go_returns
   exact⟨by simp[dv32],rfl⟩
 ·have hb:(y == 0)=false:=by simpa using hy
  cases left
  all_goals
   go_enter Tryz.func198,Tryz.ntmps198
   go_wp2_with fail
   go_returns
   exact⟨by simp[dv32,hy],rfl⟩
theorem p_divU64 (x y:Int)(left:Bool)(w:World)(h0:0≤x)(h1:x≤18446744073709551615)(k0:0≤y):Calls Tryz.prog 197 #[.int .u64 x,.int .u64 y,.bool left] w fun e w'=>e=.returned (.int .u64 (dvU x y left))∧w'=w:=by
 by_cases hy:y=0
 ·subst hy
  cases left
  all_goals
   go_enter Tryz.func197,Tryz.ntmps197
   go_wp2_with fail
   go_returns
   exact⟨by simp[dvU],rfl⟩
 ·have hb:(y == 0)=false:=by simpa using hy
  have hd:IntKind.u64.wrap (x.tdiv y)=x / y:=by
   rw[Int.tdiv_eq_ediv_of_nonneg h0,IntKind.wrap_u64]
   have:=Int.ediv_le_self y h0
   have:=Int.ediv_nonneg h0 k0
   omega
  cases left
  all_goals
   go_enter Tryz.func197,Tryz.ntmps197
   go_wp2_with fail
   go_returns
   exact⟨by simp[dvU,hy,hd],rfl⟩
theorem p_divU32 (x y:Int)(left:Bool)(w:World)(h0:0≤x)(h1:x≤4294967295)(k0:0≤y):Calls Tryz.prog 199 #[.int .u32 x,.int .u32 y,.bool left] w fun e w'=>e=.returned (.int .u32 (dvU x y left))∧w'=w:=by
 by_cases hy:y=0
 ·subst hy
  cases left
  all_goals
   go_enter Tryz.func199,Tryz.ntmps199
   go_wp2_with fail
   go_returns
   exact⟨by simp[dvU],rfl⟩
 ·have hb:(y == 0)=false:=by simpa using hy
  have hd:x.tdiv y%4294967296=x / y:=by
   rw[Int.tdiv_eq_ediv_of_nonneg h0]
   have:=Int.ediv_le_self y h0
   have:=Int.ediv_nonneg h0 k0
   omega
  cases left
  all_goals
   go_enter Tryz.func199,Tryz.ntmps199
   go_wp2_with fail
   go_returns
   exact⟨by simp[dvU,hy,hd],rfl⟩
def dvN (wide signed left:Bool)(a b:Int):Int :=
 if wide then (if signed then IntKind.u64.wrap (dv64 (wrap64 a) (wrap64 b) left) else dvU a b left)
 else if signed then IntKind.u64.wrap (dv32 (wrap32 a) (wrap32 b) left) else IntKind.u64.wrap (dvU (a%4294967296) (b%4294967296) left)
theorem p_divided (wide signed left:Bool)(a b:Int)(w:World)(h0:0≤a)(h1:a≤18446744073709551615)(k0:0≤b)(k1:b≤18446744073709551615):
  Calls Tryz.prog 178 #[.bool wide,.bool signed,.bool left,.int .u64 a,.int .u64 b] w fun e w'=>e=.returned (.int .u64 (dvN wide signed left a b))∧w'=w:=by
 cases wide<;>cases signed
 ·go_enter Tryz.func178,Tryz.ntmps178
  go_wp2_with fail
  refine(p_divU32 _ _ left _ (by omega) (by omega) (by omega)).mono ?_
  rintro e w1 ⟨rfl,rfl⟩
  go_wp2_with fail
  go_returns
  exact⟨xX (by simp[dvN]),rfl⟩
 ·go_enter Tryz.func178,Tryz.ntmps178
  go_wp2_with fail
  refine(p_div32 _ _ left _).mono ?_
  rintro e w1 ⟨rfl,rfl⟩
  go_wp2_with fail
  go_returns
  exact⟨xX (by simp[dvN]),rfl⟩
 ·go_enter Tryz.func178,Tryz.ntmps178
  go_wp2_with fail
  refine(p_divU64 _ _ left _ h0 h1 k0).mono ?_
  rintro e w1 ⟨rfl,rfl⟩
  go_wp2_with fail
  go_returns
  exact⟨xX (by simp[dvN]),rfl⟩
 ·go_enter Tryz.func178,Tryz.ntmps178
  go_wp2_with fail
  refine(p_div64 _ _ left _).mono ?_
  rintro e w1 ⟨rfl,rfl⟩
  go_wp2_with fail
  go_returns
  exact⟨xX (by simp[dvN]),rfl⟩
theorem arsh64 {x:Int}(h0:0≤x)(h1:x≤18446744073709551615){k:Nat}(hk:k≤63):
  IntKind.u64.wrap (wrap64 x / 2 ^ k)=if negN x 64 then IntKind.u64.wrap (IntKind.u64.wrap (18446744073709551615 - 18446744073709551615 / 2 ^ k)+x / 2 ^ k) else x / 2 ^ k:=by
 have hPQ:(2:Int) ^ k * 2 ^ (64 - k)=18446744073709551616:=by
  rw[← Int.pow_add,show k+(64 - k)=64 by omega];rfl
 have hP:(0:Int) < 2 ^ k:=Int.pow_pos (by decide)
 have hQ:(0:Int) < 2 ^ (64 - k):=Int.pow_pos (by decide)
 generalize (2:Int) ^ k=P at *
 generalize (2:Int) ^ (64 - k)=Q at *
 have hQ2:Q≤18446744073709551616:=by
  rw[← hPQ]
  have:=Int.mul_le_mul_of_nonneg_right (show (1:Int)≤P by omega) (Int.le_of_lt hQ)
  omega
 have q0:=Int.ediv_nonneg h0 (Int.le_of_lt hP)
 have q1:=Int.ediv_le_self P h0
 rw[half64,uW h0 h1]
 by_cases hx:x < 9223372036854775808
 ·have e1:¬ (x / 9223372036854775808=1):=by omega
  simp only[hx,e1,if_true,decide_false,Bool.false_eq_true,if_false,IntKind.wrap_u64]
  omega
 ·have e1:(x / 9223372036854775808=1):=by omega
  have e2:(x - 18446744073709551616) / P=x / P - Q:=by
   rw[← hPQ,show x - P * Q=x+P * (-Q) by rw[Int.mul_neg];omega,Int.add_mul_ediv_left _ _ (by omega)]
   omega
  have e3:(18446744073709551615:Int) / P=Q - 1:=by
   rw[show (18446744073709551615:Int)=(P - 1)+P * (Q - 1) by rw[Int.mul_sub,hPQ];omega,Int.add_mul_ediv_left _ _ (by omega),Int.ediv_eq_zero_of_lt (by omega) (by omega)]
   omega
  simp only[hx,e1,if_false,decide_true,if_true,e2,e3,IntKind.wrap_u64]
  omega
theorem arsh32 {x:Int}(h0:0≤x)(h1:x≤4294967295){k:Nat}(hk:k≤31):
  IntKind.u64.wrap (wrap32 x / 2 ^ k)%4294967296=(if negN x 32 then IntKind.u64.wrap (IntKind.u64.wrap (4294967295 - 4294967295 / 2 ^ k)+x / 2 ^ k) else x / 2 ^ k)%4294967296:=by
 have hPQ:(2:Int) ^ k * 2 ^ (32 - k)=4294967296:=by
  rw[← Int.pow_add,show k+(32 - k)=32 by omega];rfl
 have hP:(0:Int) < 2 ^ k:=Int.pow_pos (by decide)
 have hQ:(0:Int) < 2 ^ (32 - k):=Int.pow_pos (by decide)
 generalize (2:Int) ^ k=P at *
 generalize (2:Int) ^ (32 - k)=Q at *
 have hQ2:Q≤4294967296:=by
  rw[← hPQ]
  have:=Int.mul_le_mul_of_nonneg_right (show (1:Int)≤P by omega) (Int.le_of_lt hQ)
  omega
 have q0:=Int.ediv_nonneg h0 (Int.le_of_lt hP)
 have q1:=Int.ediv_le_self P h0
 rw[half32,uZ h0 h1]
 by_cases hx:x < 2147483648
 ·have e1:¬ (x / 2147483648=1):=by omega
  simp only[hx,e1,if_true,decide_false,Bool.false_eq_true,if_false,IntKind.wrap_u64]
  omega
 ·have e1:(x / 2147483648=1):=by omega
  have e2:(x - 4294967296) / P=x / P - Q:=by
   rw[← hPQ,show x - P * Q=x+P * (-Q) by rw[Int.mul_neg];omega,Int.add_mul_ediv_left _ _ (by omega)]
   omega
  have e3:(4294967295:Int) / P=Q - 1:=by
   rw[show (4294967295:Int)=(P - 1)+P * (Q - 1) by rw[Int.mul_sub,hPQ];omega,Int.add_mul_ediv_left _ _ (by omega),Int.ediv_eq_zero_of_lt (by omega) (by omega)]
   omega
  simp only[hx,e1,if_false,decide_true,if_true,e2,e3,IntKind.wrap_u64]
  omega
theorem bits32 (op:BinOp)(ho:op=.or∨op=.and∨op=.xor){a b:Int}(h0:0≤a)(h1:a≤18446744073709551615)(k0:0≤b)(k1:b≤18446744073709551615):
  bits op .u64 (a%4294967296) (b%4294967296)%4294967296=bits op .u64 a b%4294967296:=by
 obtain⟨m,rfl⟩:=Int.eq_ofNat_of_zero_le h0
 obtain⟨n,rfl⟩:=Int.eq_ofNat_of_zero_le k0
 have e1:((m:Int)%4294967296)=((m%4294967296:Nat):Int):=by omega
 have e2:((n:Int)%4294967296)=((n%4294967296:Nat):Int):=by omega
 have z1:m%4294967296 < 18446744073709551616:=by omega
 have z2:n%4294967296 < 18446744073709551616:=by omega
 rw[e1,e2]
 have p32:(4294967296:Nat)=2 ^ 32:=rfl
 rcases ho with rfl|rfl|rfl
 ·rw[bits_or_u64_nat _ _ z1 z2,bits_or_u64_nat _ _ (by omega) (by omega)]
  have:=Nat.or_mod_two_pow (a:=m) (b:=n) (n:=32)
  have t2:=Nat.or_mod_two_pow (a:=m%4294967296) (b:=n%4294967296) (n:=32)
  rw[← p32]at this t2
  rw[Nat.mod_mod,Nat.mod_mod]at t2
  omega
 ·rw[bits_and_u64_nat _ _ z1 z2,bits_and_u64_nat _ _ (by omega) (by omega)]
  have:=Nat.and_mod_two_pow (a:=m) (b:=n) (n:=32)
  have t2:=Nat.and_mod_two_pow (a:=m%4294967296) (b:=n%4294967296) (n:=32)
  rw[← p32]at this t2
  rw[Nat.mod_mod,Nat.mod_mod]at t2
  omega
 ·rw[bits_xor_u64_nat _ _ z1 z2,bits_xor_u64_nat _ _ (by omega) (by omega)]
  have:=Nat.xor_mod_two_pow (a:=m) (b:=n) (n:=32)
  have t2:=Nat.xor_mod_two_pow (a:=m%4294967296) (b:=n%4294967296) (n:=32)
  rw[← p32]at this t2
  rw[Nat.mod_mod,Nat.mod_mod]at t2
  omega
theorem mul32 (a b:Int):(a%4294967296 * (b%4294967296))%18446744073709551616%4294967296=a * b%18446744073709551616%4294967296:=by
 rw[Int.emod_emod_of_dvd _ (by decide:(4294967296:Int) ∣ 18446744073709551616),Int.emod_emod_of_dvd _ (by decide:(4294967296:Int) ∣ 18446744073709551616),← Int.mul_emod]
theorem shl32 (a:Int)(k:Nat):(a%4294967296 * 2 ^ k)%18446744073709551616%4294967296=a * 2 ^ k%18446744073709551616%4294967296:=by
 rw[Int.emod_emod_of_dvd _ (by decide:(4294967296:Int) ∣ 18446744073709551616),Int.emod_emod_of_dvd _ (by decide:(4294967296:Int) ∣ 18446744073709551616),Int.mul_emod,Int.emod_emod_of_dvd _ (Int.dvd_refl _),← Int.mul_emod]
theorem cut64 (a:Int):cutN a 64=a:=rfl
theorem cut32 (a:Int):cutN a 32=a%4294967296:=by unfold cutN;rw[if_neg (by decide)];rfl
theorem retDo {x y:Int}(h:x=y):Ending.returned (.tuple #[.int .u64 x,.int .i64 0])=.returned (.tuple #[.int .u64 y,.int .i64 0]):=by rw[h]
set_option maxRecDepth 20000 in
set_option maxHeartbeats 8000000 in
theorem p_do_simple (op:Int)(wide:Bool)(a b:Int)(w:World)(h:op=176∨op=0∨op=16∨op=32∨op=64∨op=80∨op=128∨op=160)(h0:0≤a)(h1:a≤18446744073709551615)(k0:0≤b)(k1:b≤18446744073709551615):
  Calls Tryz.prog 134 #[.int .u8 op,.bool wide,.int .i16 0,.int .u64 a,.int .u64 b] w fun e w'=>e=.returned (.tuple #[.int .u64 (aluN op wide 0 a b),.int .i64 0])∧w'=w:=by
 rcases h with rfl|rfl|rfl|rfl|rfl|rfl|rfl|rfl<;>cases wide
 all_goals
  go_enter Tryz.func134,Tryz.ntmps134
  go_wp2_with (go_at_call 176;refine(p_simple _ a b _ (by omega)).mono ?_;rintro e w1 ⟨rfl,rfl⟩;simp[simpN])
  go_returns
  refine⟨retDo ?_,rfl⟩
  simp only[aluN,rawN,zZ,cut32,cut64,Bool.false_eq_true,if_false,if_true]
  simp
  try first
   | rfl
   | exact(bits32 _ (by simp) h0 h1 k0 k1).symm
   | (rw[IntKind.wrap_u64,IntKind.wrap_u64];exact(mul32 a b).symm)
   | (rw[IntKind.wrap_u64,IntKind.wrap_u64];omega)
theorem by_wide {b:Int}:byN true b=(b%64).toNat:=rfl
theorem by_narrow {b:Int}:byN false b=(b%32).toNat:=rfl
set_option maxRecDepth 20000 in
set_option maxHeartbeats 8000000 in
theorem p_do_moved (op:Int)(wide:Bool)(a b:Int)(w:World)(h:op=96∨op=112∨op=192)(h0:0≤a)(h1:a≤18446744073709551615)(k0:0≤b)(k1:b≤18446744073709551615):
  Calls Tryz.prog 134 #[.int .u8 op,.bool wide,.int .i16 0,.int .u64 a,.int .u64 b] w fun e w'=>e=.returned (.tuple #[.int .u64 (aluN op wide 0 a b),.int .i64 0])∧w'=w:=by
 have hm:∀ W,Calls Tryz.prog 177 #[.int .u8 op,.bool wide,.int .u64 a,.int .u64 b] W fun e w'=>e=.returned (.tuple #[.int .u64 (movN op wide a b),.bool true])∧w'=W:=fun W=>p_moved op wide a b W h h0 h1 k0 k1
 have HM:=η hm
 have hv:aluN op wide 0 a b=if wide then movN op wide a b else movN op wide a b%4294967296:=by
  have hmod:b%4294967296%32=b%32:=by omega
  have hk32:(b%32).toNat≤31:=by omega
  have hk64:(b%64).toNat≤63:=by omega
  rcases h with rfl|rfl|rfl<;>cases wide
  all_goals
   simp only[aluN,rawN,movN,zZ,cut32,cut64,by_wide,by_narrow,Bool.false_eq_true,if_false,if_true]
   simp[hmod]
  ·rw[IntKind.wrap_u64,IntKind.wrap_u64];exact shl32 a _
  ·rw[IntKind.wrap_u64]
   have q0:=Int.ediv_nonneg (show 0≤a%4294967296 by omega) (Int.le_of_lt (Int.pow_pos (by decide):(0:Int) < 2 ^ (b%32).toNat))
   have q1:=Int.ediv_le_self (2 ^ (b%32).toNat) (show 0≤a%4294967296 by omega)
   omega
  ·have:=arsh32 (x:=a%4294967296) (by omega) (by omega) hk32
   have e1:wrap32 (a%4294967296)=wrap32 a:=by unfold wrap32;omega
   rw[e1]at this
   exact this.symm
  ·have:=arsh64 h0 h1 hk64
   exact this.symm
 rw[hv]
 clear hv hm
 rcases h with rfl|rfl|rfl<;>cases wide
 all_goals
  go_enter Tryz.func134,Tryz.ntmps134
  go_wp2_with (first|(go_at_call 176;refine(p_simple _ a b _ (by omega)).mono ?_;rintro e w1 ⟨rfl,rfl⟩;simp[simpN])|(go_at_call 177;refine(HM.out _).mono ?_;rintro e w1 ⟨rfl,rfl⟩))
  go_returns
  exact⟨by simp,rfl⟩
theorem dv_quo {wide:Bool}{off a b:Int}(hoff:off=0∨off=1)(h0:0≤a)(h1:a≤18446744073709551615)(k0:0≤b)(k1:b≤18446744073709551615):
  aluN 48 wide off a b=if wide then dvN wide (off == 1) false a b else dvN wide (off == 1) false a b%4294967296:=by
 have hna:¬ ((48:Int)=176∧off≠0):=by simp
 unfold aluN
 rw[if_neg hna,if_pos rfl]
 rcases hoff with rfl|rfl<;>cases wide
 ·simp only[zZ,cut32,dvN,Bool.false_eq_true,if_false,show ((0:Int) == 1)=false from rfl]
  unfold quoN dvU
  by_cases hb:b%4294967296=0
  ·simp[hb];rfl
  ·simp only[hb,if_false,if_true,Bool.false_eq_true]
   have q0:=Int.ediv_nonneg (show 0≤a%4294967296 by omega) (show 0≤b%4294967296 by omega)
   have q1:=Int.ediv_le_self (b%4294967296) (show 0≤a%4294967296 by omega)
   rw[IntKind.wrap_u64]
   omega
 ·simp only[zZ,cut64,dvN,if_true,show ((0:Int) == 1)=false from rfl,Bool.false_eq_true,if_false]
  unfold quoN dvU
  by_cases hb:b=0
  ·simp[hb]
  ·simp[hb]
 ·simp only[zZ,cut32,dvN,Bool.false_eq_true,if_false,show ((1:Int) == 1)=true from rfl,if_true]
  by_cases hb:b%4294967296=0
  ·have:wrap32 b=0:=by unfold wrap32;omega
   rw[this]
   unfold quoN dv32
   simp[hb];rfl
  ·have hw:wrap32 b≠0:=by unfold wrap32;omega
   have:=quo32 (x:=a%4294967296) (y:=b%4294967296) (by omega) (by omega) (by omega) (by omega)
   have e1:wrap32 (a%4294967296)=wrap32 a:=by unfold wrap32;omega
   have e2:wrap32 (b%4294967296)=wrap32 b:=by unfold wrap32;omega
   rw[e1,e2]at this
   unfold dv32
   rw[if_neg hw,if_neg (by decide)]
   exact this.symm
 ·simp only[zZ,cut64,dvN,if_true,show ((1:Int) == 1)=true from rfl]
  by_cases hb:b=0
  ·subst hb
   unfold quoN dv64
   simp[wrap64];rfl
  ·have hw:wrap64 b≠0:=by unfold wrap64;omega
   unfold dv64
   rw[if_neg hw,if_neg (by decide)]
   exact(quo64 h0 h1 (by omega) k1).symm
theorem dv_rem {wide:Bool}{off a b:Int}(hoff:off=0∨off=1)(h0:0≤a)(h1:a≤18446744073709551615)(k0:0≤b)(k1:b≤18446744073709551615):
  aluN 144 wide off a b=if wide then dvN wide (off == 1) true a b else dvN wide (off == 1) true a b%4294967296:=by
 have hna:¬ ((144:Int)=176∧off≠0):=by simp
 unfold aluN
 rw[if_neg hna,if_neg (by decide),if_pos rfl]
 rcases hoff with rfl|rfl<;>cases wide
 ·simp only[zZ,cut32,dvN,Bool.false_eq_true,if_false,show ((0:Int) == 1)=false from rfl]
  unfold remN dvU
  by_cases hb:b%4294967296=0
  ·simp only[hb,if_true]
   rw[IntKind.wrap_u64]
   omega
  ·simp only[hb,if_false,if_true]
   have q0:=Int.emod_nonneg (a%4294967296) hb
   have q1:=Int.emod_lt_of_pos (a%4294967296) (show 0 < b%4294967296 by omega)
   rw[IntKind.wrap_u64]
   omega
 ·simp only[zZ,cut64,dvN,if_true,show ((0:Int) == 1)=false from rfl,Bool.false_eq_true,if_false]
  unfold remN dvU
  by_cases hb:b=0
  ·simp[hb]
  ·simp[hb]
 ·simp only[zZ,cut32,dvN,Bool.false_eq_true,if_false,show ((1:Int) == 1)=true from rfl,if_true]
  by_cases hb:b%4294967296=0
  ·have:wrap32 b=0:=by unfold wrap32;omega
   rw[this]
   unfold remN dv32
   simp only[hb,if_true]
   rw[IntKind.wrap_u64]
   unfold wrap32
   omega
  ·have hw:wrap32 b≠0:=by unfold wrap32;omega
   have:=rem32 (x:=a%4294967296) (y:=b%4294967296) (by omega) (by omega) (by omega) (by omega)
   have e1:wrap32 (a%4294967296)=wrap32 a:=by unfold wrap32;omega
   have e2:wrap32 (b%4294967296)=wrap32 b:=by unfold wrap32;omega
   rw[e1,e2]at this
   unfold dv32
   rw[if_neg hw,if_pos rfl]
   exact this.symm
 ·simp only[zZ,cut64,dvN,if_true,show ((1:Int) == 1)=true from rfl]
  by_cases hb:b=0
  ·subst hb
   unfold remN dv64
   simp only[show wrap64 0=0 by unfold wrap64;omega,if_true]
   rw[IntKind.wrap_u64]
   unfold wrap64
   omega
  ·have hw:wrap64 b≠0:=by unfold wrap64;omega
   unfold dv64
   rw[if_neg hw,if_pos rfl]
   exact(rem64 h0 h1 (by omega) k1).symm
set_option maxRecDepth 20000 in
set_option maxHeartbeats 8000000 in
theorem p_do_div (op:Int)(wide:Bool)(off a b:Int)(w:World)(hoff:off=0∨off=1)(h:op=48∨op=144)(h0:0≤a)(h1:a≤18446744073709551615)(k0:0≤b)(k1:b≤18446744073709551615):
  Calls Tryz.prog 134 #[.int .u8 op,.bool wide,.int .i16 off,.int .u64 a,.int .u64 b] w fun e w'=>e=.returned (.tuple #[.int .u64 (aluN op wide off a b),.int .i64 0])∧w'=w:=by
 have HM:=η (fun W=>p_none op wide a b W h h0 h1 k0 k1)
 have HD:=η (fun W s l=>p_divided wide s l a b W h0 h1 k0 k1)
 have hv:aluN op wide off a b=if wide then dvN wide (off == 1) (op == 144) a b else dvN wide (off == 1) (op == 144) a b%4294967296:=by
  rcases h with rfl|rfl
  ·exact dv_quo hoff h0 h1 k0 k1
  ·exact dv_rem hoff h0 h1 k0 k1
 rw[hv]
 clear hv
 rcases h with rfl|rfl<;>rcases hoff with rfl|rfl<;>cases wide
 all_goals
  go_enter Tryz.func134,Tryz.ntmps134
  go_wp2_with (first|(go_at_call 176;refine(p_simple _ a b _ (by omega)).mono ?_;rintro e w1 ⟨rfl,rfl⟩;simp[simpN])|(go_at_call 177;refine(HM.out _).mono ?_;rintro e w1 ⟨rfl,rfl⟩)|(go_at_call 178;refine(HD.out _ _ _).mono ?_;rintro e w1 ⟨rfl,rfl⟩))
  go_returns
  exact⟨by simp,rfl⟩
theorem sign_cut {b off:Int}(hb:0≤b)(h:off=8∨off=16):yY (b%4294967296) off%4294967296=yY b off%4294967296:=by
 rcases h with rfl|rfl
 ·unfold yY cutN qG
  simp
 ·unfold yY cutN qG
  simp
set_option maxRecDepth 20000 in
set_option maxHeartbeats 8000000 in
theorem p_do_mov (wide:Bool)(off a b:Int)(w:World)(h:off=8∨off=16∨off=32∧wide=true)(h0:0≤a)(h1:a≤18446744073709551615)(k0:0≤b)(k1:b≤18446744073709551615):
  Calls Tryz.prog 134 #[.int .u8 176,.bool wide,.int .i16 off,.int .u64 a,.int .u64 b] w fun e w'=>e=.returned (.tuple #[.int .u64 (aluN 176 wide off a b),.int .i64 0])∧w'=w:=by
 have hv:aluN 176 wide off a b=if wide then yY b off else yY b off%4294967296:=by
  unfold aluN
  rw[if_pos ⟨rfl,by omega⟩]
  rcases h with rfl|rfl|⟨rfl,rfl⟩
  ·cases wide
   ·simp only[zZ,cut32,Bool.false_eq_true,if_false];exact sign_cut k0 (.inl rfl)
   ·simp only[zZ,cut64,if_true]
  ·cases wide
   ·simp only[zZ,cut32,Bool.false_eq_true,if_false];exact sign_cut k0 (.inr rfl)
   ·simp only[zZ,cut64,if_true]
  ·simp only[zZ,cut64,if_true]
 have HS:=η (fun W=>p_Sign b off W (by unfold wid;omega) k0 k1)
 have hr:=jK (a:=b) (n:=off) (by unfold wid;omega) k0 k1
 rw[hv]
 clear hv
 obtain⟨z,hz⟩:∃ z,yY b off=z:=⟨_,rfl⟩
 rw[hz]at HS hr ⊢
 clear hz
 rcases h with rfl|rfl|⟨rfl,rfl⟩
 all_goals try cases wide
 all_goals
  go_enter Tryz.func134,Tryz.ntmps134
  go_wp2_with (first|(go_at_call 176;refine(p_simple _ a b _ (by omega)).mono ?_;rintro e w1 ⟨rfl,rfl⟩;simp[simpN])|(go_at_call 130;refine(HS.out _).mono ?_;rintro e w1 ⟨rfl,rfl⟩))
  go_returns
  exact⟨by simp,rfl⟩
theorem p_do (op:Int)(wide:Bool)(off a b:Int)(w:World)(h:doOk op wide off)(h0:0≤a)(h1:a≤18446744073709551615)(k0:0≤b)(k1:b≤18446744073709551615):
  Calls Tryz.prog 134 #[.int .u8 op,.bool wide,.int .i16 off,.int .u64 a,.int .u64 b] w fun e w'=>e=.returned (.tuple #[.int .u64 (aluN op wide off a b),.int .i64 0])∧w'=w:=by
 rcases h with ⟨rfl,h⟩|⟨rfl,rfl⟩|⟨h,h'⟩|⟨rfl,h⟩
 ·by_cases hm:op=96∨op=112
  ·exact p_do_moved op wide a b w (by omega) h0 h1 k0 k1
  ·exact p_do_simple op wide a b w (by omega) h0 h1 k0 k1
 ·exact p_do_moved 192 wide a b w (by omega) h0 h1 k0 k1
 ·exact p_do_div op wide off a b w h h' h0 h1 k0 k1
 ·exact p_do_mov wide off a b w h h0 h1 k0 k1
theorem jU (k a c m d:Nat)(ha:a < 2 ^ k)(hm:m < 2 ^ k):(a+2 ^ k * c) &&& (m+2 ^ k * d)=(a &&& m)+2 ^ k * (c &&& d):=by
 have h1:=Nat.and_mod_two_pow (a:=a+2 ^ k * c) (b:=m+2 ^ k * d) (n:=k)
 have h2:=Nat.and_div_two_pow (a:=a+2 ^ k * c) (b:=m+2 ^ k * d) (n:=k)
 rw[Nat.add_mul_mod_self_left,Nat.add_mul_mod_self_left,Nat.mod_eq_of_lt ha,Nat.mod_eq_of_lt hm]at h1
 rw[Nat.add_mul_div_left _ _ (Nat.two_pow_pos k),Nat.add_mul_div_left _ _ (Nat.two_pow_pos k),Nat.div_eq_of_lt ha,Nat.div_eq_of_lt hm,Nat.zero_add,Nat.zero_add]at h2
 have:=Nat.mod_add_div ((a+2 ^ k * c) &&& (m+2 ^ k * d)) (2 ^ k)
 rw[h1,h2]at this
 exact this.symm
theorem vH (k a c m d:Nat)(ha:a < 2 ^ k)(hm:m < 2 ^ k):(a+2 ^ k * c) ||| (m+2 ^ k * d)=(a ||| m)+2 ^ k * (c ||| d):=by
 have h1:=Nat.or_mod_two_pow (a:=a+2 ^ k * c) (b:=m+2 ^ k * d) (n:=k)
 have h2:=Nat.or_div_two_pow (a:=a+2 ^ k * c) (b:=m+2 ^ k * d) (n:=k)
 rw[Nat.add_mul_mod_self_left,Nat.add_mul_mod_self_left,Nat.mod_eq_of_lt ha,Nat.mod_eq_of_lt hm]at h1
 rw[Nat.add_mul_div_left _ _ (Nat.two_pow_pos k),Nat.add_mul_div_left _ _ (Nat.two_pow_pos k),Nat.div_eq_of_lt ha,Nat.div_eq_of_lt hm,Nat.zero_add,Nat.zero_add]at h2
 have:=Nat.mod_add_div ((a+2 ^ k * c) ||| (m+2 ^ k * d)) (2 ^ k)
 rw[h1,h2]at this
 exact this.symm
def b8 (a b c d e f g h:Nat):Nat:=a+2 ^ 8 * (b+2 ^ 8 * (c+2 ^ 8 * (d+2 ^ 8 * (e+2 ^ 8 * (f+2 ^ 8 * (g+2 ^ 8 * h))))))
theorem and8 {a b c d e f g h a' b' c' d' e' f' g' h':Nat}(h0:a < 2 ^ 8)(h1:b < 2 ^ 8)(h2:c < 2 ^ 8)(h3:d < 2 ^ 8)(h4:e < 2 ^ 8)(h5:f < 2 ^ 8)(h6:g < 2 ^ 8)(k0:a' < 2 ^ 8)(k1:b' < 2 ^ 8)(k2:c' < 2 ^ 8)(k3:d' < 2 ^ 8)(k4:e' < 2 ^ 8)(k5:f' < 2 ^ 8)(k6:g' < 2 ^ 8):
  b8 a b c d e f g h &&& b8 a' b' c' d' e' f' g' h'=b8 (a &&& a') (b &&& b') (c &&& c') (d &&& d') (e &&& e') (f &&& f') (g &&& g') (h &&& h'):=by
 unfold b8
 rw[jU _ _ _ _ _ h0 k0,jU _ _ _ _ _ h1 k1,jU _ _ _ _ _ h2 k2,jU _ _ _ _ _ h3 k3,jU _ _ _ _ _ h4 k4,jU _ _ _ _ _ h5 k5,jU _ _ _ _ _ h6 k6]
theorem or8 {a b c d e f g h a' b' c' d' e' f' g' h':Nat}(h0:a < 2 ^ 8)(h1:b < 2 ^ 8)(h2:c < 2 ^ 8)(h3:d < 2 ^ 8)(h4:e < 2 ^ 8)(h5:f < 2 ^ 8)(h6:g < 2 ^ 8)(k0:a' < 2 ^ 8)(k1:b' < 2 ^ 8)(k2:c' < 2 ^ 8)(k3:d' < 2 ^ 8)(k4:e' < 2 ^ 8)(k5:f' < 2 ^ 8)(k6:g' < 2 ^ 8):
  b8 a b c d e f g h ||| b8 a' b' c' d' e' f' g' h'=b8 (a ||| a') (b ||| b') (c ||| c') (d ||| d') (e ||| e') (f ||| f') (g ||| g') (h ||| h'):=by
 unfold b8
 rw[vH _ _ _ _ _ h0 k0,vH _ _ _ _ _ h1 k1,vH _ _ _ _ _ h2 k2,vH _ _ _ _ _ h3 k3,vH _ _ _ _ _ h4 k4,vH _ _ _ _ _ h5 k5,vH _ _ _ _ _ h6 k6]
theorem kX {a:Nat}(h:a < 2 ^ 8):a &&& 255=a:=by rw[show (255:Nat)=2 ^ 8 - 1 from rfl,Nat.and_two_pow_sub_one_eq_mod];exact Nat.mod_eq_of_lt h
theorem b8_of (x:Nat)(h:x < 18446744073709551616):∃ a b c d e f g h,x=b8 a b c d e f g h∧a < 2 ^ 8∧b < 2 ^ 8∧c < 2 ^ 8∧d < 2 ^ 8∧e < 2 ^ 8∧f < 2 ^ 8∧g < 2 ^ 8∧h < 2 ^ 8 :=
 ⟨x%256,x / 256%256,x / 65536%256,x / 16777216%256,x / 4294967296%256,x / 1099511627776%256,x / 281474976710656%256,x / 72057594037927936,by unfold b8;omega,by omega,by omega,by omega,by omega,by omega,by omega,by omega,by omega⟩
set_option maxHeartbeats 8000000 in
theorem rev8 {a b c d e f g h:Nat}(h0:a < 2 ^ 8)(h1:b < 2 ^ 8)(h2:c < 2 ^ 8)(h3:d < 2 ^ 8)(h4:e < 2 ^ 8)(h5:f < 2 ^ 8)(h6:g < 2 ^ 8)(h7:h < 2 ^ 8)(w:World):
  Calls Tryz.prog 179 #[.int .u64 (b8 a b c d e f g h:Nat)] w fun e1 w'=>e1=.returned (.int .u64 (b8 h g f e d c b a:Nat))∧w'=w:=by
 have q1:bits .and .u64 (((b8 a b c d e f g h:Nat):Int) / 256) 71777214294589695=((b8 b 0 d 0 f 0 h 0:Nat):Int):=by
  have e1:(((b8 a b c d e f g h:Nat):Int) / 256)=((b8 b c d e f g h 0:Nat):Int):=by unfold b8;omega
  have e2:(71777214294589695:Int)=((b8 255 0 255 0 255 0 255 0:Nat):Int):=by simp[b8]
  rw[e1,e2,bits_and_u64_nat _ _ (by unfold b8;omega) (by simp[b8]),and8 h1 h2 h3 h4 h5 h6 h7 (by decide) (by decide) (by decide) (by decide) (by decide) (by decide) (by decide),kX h1,kX h3,kX h5,kX h7]
  simp only[Nat.and_zero]
 have q2:bits .and .u64 ((b8 a b c d e f g h:Nat):Int) 71777214294589695=((b8 a 0 c 0 e 0 g 0:Nat):Int):=by
  have e2:(71777214294589695:Int)=((b8 255 0 255 0 255 0 255 0:Nat):Int):=by simp[b8]
  rw[e2,bits_and_u64_nat _ _ (by unfold b8;omega) (by simp[b8]),and8 h0 h1 h2 h3 h4 h5 h6 (by decide) (by decide) (by decide) (by decide) (by decide) (by decide) (by decide),kX h0,kX h2,kX h4,kX h6]
  simp only[Nat.and_zero]
 have q3:IntKind.u64.wrap (((b8 a 0 c 0 e 0 g 0:Nat):Int) * 256)=((b8 0 a 0 c 0 e 0 g:Nat):Int):=by rw[IntKind.wrap_u64];unfold b8;omega
 have q4:bits .or .u64 ((b8 b 0 d 0 f 0 h 0:Nat):Int) ((b8 0 a 0 c 0 e 0 g:Nat):Int)=((b8 b a d c f e h g:Nat):Int):=by
  rw[bits_or_u64_nat _ _ (by unfold b8;omega) (by unfold b8;omega),or8 h1 (by decide) h3 (by decide) h5 (by decide) h7 (by decide) h0 (by decide) h2 (by decide) h4 (by decide)]
  simp only[Nat.or_zero,Nat.zero_or]
 have q5:bits .and .u64 (((b8 b a d c f e h g:Nat):Int) / 65536) 281470681808895=((b8 d c 0 0 h g 0 0:Nat):Int):=by
  have e1:(((b8 b a d c f e h g:Nat):Int) / 65536)=((b8 d c f e h g 0 0:Nat):Int):=by unfold b8;omega
  have e2:(281470681808895:Int)=((b8 255 255 0 0 255 255 0 0:Nat):Int):=by simp[b8]
  rw[e1,e2,bits_and_u64_nat _ _ (by unfold b8;omega) (by simp[b8]),and8 h3 h2 h5 h4 h7 h6 (by decide) (by decide) (by decide) (by decide) (by decide) (by decide) (by decide) (by decide),kX h3,kX h2,kX h7,kX h6]
  simp only[Nat.and_zero]
 have q6:bits .and .u64 ((b8 b a d c f e h g:Nat):Int) 281470681808895=((b8 b a 0 0 f e 0 0:Nat):Int):=by
  have e2:(281470681808895:Int)=((b8 255 255 0 0 255 255 0 0:Nat):Int):=by simp[b8]
  rw[e2,bits_and_u64_nat _ _ (by unfold b8;omega) (by simp[b8]),and8 h1 h0 h3 h2 h5 h4 h7 (by decide) (by decide) (by decide) (by decide) (by decide) (by decide) (by decide),kX h1,kX h0,kX h5,kX h4]
  simp only[Nat.and_zero]
 have q7:IntKind.u64.wrap (((b8 b a 0 0 f e 0 0:Nat):Int) * 65536)=((b8 0 0 b a 0 0 f e:Nat):Int):=by rw[IntKind.wrap_u64];unfold b8;omega
 have q8:bits .or .u64 ((b8 d c 0 0 h g 0 0:Nat):Int) ((b8 0 0 b a 0 0 f e:Nat):Int)=((b8 d c b a h g f e:Nat):Int):=by
  rw[bits_or_u64_nat _ _ (by unfold b8;omega) (by unfold b8;omega),or8 h3 h2 (by decide) (by decide) h7 h6 (by decide) (by decide) (by decide) h1 h0 (by decide) (by decide) h5]
  simp only[Nat.or_zero,Nat.zero_or]
 have q9:(((b8 d c b a h g f e:Nat):Int) / 4294967296)=((b8 h g f e 0 0 0 0:Nat):Int):=by unfold b8;omega
 have q10:IntKind.u64.wrap (((b8 d c b a h g f e:Nat):Int) * 4294967296)=((b8 0 0 0 0 d c b a:Nat):Int):=by rw[IntKind.wrap_u64];unfold b8;omega
 have q11:bits .or .u64 ((b8 h g f e 0 0 0 0:Nat):Int) ((b8 0 0 0 0 d c b a:Nat):Int)=((b8 h g f e d c b a:Nat):Int):=by
  rw[bits_or_u64_nat _ _ (by unfold b8;omega) (by unfold b8;omega),or8 h7 h6 h5 h4 (by decide) (by decide) (by decide) (by decide) (by decide) (by decide) (by decide) h3 h2 h1]
  simp only[Nat.or_zero,Nat.zero_or]
 go_enter Tryz.func179,Tryz.ntmps179
 go_wp2_with fail
 go_returns
 exact⟨rfl,rfl⟩
theorem xB {k:Nat}{b x o:Int}(hb:0≤b)(hb2:b < 256)(ho:0≤o)(h:o * 256+b < 18446744073709551616):revN (k+1) (b+256 * x) o=revN k x (o * 256+b):=by
 rw[revN]
 have e1:(b+256 * x) / 256=x:=by omega
 have e2:(b+256 * x)%256=b:=by omega
 rw[e1,e2,Int.emod_eq_of_lt (by omega) h]
theorem swap16 {b0 b1:Int}(h0:0≤b0)(k0:b0 < 256)(h1:0≤b1)(k1:b1 < 256):revN 2 (b0+256 * b1) 0=b0 * 256+b1:=by
 rw[xB h0 k0 (by omega) (by omega),show b1=b1+256 * 0 by omega,xB h1 k1 (by omega) (by omega),revN]
 omega
theorem swap32 {b0 b1 b2 b3:Int}(h0:0≤b0)(k0:b0 < 256)(h1:0≤b1)(k1:b1 < 256)(h2:0≤b2)(k2:b2 < 256)(h3:0≤b3)(k3:b3 < 256):revN 4 (b0+256 * (b1+256 * (b2+256 * b3))) 0=((b0 * 256+b1) * 256+b2) * 256+b3:=by
 rw[xB h0 k0 (by omega) (by omega),xB h1 k1 (by omega) (by omega),xB h2 k2 (by omega) (by omega),show b3=b3+256 * 0 by omega,xB h3 k3 (by omega) (by omega),revN]
 omega
theorem swap64 {b0 b1 b2 b3 b4 b5 b6 b7:Int}(h0:0≤b0)(k0:b0 < 256)(h1:0≤b1)(k1:b1 < 256)(h2:0≤b2)(k2:b2 < 256)(h3:0≤b3)(k3:b3 < 256)(h4:0≤b4)(k4:b4 < 256)(h5:0≤b5)(k5:b5 < 256)(h6:0≤b6)(k6:b6 < 256)(h7:0≤b7)(k7:b7 < 256):
  revN 8 (b0+256 * (b1+256 * (b2+256 * (b3+256 * (b4+256 * (b5+256 * (b6+256 * b7))))))) 0=((((((b0 * 256+b1) * 256+b2) * 256+b3) * 256+b4) * 256+b5) * 256+b6) * 256+b7:=by
 rw[xB h0 k0 (by omega) (by omega),xB h1 k1 (by omega) (by omega),xB h2 k2 (by omega) (by omega),xB h3 k3 (by omega) (by omega),xB h4 k4 (by omega) (by omega),xB h5 k5 (by omega) (by omega),xB h6 k6 (by omega) (by omega),show b7=b7+256 * 0 by omega,xB h7 k7 (by omega) (by omega),revN]
 omega
theorem rev_swap (n a:Int)(hn:n=16∨n=32∨n=64)(h0:0≤a)(h1:a≤18446744073709551615):∃ b0 b1 b2 b3 b4 b5 b6 b7:Nat,IntKind.u64.wrap (a * 2 ^ (64 - n).toNat)=(b8 b0 b1 b2 b3 b4 b5 b6 b7:Nat)∧b0 < 2 ^ 8∧b1 < 2 ^ 8∧b2 < 2 ^ 8∧b3 < 2 ^ 8∧b4 < 2 ^ 8∧b5 < 2 ^ 8∧b6 < 2 ^ 8∧b7 < 2 ^ 8∧((b8 b7 b6 b5 b4 b3 b2 b1 b0:Nat):Int)%2 ^ n.toNat=kM true n a:=by
 obtain⟨m,rfl⟩:=Int.eq_ofNat_of_zero_le h0
 rcases hn with rfl|rfl|rfl
 ·obtain⟨b0,hb0⟩:∃ b,m%256=b:=⟨_,rfl⟩
  obtain⟨b1,hb1⟩:∃ b,m / 256%256=b:=⟨_,rfl⟩
  refine⟨0,0,0,0,0,0,b0,b1,?_,by omega,by omega,by omega,by omega,by omega,by omega,by omega,by omega,?_⟩
  ·rw[IntKind.wrap_u64];unfold b8;simp;omega
  ·have e1:cutN (m:Int) 16=(b0:Int)+256 * (b1:Int):=by unfold cutN;simp;omega
   unfold kM
   rw[if_pos rfl,e1,show ((16:Int) / 8).toNat=2 from rfl,swap16 (by omega) (by omega) (by omega) (by omega)]
   unfold b8
   simp
   omega
 ·obtain⟨b0,hb0⟩:∃ b,m%256=b:=⟨_,rfl⟩
  obtain⟨b1,hb1⟩:∃ b,m / 256%256=b:=⟨_,rfl⟩
  obtain⟨b2,hb2⟩:∃ b,m / 65536%256=b:=⟨_,rfl⟩
  obtain⟨b3,hb3⟩:∃ b,m / 16777216%256=b:=⟨_,rfl⟩
  refine⟨0,0,0,0,b0,b1,b2,b3,?_,by omega,by omega,by omega,by omega,by omega,by omega,by omega,by omega,?_⟩
  ·rw[IntKind.wrap_u64];unfold b8;simp;omega
  ·have e1:cutN (m:Int) 32=(b0:Int)+256 * ((b1:Int)+256 * ((b2:Int)+256 * (b3:Int))):=by unfold cutN;simp;omega
   unfold kM
   rw[if_pos rfl,e1,show ((32:Int) / 8).toNat=4 from rfl,swap32 (by omega) (by omega) (by omega) (by omega) (by omega) (by omega) (by omega) (by omega)]
   unfold b8
   simp
   omega
 ·obtain⟨b0,b1,b2,b3,b4,b5,b6,b7,e,h⟩:=b8_of m (by omega)
  refine⟨b0,b1,b2,b3,b4,b5,b6,b7,?_,h.1,h.2.1,h.2.2.1,h.2.2.2.1,h.2.2.2.2.1,h.2.2.2.2.2.1,h.2.2.2.2.2.2.1,h.2.2.2.2.2.2.2,?_⟩
  ·rw[IntKind.wrap_u64,← e];simp;omega
  ·obtain⟨g0,g1,g2,g3,g4,g5,g6,g7⟩:=h
   have e1:cutN (m:Int) 64=(b0:Int)+256 * ((b1:Int)+256 * ((b2:Int)+256 * ((b3:Int)+256 * ((b4:Int)+256 * ((b5:Int)+256 * ((b6:Int)+256 * (b7:Int))))))):=by
    rw[show cutN (m:Int) 64=m from rfl,e];unfold b8;omega
   unfold kM
   rw[if_pos rfl,e1,show ((64:Int) / 8).toNat=8 from rfl,swap64 (by omega) (by omega) (by omega) (by omega) (by omega) (by omega) (by omega) (by omega) (by omega) (by omega) (by omega) (by omega) (by omega) (by omega) (by omega) (by omega)]
   unfold b8
   simp
   omega
theorem and_low {x:Int}{k:Nat}(hk:k≤63)(h0:0≤x)(h1:x≤18446744073709551615):bits .and .u64 x (2 ^ k - 1)=x%2 ^ k:=by
 have hp:(2:Nat) ^ k < 18446744073709551616:=Nat.lt_of_lt_of_le (Nat.pow_lt_pow_right (by decide) (show k < 64 by omega)) (Nat.le_refl _)
 have hq:0 < (2:Nat) ^ k:=Nat.two_pow_pos k
 have h:=bits_and_u64_nat x.toNat (2 ^ k - 1) (by omega) (by omega)
 rw[Nat.and_two_pow_sub_one_eq_mod,Int.toNat_of_nonneg h0]at h
 have e1:((2 ^ k - 1:Nat):Int)=2 ^ k - 1:=by rw[Int.natCast_sub (by omega)];simp
 rw[e1]at h
 rw[h]
 have:((x.toNat%2 ^ k:Nat):Int)=(x.toNat:Int)%2 ^ k:=by simp
 rw[this,Int.toNat_of_nonneg h0]
theorem p_swap (t:Bool)(n a:Int)(w:World)(hn:n=16∨n=32∨n=64)(h0:0≤a)(h1:a≤18446744073709551615):
  Calls Tryz.prog 135 #[.bool t,.int .i64 n,.int .u64 a] w fun e w'=>e=.returned (.tuple #[.int .u64 (kM t n a),.int .i64 0])∧Ext w w':=by
 cases t
 ·rcases hn with rfl|rfl|rfl
  all_goals
   go_enter Tryz.func135,Tryz.ntmps135
   go_wp2_with fail
   go_returns
   refine⟨retDo ?_,Ext.rfl' _⟩
   unfold kM cutN
   simp
   all_goals (try rw[IntKind.wrap_u64])
   all_goals (try omega)
 ·obtain⟨b0,b1,b2,b3,b4,b5,b6,b7,hx,g0,g1,g2,g3,g4,g5,g6,g7,hv⟩:=rev_swap n a hn h0 h1
  have hr:(((b8 b7 b6 b5 b4 b3 b2 b1 b0:Nat):Int))≤18446744073709551615∧(0:Int)≤((b8 b7 b6 b5 b4 b3 b2 b1 b0:Nat):Int):=by unfold b8;omega
  have HR:=η (fun W=>(rev8 g0 g1 g2 g3 g4 g5 g6 g7 W).mono fun e w' ⟨he,hw⟩=>(show e=_∧Ext W w' from ⟨he,by rw[hw];exact Ext.rfl' _⟩))
  obtain⟨y,hy⟩:∃ y:Int,((b8 b7 b6 b5 b4 b3 b2 b1 b0:Nat):Int)=y:=⟨_,rfl⟩
  obtain⟨x,hxx⟩:∃ x:Int,((b8 b0 b1 b2 b3 b4 b5 b6 b7:Nat):Int)=x:=⟨_,rfl⟩
  rw[hy]at HR hv hr
  rw[hxx]at HR hx
  have HV:=η hv
  clear hv hy hxx g0 g1 g2 g3 g4 g5 g6 g7
  rcases hn with rfl|rfl|rfl
  ·have hx':IntKind.u64.wrap (a * 281474976710656)=x:=hx
   have ha:bits .and .u64 y 65535=y%65536:=and_low (k:=16) (by decide) hr.2 hr.1
   have HV2:Hid (y%65536=kM true 16 a):=HV
   clear hx HV
   go_enter Tryz.func135,Tryz.ntmps135
   go_wp2_with fail
   (refine yE (by kernel_rfl) (by kernel_rfl) ?_;(repeat (go_big_quiet_step (((go_at_call 179;exact Calls.grow (HR.out _))))));refine wpQuiet_nil ?_;rintro wz ⟨nz,hz⟩;have hwq:=nz.ext;rw[← hz]at hwq;clear hz)
   go_wp2_with fail
   go_returns
   exact⟨retDo HV2.out,by (repeat (first|exact xE0 _|assumption|refine xE1 ?_ _|refine xE2 ?_|refine xE3 ?_ _|refine xE4 ?_ (by assumption)))⟩
  ·have hx':IntKind.u64.wrap (a * 4294967296)=x:=hx
   have ha:bits .and .u64 y 4294967295=y%4294967296:=and_low (k:=32) (by decide) hr.2 hr.1
   have HV2:Hid (y%4294967296=kM true 32 a):=HV
   clear hx HV
   go_enter Tryz.func135,Tryz.ntmps135
   go_wp2_with fail
   (refine yE (by kernel_rfl) (by kernel_rfl) ?_;(repeat (go_big_quiet_step (((go_at_call 179;exact Calls.grow (HR.out _))))));refine wpQuiet_nil ?_;rintro wz ⟨nz,hz⟩;have hwq:=nz.ext;rw[← hz]at hwq;clear hz)
   go_wp2_with fail
   go_returns
   exact⟨retDo HV2.out,by (repeat (first|exact xE0 _|assumption|refine xE1 ?_ _|refine xE2 ?_|refine xE3 ?_ _|refine xE4 ?_ (by assumption)))⟩
  ·have hM:IntKind.u64.wrap (IntKind.u64.wrap 18446744073709551616 - 1)=18446744073709551615:=by rw[IntKind.wrap_u64,IntKind.wrap_u64];rfl
   have hx':IntKind.u64.wrap a=x:=by rw[← hx];congr 1;simp
   have ha:bits .and .u64 y 18446744073709551615=y:=by
    have h:=bits_and_u64_nat y.toNat 18446744073709551615 (by omega) (by decide)
    rw[show (18446744073709551615:Nat)=2 ^ 64 - 1 from rfl,Nat.and_two_pow_sub_one_eq_mod,Int.toNat_of_nonneg hr.2]at h
    exact h.trans (by omega)
   have HV2:Hid (y=kM true 64 a):=η (by rw[← HV.out];simp;omega)
   clear hx HV
   go_enter Tryz.func135,Tryz.ntmps135
   go_wp2_with fail
   (refine yE (by kernel_rfl) (by kernel_rfl) ?_;(repeat (go_big_quiet_step (((go_at_call 179;exact Calls.grow (HR.out _))))));refine wpQuiet_nil ?_;rintro wz ⟨nz,hz⟩;have hwq:=nz.ext;rw[← hz]at hwq;clear hz)
   go_wp2_with fail
   go_returns
   exact⟨retDo HV2.out,by (repeat (first|exact xE0 _|assumption|refine xE1 ?_ _|refine xE2 ?_|refine xE3 ?_ _|refine xE4 ?_ (by assumption)))⟩
end Go.Proofs.YtppefchjoodgnaaGreat
