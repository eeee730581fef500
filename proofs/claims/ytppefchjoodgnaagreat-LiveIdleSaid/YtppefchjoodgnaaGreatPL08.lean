/- What the claim leans on: Ins · Al · AlB · Is. -/
import Derived.Test.YtppefchjoodgnaaGreatPL01
import Derived.Test.YtppefchjoodgnaaGreatProg
import Derived.Deep.RegionLaw
import Derived.Deep.CutBlock
import Derived.Deep.DeepCutAuto
namespace Go.Proofs.YtppefchjoodgnaaGreat
open Go.RowKit
set_option linter.unusedVariables false
set_option linter.unusedSimpArgs false
structure Ins where
 op : Int
 dst : Int
 src : Int
 off : Int
 imm : Int
def Ins.enc (x : Ins) : List Value := [.int .u8 x.op, .int .u8 x.dst, .int .u8 x.src, .int .i16 x.off, .int .i32 x.imm]
@[reducible] def Ins.agg (x : Ins) : Value := .agg #[.int .u8 x.op, .int .u8 x.dst, .int .u8 x.src, .int .i16 x.off, .int .i32 x.imm]
structure Ins.Ok (x : Ins) : Prop where
 op : 0 ≤ x.op ∧ x.op ≤ 255
 dst : 0 ≤ x.dst ∧ x.dst ≤ 255
 src : 0 ≤ x.src ∧ x.src ≤ 255
 off : -32768 ≤ x.off ∧ x.off ≤ 32767
 imm : -2147483648 ≤ x.imm ∧ x.imm ≤ 2147483647
theorem enc_ins : Enc 5 Ins.enc := ⟨fun _ => rfl, fun x u hu => by
 simp only [Ins.enc, List.mem_cons, List.not_mem_nil, or_false] at hu
 rcases hu with rfl | rfl | rfl | rfl | rfl <;> rfl⟩
theorem el_ins : El Tryz.prog 22 58 5 12 (.agg #[.int .u8 0, .int .u8 0, .int .u8 0, .int .i16 0, .int .i32 0]) := ⟨Tryz.underlying22, by kernel_rfl, rfl, by decide, fun _ => by kernel_rfl⟩
structure Wh where
 kind : Int
 op : Int
 wide : Bool
 reg : Bool
 signed : Bool
 size : Int
@[reducible] def Wh.agg (x : Wh) : Value := .agg #[.int .u8 x.kind, .int .u8 x.op, .bool x.wide, .bool x.reg, .bool x.signed, .int .i64 x.size]
@[reducible] def Wh.zero : Wh := ⟨0, 0, false, false, false, 0⟩
def WhA (o : Option Wh) (w : World) (e : Ending) (w' : World) : Prop :=
 ∃ (x : Wh) (b : Bool), e = .returned (.tuple #[x.agg, .bool b]) ∧ o = (if b then some x else none) ∧ Ext w w'
abbrev insObj (x : Ins) : Obj := .cells #[.int .u8 x.op, .int .u8 x.dst, .int .u8 x.src, .int .i16 x.off, .int .i32 x.imm] 58 (0, 0)
abbrev whObj (x : Wh) : Obj := .cells #[.int .u8 x.kind, .int .u8 x.op, .bool x.wide, .bool x.reg, .bool x.signed, .int .i64 x.size] 60 (0, 0)
theorem set6 {w0 w : World} {B : Nat} {y0 : Wh} (h : w.heap[B]? = some (whObj y0)) (he : Ext w0 w) (hb : w0.heap.size ≤ B) (k o : Int) (a b c : Bool) (n : Int) :
  ((((((w.setCell ⟨B, 0, none⟩ (.int .u8 k)).setCell ⟨B, 1, none⟩ (.int .u8 o)).setCell ⟨B, 2, none⟩ (.bool a)).setCell ⟨B, 3, none⟩ (.bool b)).setCell ⟨B, 4, none⟩ (.bool c)).setCell ⟨B, 5, none⟩ (.int .i64 n)).heap[B]? = some (whObj ⟨k, o, a, b, c, n⟩) ∧
  Ext w0 ((((((w.setCell ⟨B, 0, none⟩ (.int .u8 k)).setCell ⟨B, 1, none⟩ (.int .u8 o)).setCell ⟨B, 2, none⟩ (.bool a)).setCell ⟨B, 3, none⟩ (.bool b)).setCell ⟨B, 4, none⟩ (.bool c)).setCell ⟨B, 5, none⟩ (.int .i64 n)) := by
 refine ⟨?_, (((((he.setCell hb _).setCell hb _).setCell hb _).setCell hb _).setCell hb _).setCell hb _⟩
 have h1 := heap_setCell_same w B 0 _ _ (.int .u8 k) h
 have h2 := heap_setCell_same _ B 1 _ _ (.int .u8 o) h1
 have h3 := heap_setCell_same _ B 2 _ _ (.bool a) h2
 have h4 := heap_setCell_same _ B 3 _ _ (.bool b) h3
 have h5 := heap_setCell_same _ B 4 _ _ (.bool c) h4
 have h6 := heap_setCell_same _ B 5 _ _ (.int .i64 n) h5
 simpa using h6
def zerosS (x : Ins) (s o i : Bool) : Bool := !((s && x.src != 0) || (o && x.off != 0) || (i && x.imm != 0))
def arithS (x : Ins) (h : Int) (wd rg : Bool) : Option Wh :=
 if x.dst = 10 then none else if zerosS x (!rg) false rg = false then none else
 if h = 0 ∨ h = 16 ∨ h = 32 ∨ h = 64 ∨ h = 80 ∨ h = 160 ∨ h = 96 ∨ h = 112 ∨ h = 192 then (if x.off = 0 then some ⟨1, h, wd, rg, false, 0⟩ else none)
 else if h = 48 ∨ h = 144 then (if x.off = 0 ∨ x.off = 1 then some ⟨1, h, wd, rg, false, 0⟩ else none)
 else if h = 128 then (if rg = false ∧ zerosS x true true true = true then some ⟨1, h, wd, rg, false, 0⟩ else none)
 else if h = 176 then (if x.off = 0 ∨ (rg = true ∧ (x.off = 8 ∨ x.off = 16 ∨ (x.off = 32 ∧ wd = true))) then some ⟨1, h, wd, rg, false, 0⟩ else none)
 else none
theorem byte_all (P : Int → Prop) (h : ∀ n : Fin 256, P (n.val : Int)) (x : Int) (hx : 0 ≤ x ∧ x ≤ 255) : P x := by
 have := h ⟨x.toNat, by omega⟩
 simpa [Int.toNat_of_nonneg hx.1] using this
set_option maxHeartbeats 1000000 in
theorem p_class (x : Ins) (w : World) (h : 0 ≤ x.op ∧ x.op ≤ 255) : Calls Tryz.prog 116 #[x.agg] w fun e w' => e = .returned (.int .u8 (x.op % 8)) ∧ w' = w.alloc (.cells #[.int .u8 x.op, .int .u8 x.dst, .int .u8 x.src, .int .i16 x.off, .int .i32 x.imm] 58) := by
 have e : bits .and .u8 x.op 7 = x.op % 8 := byte_all (fun x => bits .and .u8 x 7 = x % 8) (by decide +kernel) x.op h
 go_enter Tryz.func116, Tryz.ntmps116
 go_wp2_with fail
 go_returns
 exact ⟨rfl, rfl⟩
set_option maxHeartbeats 1000000 in
theorem p_zeros (x : Ins) (s o i : Bool) (w : World) : Calls Tryz.prog 155 #[x.agg, .bool s, .bool o, .bool i] w fun e w' => e = .returned (.bool (zerosS x s o i)) ∧ w' = w.alloc (.cells #[.int .u8 x.op, .int .u8 x.dst, .int .u8 x.src, .int .i16 x.off, .int .i32 x.imm] 58) := by
 obtain ⟨a, ha⟩ : ∃ a, (x.src != 0) = a := ⟨_, rfl⟩
 obtain ⟨b, hb⟩ : ∃ b, (x.off != 0) = b := ⟨_, rfl⟩
 obtain ⟨c, hc⟩ : ∃ c, (x.imm != 0) = c := ⟨_, rfl⟩
 have HS : Hid (zerosS x s o i = !((s && a) || (o && b) || (i && c))) := η (by rw [zerosS, ha, hb, hc])
 cases s <;> cases o <;> cases i <;> cases a <;> cases b
 all_goals
  go_enter Tryz.func155, Tryz.ntmps155
  go_wp2_with fail
  go_returns
  exact ⟨by rw [HS.out]; simp, rfl⟩
theorem p_zerosE (x : Ins) (s o i z : Bool) (w : World) (hz : zerosS x s o i = z) : Calls Tryz.prog 155 #[x.agg, .bool s, .bool o, .bool i] w fun e w' => e = .returned (.bool z) ∧ w' = w.alloc (.cells #[.int .u8 x.op, .int .u8 x.dst, .int .u8 x.src, .int .i16 x.off, .int .i32 x.imm] 58) := hz ▸ p_zeros x s o i w
def wid (n : Int) : Prop := n = 8 ∨ n = 16 ∨ n = 32 ∨ n = 64
def cutN (a n : Int) : Int := if n = 64 then a else a % (2 ^ n.toNat)
def halfN (n : Int) : Int := 2 ^ (n - 1).toNat
def signN (a n : Int) : Int := if cutN a n / halfN n = 0 ∨ n = 64 then cutN a n else cutN a n - 2 ^ n.toNat + 18446744073709551616
def negN (x n : Int) : Bool := x / halfN n == 1
def minusN (x : Int) : Int := (-x) % 18446744073709551616
def sizeN (x n : Int) : Int := if negN x n then cutN (minusN x) n else x
def quoN (x y n : Int) (s : Bool) : Int := if y = 0 then 0 else if s = false then x / y else if negN x n = negN y n then sizeN x n / sizeN y n else cutN (minusN (sizeN x n / sizeN y n)) n
def remN (x y n : Int) (s : Bool) : Int := if y = 0 then x else if s = false then x % y else if negN x n then cutN (minusN (sizeN x n % sizeN y n)) n else sizeN x n % sizeN y n
def revN : Nat → Int → Int → Int
 | 0, _, out => out
 | k + 1, x, out => revN k (x / 256) ((out * 256 + x % 256) % 18446744073709551616)
def swapN (turn : Bool) (n a : Int) : Int := if turn then revN (n / 8).toNat (cutN a n) 0 else cutN a n
theorem cutN_le {a n : Int} (h : 0 ≤ a) (h1 : a ≤ 18446744073709551615) (hn : wid n) : 0 ≤ cutN a n ∧ cutN a n ≤ 18446744073709551615 ∧ cutN a n ≤ a ∧ (n = 8 → cutN a n < 256) ∧ (n = 16 → cutN a n < 65536) ∧ (n = 32 → cutN a n < 4294967296) := by
 rcases hn with rfl | rfl | rfl | rfl
 all_goals simp [cutN]; try omega
theorem r_cut (a n : Int) (w : World) (hn : wid n) (h0 : 0 ≤ a) : Calls Tryz.prog 139 #[.int .u64 a, .int .i64 n] w fun e w' => e = .returned (.int .u64 (cutN a n)) ∧ w' = w := by
 rcases hn with rfl | rfl | rfl | rfl
 all_goals
  go_enter Tryz.func139, Tryz.ntmps139
  go_wp2_with fail
  go_returns
  exact ⟨ret_u64 (by simp [cutN]), rfl⟩
theorem r_negative (a n : Int) (w : World) (hn : wid n) (h0 : 0 ≤ a) : Calls Tryz.prog 184 #[.int .u64 a, .int .i64 n] w fun e w' => e = .returned (.bool (negN a n)) ∧ w' = w := by
 rcases hn with rfl | rfl | rfl | rfl
 all_goals
  go_enter Tryz.func184, Tryz.ntmps184
  go_wp2_with fail
  go_returns
  exact ⟨ret_bool (by simp [negN, halfN]), rfl⟩
theorem r_Sign (a n : Int) (w : World) (hn : wid n) (h0 : 0 ≤ a) (h1 : a ≤ 18446744073709551615) : Calls Tryz.prog 142 #[.int .u64 a, .int .i64 n] w fun e w' => e = .returned (.int .u64 (signN a n)) ∧ w' = w := by
 have hc := cutN_le h0 h1 hn
 have HN := η hn
 obtain ⟨c, hC⟩ : ∃ c, cutN a n = c := ⟨_, rfl⟩
 have HC := η hC
 rw [hC] at hc
 rcases hn with rfl | rfl | rfl | rfl
 all_goals
  go_enter Tryz.func142, Tryz.ntmps142
  go_wp2_with fail
  refine (r_cut a _ _ HN.out h0).mono ?_
  rintro e w1 ⟨rfl, rfl⟩
  rw [HC.out]
 ·by_cases hz : c < 128
  all_goals
   go_wp2_with fail
   go_returns
   refine ⟨ret_u64 ?_, rfl⟩
   simp only [signN, HC.out, halfN, IntKind.wrap_u64]
   simp at hc ⊢
   try first | omega | (split <;> omega)
 ·by_cases hz : c < 32768
  all_goals
   go_wp2_with fail
   go_returns
   refine ⟨ret_u64 ?_, rfl⟩
   simp only [signN, HC.out, halfN, IntKind.wrap_u64]
   simp at hc ⊢
   try first | omega | (split <;> omega)
 ·by_cases hz : c < 2147483648
  all_goals
   go_wp2_with fail
   go_returns
   refine ⟨ret_u64 ?_, rfl⟩
   simp only [signN, HC.out, halfN, IntKind.wrap_u64]
   simp at hc ⊢
   try first | omega | (split <;> omega)
 ·by_cases hz : c < 9223372036854775808
  all_goals
   go_wp2_with fail
   go_returns
   refine ⟨ret_u64 ?_, rfl⟩
   simp only [signN, HC.out, halfN, IntKind.wrap_u64]
   simp at hc ⊢
   try first | omega | (split <;> omega)
theorem emod_le' {p q : Int} (h : 0 ≤ p) (h1 : 0 ≤ q) : p % q ≤ p := by
 have := Int.emod_add_mul_ediv p q
 have := Int.mul_nonneg h1 (Int.ediv_nonneg h h1)
 omega
theorem r_size (a n : Int) (w : World) (hn : wid n) (h0 : 0 ≤ a) (h1 : a ≤ 18446744073709551615) : Calls Tryz.prog 202 #[.int .u64 a, .int .i64 n] w fun e w' => e = .returned (.int .u64 (sizeN a n)) ∧ w' = w := by
 have HN := η hn
 obtain ⟨z, hz⟩ : ∃ z, negN a n = z := ⟨_, rfl⟩
 have HZ := η hz
 clear hz
 go_enter Tryz.func202, Tryz.ntmps202
 go_wp2_with fail
 refine (r_negative a _ _ HN.out h0).mono ?_
 rintro e w1 ⟨rfl, rfl⟩
 rw [HZ.out]
 cases z
 ·go_wp2_with fail
  go_returns
  exact ⟨ret_u64 (by simp [sizeN, HZ.out]), rfl⟩
 ·go_wp2_with fail
  refine (r_cut _ _ _ HN.out (by rw [IntKind.wrap_u64]; omega)).mono ?_
  rintro e w1 ⟨rfl, rfl⟩
  go_wp2_with fail
  go_returns
  exact ⟨ret_u64 (by simp [sizeN, HZ.out, minusN, IntKind.wrap_u64]), rfl⟩
theorem cut_lt {a n : Int} (hn : wid n) (h : 0 ≤ a) (h1 : a ≤ 18446744073709551615) : 0 ≤ cutN a n ∧ cutN a n ≤ 18446744073709551615 := ⟨(cutN_le h h1 hn).1, (cutN_le h h1 hn).2.1⟩
theorem minus_lt (a : Int) : 0 ≤ minusN a ∧ minusN a ≤ 18446744073709551615 := by unfold minusN; omega
theorem size_lt {a n : Int} (hn : wid n) (h : 0 ≤ a) (h1 : a ≤ 18446744073709551615) : 0 ≤ sizeN a n ∧ sizeN a n ≤ 18446744073709551615 := by
 unfold sizeN
 split
 ·exact cut_lt hn (minus_lt a).1 (minus_lt a).2
 ·exact ⟨h, h1⟩
theorem size_zero {a n : Int} (hn : wid n) (h : 0 < a) (h1 : a < 2 ^ n.toNat) : sizeN a n ≠ 0 := by
 unfold sizeN negN
 rcases hn with rfl | rfl | rfl | rfl
 all_goals
  simp [halfN, cutN, minusN] at h1 ⊢
  split <;> omega
set_option maxRecDepth 20000 in
set_option maxHeartbeats 2000000 in
theorem r_parts (x y n : Int) (s : Bool) (w : World) (hn : wid n) (h0 : 0 ≤ x) (h1 : x ≤ 18446744073709551615) (k0 : 0 ≤ y) (k1 : y ≤ 18446744073709551615) (HY : Hid (y < 2 ^ n.toNat)) :
  Calls Tryz.prog 183 #[.int .u64 x, .int .u64 y, .int .i64 n, .bool s] w fun e w' => e = .returned (.tuple #[.int .u64 (quoN x y n s), .int .u64 (remN x y n s)]) ∧ Ext w w' := by
 by_cases hy : y = 0
 ·subst hy
  clear k0 k1 HY
  have e1 : quoN x 0 n s = 0 := by simp [quoN]
  have e2 : remN x 0 n s = x := by simp [remN]
  rw [e1, e2]
  clear e1 e2
  cases s
  all_goals
   go_enter Tryz.func183, Tryz.ntmps183
   go_wp2_with fail
   go_returns
   exact ⟨rfl, by (repeat (first|exact xE0 _|assumption|refine xE1 ?_ _|refine xE2 ?_|refine xE3 ?_ _|refine xE4 ?_ (by assumption)))⟩
 ·cases s
  ·go_enter Tryz.func183, Tryz.ntmps183
   have hy' : (y == 0) = false := by simpa using hy
   go_wp2_with fail
   go_region
   go_wp2_with fail
   go_returns
   exact ⟨by simp [quoN, remN, hy], by (repeat (first|exact xE0 _|assumption|refine xE1 ?_ _|refine xE2 ?_|refine xE3 ?_ _|refine xE4 ?_ (by assumption)))⟩
  ·have HN := η hn
   obtain ⟨p, hp⟩ : ∃ p, sizeN x n = p := ⟨_, rfl⟩
   obtain ⟨q, hq⟩ : ∃ p, sizeN y n = p := ⟨_, rfl⟩
   have hp1 := size_lt hn h0 h1
   have hq1 := size_lt hn k0 k1
   have hq0 := size_zero hn (by omega) HY.out
   rw [hp] at hp1
   rw [hq] at hq1 hq0
   obtain ⟨u, hu⟩ : ∃ z, negN x n = z := ⟨_, rfl⟩
   obtain ⟨v, hv⟩ : ∃ z, negN y n = z := ⟨_, rfl⟩
   have HP := η hp
   have HQ := η hq
   have HU := η hu
   have HV := η hv
   have hd := Int.ediv_nonneg hp1.1 hq1.1
   have hd1 : p / q ≤ 18446744073709551615 := Int.le_trans (Int.ediv_le_self _ hp1.1) hp1.2
   have hm := Int.emod_nonneg p hq0
   have hm1 : p % q ≤ 18446744073709551615 := Int.le_trans (emod_le' hp1.1 hq1.1) hp1.2
   clear hn hp hq hu hv
   go_enter Tryz.func183, Tryz.ntmps183
   go_wp2_with fail
   refine (r_size x n _ HN.out h0 h1).mono ?_
   rintro e w1 ⟨rfl, rfl⟩
   rw [HP.out]
   go_wp2_with fail
   refine (r_size y n _ HN.out k0 k1).mono ?_
   rintro e w1 ⟨rfl, rfl⟩
   rw [HQ.out]
   go_wp2_with fail
   refine (r_size x n _ HN.out h0 h1).mono ?_
   rintro e w1 ⟨rfl, rfl⟩
   rw [HP.out]
   go_wp2_with fail
   refine (r_size y n _ HN.out k0 k1).mono ?_
   rintro e w1 ⟨rfl, rfl⟩
   rw [HQ.out]
   go_wp2_with fail
   refine (r_negative x n _ HN.out h0).mono ?_
   rintro e w1 ⟨rfl, rfl⟩
   rw [HU.out]
   go_wp2_with fail
   refine (r_negative y n _ HN.out k0).mono ?_
   rintro e w1 ⟨rfl, rfl⟩
   rw [HV.out]
   have H1 := η (minus_lt (p / q))
   have H2 := η (minus_lt (p % q))
   cases u <;> cases v
   ·go_wp2_with fail
    refine (r_negative x n _ HN.out h0).mono ?_
    rintro e w1 ⟨rfl, rfl⟩
    rw [HU.out]
    go_wp2_with fail
    go_returns
    exact ⟨by simp [quoN, remN, hy, HU.out, HV.out, HP.out, HQ.out], by (repeat (first|exact xE0 _|assumption|refine xE1 ?_ _|refine xE2 ?_|refine xE3 ?_ _|refine xE4 ?_ (by assumption)))⟩
   ·go_wp2_with fail
    refine (r_cut _ n _ HN.out (by rw [IntKind.wrap_u64]; exact H1.out.1)).mono ?_
    rintro e w1 ⟨rfl, rfl⟩
    go_wp2_with fail
    refine (r_negative x n _ HN.out h0).mono ?_
    rintro e w1 ⟨rfl, rfl⟩
    rw [HU.out]
    go_wp2_with fail
    go_returns
    exact ⟨by simp [quoN, remN, hy, HU.out, HV.out, HP.out, HQ.out, minusN, IntKind.wrap_u64], by (repeat (first|exact xE0 _|assumption|refine xE1 ?_ _|refine xE2 ?_|refine xE3 ?_ _|refine xE4 ?_ (by assumption)))⟩
   ·go_wp2_with fail
    refine (r_cut _ n _ HN.out (by rw [IntKind.wrap_u64]; exact H1.out.1)).mono ?_
    rintro e w1 ⟨rfl, rfl⟩
    go_wp2_with fail
    refine (r_negative x n _ HN.out h0).mono ?_
    rintro e w1 ⟨rfl, rfl⟩
    rw [HU.out]
    go_wp2_with fail
    refine (r_cut _ n _ HN.out (by rw [IntKind.wrap_u64]; exact H2.out.1)).mono ?_
    rintro e w1 ⟨rfl, rfl⟩
    go_wp2_with fail
    go_returns
    exact ⟨by simp [quoN, remN, hy, HU.out, HV.out, HP.out, HQ.out, minusN, IntKind.wrap_u64], by (repeat (first|exact xE0 _|assumption|refine xE1 ?_ _|refine xE2 ?_|refine xE3 ?_ _|refine xE4 ?_ (by assumption)))⟩
   ·go_wp2_with fail
    refine (r_negative x n _ HN.out h0).mono ?_
    rintro e w1 ⟨rfl, rfl⟩
    rw [HU.out]
    go_wp2_with fail
    refine (r_cut _ n _ HN.out (by rw [IntKind.wrap_u64]; exact H2.out.1)).mono ?_
    rintro e w1 ⟨rfl, rfl⟩
    go_wp2_with fail
    go_returns
    exact ⟨by simp [quoN, remN, hy, HU.out, HV.out, HP.out, HQ.out, minusN, IntKind.wrap_u64], by (repeat (first|exact xE0 _|assumption|refine xE1 ?_ _|refine xE2 ?_|refine xE3 ?_ _|refine xE4 ?_ (by assumption)))⟩
set_option maxRecDepth 20000 in
set_option maxHeartbeats 2000000 in
theorem r_swap (t : Bool) (n a : Int) (w : World) (hn : n = 16 ∨ n = 32 ∨ n = 64) (h0 : 0 ≤ a) (h1 : a ≤ 18446744073709551615) :
  Calls Tryz.prog 100 #[.bool t, .int .i64 n, .int .u64 a] w fun e w' => e = .returned (.tuple #[.int .u64 (swapN t n a), .int .i64 0]) ∧ w' = w := by
 have hw : wid n := .inr hn
 have HN := η hw
 obtain ⟨c, hc⟩ : ∃ c, cutN a n = c := ⟨_, rfl⟩
 have hc1 := cut_lt hw h0 h1
 rw [hc] at hc1
 have HC := η hc
 clear hw hc
 cases t
 ·rcases hn with rfl | rfl | rfl
  all_goals
   go_enter Tryz.func100, Tryz.ntmps100
   go_wp2_with fail
   refine (r_cut a _ _ HN.out h0).mono ?_
   rintro e w1 ⟨rfl, rfl⟩
   rw [HC.out]
   go_wp2_with fail
   go_returns
   exact ⟨by simp [swapN, HC.out], rfl⟩
 ·rcases hn with rfl | rfl | rfl
  all_goals
   go_enter Tryz.func100, Tryz.ntmps100
   go_wp2_with fail
   refine (r_cut a _ _ HN.out h0).mono ?_
   rintro e w1 ⟨rfl, rfl⟩
   rw [HC.out]
   go_wp2_with fail
  ·go_loopw [8, 9, 10] (fun x o i wr => ∃ (k : Nat) (x' o' : Int), k ≤ 2 ∧ x = .int .u64 x' ∧ o = .int .u64 o' ∧ i = .int .i64 k ∧ wr = w1 ∧ 0 ≤ x' ∧ x' ≤ 18446744073709551615 ∧ 0 ≤ o' ∧ o' ≤ 18446744073709551615 ∧ Hid (revN (2 - k) x' o' = revN 2 c 0)) (fun x o i _ => 2 - (intOf i).toNat)
   case atStart => exact ⟨0, c, 0, by omega, rfl, rfl, rfl, rfl, hc1.1, hc1.2, by omega, by omega, η rfl⟩
   case round =>
    obtain ⟨k, x', o', hk, rfl, rfl, rfl, rfl, hx0, hx1, ho0, ho1, HR⟩ := hrel
    by_cases hlt : k < 2
    ·go_wp2_with fail
     go_roundw
     case rel => exact ⟨k + 1, x' / 256, _, by omega, by go_num, rfl, by go_num, trivial, by omega, by omega, by rw [IntKind.wrap_u64]; omega, by rw [IntKind.wrap_u64]; omega, η (by rw [← HR.out, show 2 - k = (2 - (k + 1)) + 1 by omega, revN]; simp [IntKind.wrap_u64])⟩
     case measure => simp [intOf]; omega
    ·go_wp2_with fail
     go_returns
     exact ⟨by simp [swapN, HC.out]; rw [← HR.out, show 2 - k = 0 by omega]; rfl, rfl⟩
  ·go_loopw [8, 9, 10] (fun x o i wr => ∃ (k : Nat) (x' o' : Int), k ≤ 4 ∧ x = .int .u64 x' ∧ o = .int .u64 o' ∧ i = .int .i64 k ∧ wr = w1 ∧ 0 ≤ x' ∧ x' ≤ 18446744073709551615 ∧ 0 ≤ o' ∧ o' ≤ 18446744073709551615 ∧ Hid (revN (4 - k) x' o' = revN 4 c 0)) (fun x o i _ => 4 - (intOf i).toNat)
   case atStart => exact ⟨0, c, 0, by omega, rfl, rfl, rfl, rfl, hc1.1, hc1.2, by omega, by omega, η rfl⟩
   case round =>
    obtain ⟨k, x', o', hk, rfl, rfl, rfl, rfl, hx0, hx1, ho0, ho1, HR⟩ := hrel
    by_cases hlt : k < 4
    ·go_wp2_with fail
     go_roundw
     case rel => exact ⟨k + 1, x' / 256, _, by omega, by go_num, rfl, by go_num, trivial, by omega, by omega, by rw [IntKind.wrap_u64]; omega, by rw [IntKind.wrap_u64]; omega, η (by rw [← HR.out, show 4 - k = (4 - (k + 1)) + 1 by omega, revN]; simp [IntKind.wrap_u64])⟩
     case measure => simp [intOf]; omega
    ·go_wp2_with fail
     go_returns
     exact ⟨by simp [swapN, HC.out]; rw [← HR.out, show 4 - k = 0 by omega]; rfl, rfl⟩
  ·go_loopw [8, 9, 10] (fun x o i wr => ∃ (k : Nat) (x' o' : Int), k ≤ 8 ∧ x = .int .u64 x' ∧ o = .int .u64 o' ∧ i = .int .i64 k ∧ wr = w1 ∧ 0 ≤ x' ∧ x' ≤ 18446744073709551615 ∧ 0 ≤ o' ∧ o' ≤ 18446744073709551615 ∧ Hid (revN (8 - k) x' o' = revN 8 c 0)) (fun x o i _ => 8 - (intOf i).toNat)
   case atStart => exact ⟨0, c, 0, by omega, rfl, rfl, rfl, rfl, hc1.1, hc1.2, by omega, by omega, η rfl⟩
   case round =>
    obtain ⟨k, x', o', hk, rfl, rfl, rfl, rfl, hx0, hx1, ho0, ho1, HR⟩ := hrel
    by_cases hlt : k < 8
    ·go_wp2_with fail
     go_roundw
     case rel => exact ⟨k + 1, x' / 256, _, by omega, by go_num, rfl, by go_num, trivial, by omega, by omega, by rw [IntKind.wrap_u64]; omega, by rw [IntKind.wrap_u64]; omega, η (by rw [← HR.out, show 8 - k = (8 - (k + 1)) + 1 by omega, revN]; simp [IntKind.wrap_u64])⟩
     case measure => simp [intOf]; omega
    ·go_wp2_with fail
     go_returns
     exact ⟨by simp [swapN, HC.out]; rw [← HR.out, show 8 - k = 0 by omega]; rfl, rfl⟩
def doOk (op : Int) (wide : Bool) (off : Int) : Prop := (off = 0 ∧ (op = 176 ∨ op = 0 ∨ op = 16 ∨ op = 32 ∨ op = 64 ∨ op = 80 ∨ op = 96 ∨ op = 112 ∨ op = 128 ∨ op = 160)) ∨ (off = 0 ∧ op = 192) ∨ ((off = 0 ∨ off = 1) ∧ (op = 48 ∨ op = 144)) ∨ (op = 176 ∧ (off = 8 ∨ off = 16 ∨ off = 32 ∧ wide = true))
def wideN (wide : Bool) : Int := if wide then 64 else 32
theorem wide_wid (b : Bool) : wid (wideN b) := by cases b <;> simp [wideN, wid]
def rawN (op : Int) (n x y : Int) : Int :=
 if op = 0 then IntKind.u64.wrap (x + y) else if op = 16 then IntKind.u64.wrap (x - y) else if op = 32 then IntKind.u64.wrap (x * y)
 else if op = 64 then bits .or .u64 x y else if op = 80 then bits .and .u64 x y else if op = 160 then bits .xor .u64 x y
 else if op = 128 then IntKind.u64.wrap (-x) else if op = 96 then IntKind.u64.wrap (x * 2 ^ (y % n).toNat) else if op = 112 then x / 2 ^ (y % n).toNat
 else if op = 192 then (if negN x n then IntKind.u64.wrap (IntKind.u64.wrap (cutN 18446744073709551615 n - cutN 18446744073709551615 n / 2 ^ (y % n).toNat) + x / 2 ^ (y % n).toNat) else x / 2 ^ (y % n).toNat)
 else y
def aluN (op : Int) (wide : Bool) (off a b : Int) : Int :=
 if op = 176 ∧ off ≠ 0 then cutN (signN (cutN b (wideN wide)) off) (wideN wide)
 else if op = 48 then quoN (cutN a (wideN wide)) (cutN b (wideN wide)) (wideN wide) (off == 1)
 else if op = 144 then remN (cutN a (wideN wide)) (cutN b (wideN wide)) (wideN wide) (off == 1)
 else cutN (rawN op (wideN wide) (cutN a (wideN wide)) (cutN b (wideN wide))) (wideN wide)
theorem wrap_rng (n : Int) : 0 ≤ IntKind.u64.wrap n ∧ IntKind.u64.wrap n ≤ 18446744073709551615 := by rw [IntKind.wrap_u64]; omega
theorem bits_rng (op : BinOp) (x y : Int) (h : op = .or ∨ op = .and ∨ op = .xor) : 0 ≤ bits op .u64 x y ∧ bits op .u64 x y ≤ 18446744073709551615 := by
 rcases h with rfl | rfl | rfl
 all_goals
  simp only [bits]
  exact wrap_rng _
theorem shr_rng {x : Int} (h : 0 ≤ x) (h1 : x ≤ 18446744073709551615) (k : Nat) : 0 ≤ x / 2 ^ k ∧ x / 2 ^ k ≤ 18446744073709551615 :=
 ⟨Int.ediv_nonneg h (Int.le_of_lt (Int.pow_pos (by decide))), Int.le_trans (Int.ediv_le_self _ h) h1⟩
theorem raw_rng {op n x y : Int} (hx : 0 ≤ x ∧ x ≤ 18446744073709551615) (hy : 0 ≤ y ∧ y ≤ 18446744073709551615) : 0 ≤ rawN op n x y ∧ rawN op n x y ≤ 18446744073709551615 := by
 unfold rawN
 repeat' split
 all_goals first | exact wrap_rng _ | exact bits_rng _ _ _ (by simp) | exact shr_rng hx.1 hx.2 _ | exact hy
theorem sign_rng {a n : Int} (hn : wid n) (h : 0 ≤ a) (h1 : a ≤ 18446744073709551615) : 0 ≤ signN a n ∧ signN a n ≤ 18446744073709551615 := by
 have hc := cutN_le h h1 hn
 unfold signN
 rcases hn with rfl | rfl | rfl | rfl
 all_goals
  simp [halfN] at hc ⊢
  try (split <;> omega)
 exact ⟨hc.1, hc.2.1⟩
theorem rem_rng {x y n : Int} {s : Bool} (hn : wid n) (hx : 0 ≤ x ∧ x ≤ 18446744073709551615) (hy : 0 ≤ y ∧ y ≤ 18446744073709551615) : 0 ≤ remN x y n s ∧ remN x y n s ≤ 18446744073709551615 := by
 have hp := size_lt hn hx.1 hx.2
 have hq := size_lt hn hy.1 hy.2
 unfold remN
 split
 ·exact hx
 ·split
  ·exact ⟨Int.emod_nonneg _ (by assumption), Int.le_trans (emod_le' hx.1 hy.1) hx.2⟩
  ·split
   ·exact cut_lt hn (minus_lt _).1 (minus_lt _).2
   ·refine ⟨?_, Int.le_trans (emod_le' hp.1 hq.1) hp.2⟩
    by_cases h0 : sizeN y n = 0
    ·rw [h0, Int.emod_zero]; exact hp.1
    ·exact Int.emod_nonneg _ h0
theorem quo_rng {x y n : Int} {s : Bool} (hn : wid n) (hx : 0 ≤ x ∧ x ≤ 18446744073709551615) (hy : 0 ≤ y ∧ y ≤ 18446744073709551615) : 0 ≤ quoN x y n s ∧ quoN x y n s ≤ 18446744073709551615 := by
 have hp := size_lt hn hx.1 hx.2
 have hq := size_lt hn hy.1 hy.2
 unfold quoN
 split
 ·omega
 ·split
  ·exact ⟨Int.ediv_nonneg hx.1 hy.1, Int.le_trans (Int.ediv_le_self _ hx.1) hx.2⟩
  ·split
   ·exact ⟨Int.ediv_nonneg hp.1 hq.1, Int.le_trans (Int.ediv_le_self _ hp.1) hp.2⟩
   ·exact cut_lt hn (minus_lt _).1 (minus_lt _).2
theorem alu_rng {op : Int} {wide : Bool} {off a b : Int} (h : doOk op wide off) (ha : 0 ≤ a ∧ a ≤ 18446744073709551615) (hb : 0 ≤ b ∧ b ≤ 18446744073709551615) : 0 ≤ aluN op wide off a b ∧ aluN op wide off a b ≤ 18446744073709551615 := by
 have hw := wide_wid wide
 have hx := cut_lt hw ha.1 ha.2
 have hy := cut_lt hw hb.1 hb.2
 unfold aluN
 split
 ·rename_i h1
  have : wid off := by
   rcases h with ⟨h, _⟩ | ⟨h, _⟩ | ⟨_, h | h⟩ | ⟨_, h | h | h⟩
   ·exact absurd h h1.2
   ·exact absurd h h1.2
   ·have := h1.1; omega
   ·have := h1.1; omega
   ·exact .inl h
   ·exact .inr (.inl h)
   ·exact .inr (.inr (.inl h.1))
  have := sign_rng this hy.1 hy.2
  exact cut_lt hw this.1 this.2
 ·split
  ·exact quo_rng hw hx hy
  ·split
   ·exact rem_rng hw hx hy
   ·have := raw_rng (op := op) (n := wideN wide) hx hy
    exact cut_lt hw this.1 this.2
theorem cut_pow {a n : Int} (hn : wid n) (h1 : a ≤ 18446744073709551615) : cutN a n < 2 ^ n.toNat := by
 rcases hn with rfl | rfl | rfl | rfl
 all_goals simp [cutN]; omega
def AluA (x : Int) (w : World) (e : Ending) (w' : World) : Prop := e = .returned (.tuple #[.int .u64 x, .int .i64 0]) ∧ Ext w w'
set_option maxRecDepth 20000 in
set_option maxHeartbeats 8000000 in
theorem r_do_raw (op : Int) (wide : Bool) (off a b : Int) (w : World) (h : off = 0 ∧ (op = 176 ∨ op = 0 ∨ op = 16 ∨ op = 32 ∨ op = 64 ∨ op = 80 ∨ op = 96 ∨ op = 112 ∨ op = 128 ∨ op = 160)) (h0 : 0 ≤ a) (h1 : a ≤ 18446744073709551615) (k0 : 0 ≤ b) (k1 : b ≤ 18446744073709551615) :
  Calls Tryz.prog 138 #[.int .u8 op, .bool wide, .int .i16 off, .int .u64 a, .int .u64 b] w (AluA (aluN op wide off a b) w) := by
 have ha := cut_lt (wide_wid wide) h0 h1
 have hb := cut_lt (wide_wid wide) k0 k1
 have HP := η (cut_pow (wide_wid wide) k1)
 obtain ⟨x, hx⟩ : ∃ x, cutN a (wideN wide) = x := ⟨_, rfl⟩
 obtain ⟨y, hy⟩ : ∃ x, cutN b (wideN wide) = x := ⟨_, rfl⟩
 rw [hx] at ha
 rw [hy] at hb HP
 have HX := η hx
 have HY := η hy
 clear hx hy
 obtain ⟨rfl, h⟩ := h
 have HW := fun n => η (wrap_rng n)
 have HB := fun o (h : o = BinOp.or ∨ o = .and ∨ o = .xor) => η (bits_rng o x y h)
 have HS := fun n => η (shr_rng ha.1 ha.2 n)
 rcases h with rfl | rfl | rfl | rfl | rfl | rfl | rfl | rfl | rfl | rfl <;> cases wide
 all_goals
  simp only [wideN, Bool.false_eq_true, if_false, if_true] at HX HY HP
  go_enter Tryz.func138, Tryz.ntmps138
  go_wp2_with fail
  refine (r_cut a _ _ (by simp [wid]) h0).mono ?_
  rintro e w1 ⟨rfl, rfl⟩
  rw [HX.out]
  go_wp2_with fail
  refine (r_cut b _ _ (by simp [wid]) k0).mono ?_
  rintro e w1 ⟨rfl, rfl⟩
  rw [HY.out]
  go_wp2_with fail
  refine (r_cut _ _ _ (by simp [wid]) (by first | exact hb.1 | exact (HW _).out.1 | exact (HB _ (by simp)).out.1 | exact (HS _).out.1)).mono ?_
  rintro e w1 ⟨rfl, rfl⟩
  go_wp2_with fail
  go_returns
  exact ⟨by simp [aluN, rawN, wideN, HX.out, HY.out], by (repeat (first|exact xE0 _|assumption|refine xE1 ?_ _|refine xE2 ?_|refine xE3 ?_ _|refine xE4 ?_ (by assumption)))⟩
set_option maxRecDepth 20000 in
set_option maxHeartbeats 8000000 in
theorem r_do_arsh (op : Int) (wide : Bool) (off a b : Int) (w : World) (h : off = 0 ∧ op = 192) (h0 : 0 ≤ a) (h1 : a ≤ 18446744073709551615) (k0 : 0 ≤ b) (k1 : b ≤ 18446744073709551615) :
  Calls Tryz.prog 138 #[.int .u8 op, .bool wide, .int .i16 off, .int .u64 a, .int .u64 b] w (AluA (aluN op wide off a b) w) := by
 have ha := cut_lt (wide_wid wide) h0 h1
 have hb := cut_lt (wide_wid wide) k0 k1
 have HP := η (cut_pow (wide_wid wide) k1)
 obtain ⟨x, hx⟩ : ∃ x, cutN a (wideN wide) = x := ⟨_, rfl⟩
 obtain ⟨y, hy⟩ : ∃ x, cutN b (wideN wide) = x := ⟨_, rfl⟩
 rw [hx] at ha
 rw [hy] at hb HP
 have HX := η hx
 have HY := η hy
 clear hx hy
 obtain ⟨rfl, rfl⟩ := h
 have HW := fun n => η (wrap_rng n)
 have HS := fun n => η (shr_rng ha.1 ha.2 n)
 obtain ⟨u, hu⟩ : ∃ u, negN x (wideN wide) = u := ⟨_, rfl⟩
 have HU := η hu
 clear hu
 cases wide
 all_goals
  simp only [wideN, Bool.false_eq_true, if_false, if_true] at HU
  simp only [wideN, Bool.false_eq_true, if_false, if_true] at HX HY HP
  go_enter Tryz.func138, Tryz.ntmps138
  go_wp2_with fail
  refine (r_cut a _ _ (by simp [wid]) h0).mono ?_
  rintro e w1 ⟨rfl, rfl⟩
  rw [HX.out]
  go_wp2_with fail
  refine (r_cut b _ _ (by simp [wid]) k0).mono ?_
  rintro e w1 ⟨rfl, rfl⟩
  rw [HY.out]
  go_wp2_with fail
  refine (r_negative x _ _ (by simp [wid]) ha.1).mono ?_
  rintro e w1 ⟨rfl, rfl⟩
  rw [HU.out]
  cases u
  ·go_wp2_with fail
   refine (r_cut _ _ _ (by simp [wid]) (HS _).out.1).mono ?_
   rintro e w1 ⟨rfl, rfl⟩
   go_wp2_with fail
   go_returns
   exact ⟨by simp [aluN, rawN, wideN, HX.out, HY.out, HU.out], by (repeat (first|exact xE0 _|assumption|refine xE1 ?_ _|refine xE2 ?_|refine xE3 ?_ _|refine xE4 ?_ (by assumption)))⟩
  ·go_wp2_with fail
   refine (r_cut _ _ _ (by simp [wid]) (by decide)).mono ?_
   rintro e w1 ⟨rfl, rfl⟩
   simp only [cutN]
   go_wp2_with fail
   refine (r_cut _ _ _ (by simp [wid]) (HW _).out.1).mono ?_
   rintro e w1 ⟨rfl, rfl⟩
   go_wp2_with fail
   go_returns
   exact ⟨by simp [aluN, rawN, wideN, HX.out, HY.out, HU.out, show cutN 18446744073709551615 32 = 4294967295 by decide, show cutN 18446744073709551615 64 = 18446744073709551615 by decide], by (repeat (first|exact xE0 _|assumption|refine xE1 ?_ _|refine xE2 ?_|refine xE3 ?_ _|refine xE4 ?_ (by assumption)))⟩
set_option maxRecDepth 20000 in
set_option maxHeartbeats 8000000 in
theorem r_do_div (op : Int) (wide : Bool) (off a b : Int) (w : World) (h : (off = 0 ∨ off = 1) ∧ (op = 48 ∨ op = 144)) (h0 : 0 ≤ a) (h1 : a ≤ 18446744073709551615) (k0 : 0 ≤ b) (k1 : b ≤ 18446744073709551615) :
  Calls Tryz.prog 138 #[.int .u8 op, .bool wide, .int .i16 off, .int .u64 a, .int .u64 b] w (AluA (aluN op wide off a b) w) := by
 have ha := cut_lt (wide_wid wide) h0 h1
 have hb := cut_lt (wide_wid wide) k0 k1
 have HP := η (cut_pow (wide_wid wide) k1)
 obtain ⟨x, hx⟩ : ∃ x, cutN a (wideN wide) = x := ⟨_, rfl⟩
 obtain ⟨y, hy⟩ : ∃ x, cutN b (wideN wide) = x := ⟨_, rfl⟩
 rw [hx] at ha
 rw [hy] at hb HP
 have HX := η hx
 have HY := η hy
 clear hx hy
 obtain ⟨h, h'⟩ := h
 rcases h with rfl | rfl <;> rcases h' with rfl | rfl <;> cases wide
 all_goals
  simp only [wideN, Bool.false_eq_true, if_false, if_true] at HX HY HP
  go_enter Tryz.func138, Tryz.ntmps138
  go_wp2_with fail
  refine (r_cut a _ _ (by simp [wid]) h0).mono ?_
  rintro e w1 ⟨rfl, rfl⟩
  rw [HX.out]
  go_wp2_with fail
  refine (r_cut b _ _ (by simp [wid]) k0).mono ?_
  rintro e w1 ⟨rfl, rfl⟩
  rw [HY.out]
  go_wp2_with fail
  refine (r_parts x y _ _ _ (by simp [wid]) ha.1 ha.2 hb.1 hb.2 HP).mono ?_
  rintro e w2 ⟨rfl, hE⟩
  go_wp2_with fail
  go_returns
  exact ⟨by simp [aluN, wideN, HX.out, HY.out], by (repeat (first|exact xE0 _|assumption|refine xE1 ?_ _|refine xE2 ?_|refine xE3 ?_ _|refine xE4 ?_ (by assumption)))⟩
set_option maxRecDepth 20000 in
set_option maxHeartbeats 8000000 in
theorem r_do_mov (op : Int) (wide : Bool) (off a b : Int) (w : World) (h : op = 176 ∧ (off = 8 ∨ off = 16 ∨ off = 32 ∧ wide = true)) (h0 : 0 ≤ a) (h1 : a ≤ 18446744073709551615) (k0 : 0 ≤ b) (k1 : b ≤ 18446744073709551615) :
  Calls Tryz.prog 138 #[.int .u8 op, .bool wide, .int .i16 off, .int .u64 a, .int .u64 b] w (AluA (aluN op wide off a b) w) := by
 have ha := cut_lt (wide_wid wide) h0 h1
 have hb := cut_lt (wide_wid wide) k0 k1
 have HP := η (cut_pow (wide_wid wide) k1)
 obtain ⟨x, hx⟩ : ∃ x, cutN a (wideN wide) = x := ⟨_, rfl⟩
 obtain ⟨y, hy⟩ : ∃ x, cutN b (wideN wide) = x := ⟨_, rfl⟩
 rw [hx] at ha
 rw [hy] at hb HP
 have HX := η hx
 have HY := η hy
 clear hx hy
 obtain ⟨rfl, h⟩ := h
 have HS := fun n (hn : wid n) => η (sign_rng hn hb.1 hb.2)
 rcases h with rfl | rfl | ⟨rfl, rfl⟩
 ·cases wide
  all_goals
   simp only [wideN, Bool.false_eq_true, if_false, if_true] at HX HY HP
   go_enter Tryz.func138, Tryz.ntmps138
   go_wp2_with fail
   refine (r_cut a _ _ (by simp [wid]) h0).mono ?_
   rintro e w1 ⟨rfl, rfl⟩
   rw [HX.out]
   go_wp2_with fail
   refine (r_cut b _ _ (by simp [wid]) k0).mono ?_
   rintro e w1 ⟨rfl, rfl⟩
   rw [HY.out]
   go_wp2_with fail
   refine (r_Sign y _ _ (by simp [wid]) hb.1 hb.2).mono ?_
   rintro e w1 ⟨rfl, rfl⟩
   go_wp2_with fail
   refine (r_cut _ _ _ (by simp [wid]) (HS _ (by simp [wid])).out.1).mono ?_
   rintro e w1 ⟨rfl, rfl⟩
   go_wp2_with fail
   go_returns
   exact ⟨by simp [aluN, wideN, HX.out, HY.out], by (repeat (first|exact xE0 _|assumption|refine xE1 ?_ _|refine xE2 ?_|refine xE3 ?_ _|refine xE4 ?_ (by assumption)))⟩
 ·cases wide
  all_goals
   simp only [wideN, Bool.false_eq_true, if_false, if_true] at HX HY HP
   go_enter Tryz.func138, Tryz.ntmps138
   go_wp2_with fail
   refine (r_cut a _ _ (by simp [wid]) h0).mono ?_
   rintro e w1 ⟨rfl, rfl⟩
   rw [HX.out]
   go_wp2_with fail
   refine (r_cut b _ _ (by simp [wid]) k0).mono ?_
   rintro e w1 ⟨rfl, rfl⟩
   rw [HY.out]
   go_wp2_with fail
   refine (r_Sign y _ _ (by simp [wid]) hb.1 hb.2).mono ?_
   rintro e w1 ⟨rfl, rfl⟩
   go_wp2_with fail
   refine (r_cut _ _ _ (by simp [wid]) (HS _ (by simp [wid])).out.1).mono ?_
   rintro e w1 ⟨rfl, rfl⟩
   go_wp2_with fail
   go_returns
   exact ⟨by simp [aluN, wideN, HX.out, HY.out], by (repeat (first|exact xE0 _|assumption|refine xE1 ?_ _|refine xE2 ?_|refine xE3 ?_ _|refine xE4 ?_ (by assumption)))⟩
 ·simp only [wideN, Bool.false_eq_true, if_false, if_true] at HX HY HP
  go_enter Tryz.func138, Tryz.ntmps138
  go_wp2_with fail
  refine (r_cut a _ _ (by simp [wid]) h0).mono ?_
  rintro e w1 ⟨rfl, rfl⟩
  rw [HX.out]
  go_wp2_with fail
  refine (r_cut b _ _ (by simp [wid]) k0).mono ?_
  rintro e w1 ⟨rfl, rfl⟩
  rw [HY.out]
  go_wp2_with fail
  refine (r_Sign y _ _ (by simp [wid]) hb.1 hb.2).mono ?_
  rintro e w1 ⟨rfl, rfl⟩
  go_wp2_with fail
  refine (r_cut _ _ _ (by simp [wid]) (HS _ (by simp [wid])).out.1).mono ?_
  rintro e w1 ⟨rfl, rfl⟩
  go_wp2_with fail
  go_returns
  exact ⟨by simp [aluN, wideN, HX.out, HY.out], by (repeat (first|exact xE0 _|assumption|refine xE1 ?_ _|refine xE2 ?_|refine xE3 ?_ _|refine xE4 ?_ (by assumption)))⟩
theorem r_do (op : Int) (wide : Bool) (off a b : Int) (w : World) (h : doOk op wide off) (h0 : 0 ≤ a) (h1 : a ≤ 18446744073709551615) (k0 : 0 ≤ b) (k1 : b ≤ 18446744073709551615) :
  Calls Tryz.prog 138 #[.int .u8 op, .bool wide, .int .i16 off, .int .u64 a, .int .u64 b] w (AluA (aluN op wide off a b) w) := by
 rcases h with h | h | h | h
 ·exact r_do_raw op wide off a b w h h0 h1 k0 k1
 ·exact r_do_arsh op wide off a b w h h0 h1 k0 k1
 ·exact r_do_div op wide off a b w h h0 h1 k0 k1
 ·exact r_do_mov op wide off a b w h h0 h1 k0 k1
def condOk (op : Int) : Prop := op = 16 ∨ op = 80 ∨ op = 32 ∨ op = 48 ∨ op = 160 ∨ op = 176 ∨ op = 96 ∨ op = 112 ∨ op = 192 ∨ op = 208 ∨ op = 64
def topN (x n : Int) : Int := IntKind.u64.wrap (signN x n + 9223372036854775808)
def isN (op n x y : Int) : Bool :=
 if op = 16 then x == y else if op = 80 then x != y else if op = 32 then decide (x > y) else if op = 48 then decide (x ≥ y) else if op = 160 then decide (x < y) else if op = 176 then decide (x ≤ y)
 else if op = 96 then decide (topN x n > topN y n) else if op = 112 then decide (topN x n ≥ topN y n) else if op = 192 then decide (topN x n < topN y n) else if op = 208 then decide (topN x n ≤ topN y n)
 else bits .and .u64 x y != 0
def condN (op : Int) (wide : Bool) (a b : Int) : Bool := isN op (wideN wide) (if wide then a else a % 4294967296) (if wide then b else b % 4294967296)
set_option maxRecDepth 20000 in
set_option maxHeartbeats 8000000 in
theorem r_is (op : Int) (wide : Bool) (a b : Int) (w : World) (h : condOk op) (h0 : 0 ≤ a) (h1 : a ≤ 18446744073709551615) (k0 : 0 ≤ b) (k1 : b ≤ 18446744073709551615) :
  Calls Tryz.prog 107 #[.int .u8 op, .bool wide, .int .u64 a, .int .u64 b] w fun e w' => e = .returned (.tuple #[.bool (condN op wide a b), .int .i64 0]) ∧ Ext w w' := by
 obtain ⟨x, hx⟩ : ∃ x, (if wide then a else a % 4294967296) = x := ⟨_, rfl⟩
 obtain ⟨y, hy⟩ : ∃ x, (if wide then b else b % 4294967296) = x := ⟨_, rfl⟩
 have hx1 : 0 ≤ x ∧ x ≤ 18446744073709551615 := by subst hx; split <;> omega
 have hy1 : 0 ≤ y ∧ y ≤ 18446744073709551615 := by subst hy; split <;> omega
 have hp := sign_rng (wide_wid wide) hx1.1 hx1.2
 have hq := sign_rng (wide_wid wide) hy1.1 hy1.2
 obtain ⟨p, hp'⟩ : ∃ p, signN x (wideN wide) = p := ⟨_, rfl⟩
 obtain ⟨q, hq'⟩ : ∃ p, signN y (wideN wide) = p := ⟨_, rfl⟩
 rw [hp'] at hp
 rw [hq'] at hq
 unfold condN
 rw [hx, hy]
 have HX := η hx
 have HY := η hy
 have HP := η hp'
 have HQ := η hq'
 clear hx hy hp' hq'
 rcases h with rfl | rfl | rfl | rfl | rfl | rfl | rfl | rfl | rfl | rfl | rfl <;> cases wide
 all_goals
  simp only [wideN, Bool.false_eq_true, if_false, if_true] at HX HY HP HQ
  go_enter Tryz.func107, Tryz.ntmps107
  go_wp2_with fail
  try simp only [HX.out, HY.out]
  refine (r_Sign _ _ _ (by simp [wid]) (by first | (rw [HX.out]; exact hx1.1) | exact hx1.1 | omega) (by first | (rw [HX.out]; exact hx1.2) | exact hx1.2 | omega)).mono ?_
  rintro e w1 ⟨rfl, rfl⟩
  try rw [HX.out]
  rw [HP.out]
  go_wp2_with fail
  try simp only [HY.out]
  refine (r_Sign _ _ _ (by simp [wid]) (by first | (rw [HY.out]; exact hy1.1) | exact hy1.1 | omega) (by first | (rw [HY.out]; exact hy1.2) | exact hy1.2 | omega)).mono ?_
  rintro e w1 ⟨rfl, rfl⟩
  try rw [HY.out]
  rw [HQ.out]
  go_wp2_with fail
  go_returns
  exact ⟨by simp [isN, topN, wideN, HP.out, HQ.out, bne], by (repeat (first|exact xE0 _|assumption|refine xE1 ?_ _|refine xE2 ?_|refine xE3 ?_ _|refine xE4 ?_ (by assumption)))⟩
theorem r_Long (x y : Ins) (w : World) (hx : x.Ok) (hy : y.Ok) : Calls Tryz.prog 101 #[x.agg, y.agg] w fun e w' => e = .returned (.int .u64 (x.imm % 4294967296 + 4294967296 * (y.imm % 4294967296))) ∧ Ext w w' := by
 have HX := η hx.imm
 have HY := η hy.imm
 go_enter Tryz.func101, Tryz.ntmps101
 go_wp2_with fail
 go_returns
 exact ⟨rfl, by (repeat (first|exact xE0 _|assumption|refine xE1 ?_ _|refine xE2 ?_|refine xE3 ?_ _|refine xE4 ?_ (by assumption)))⟩
end Go.Proofs.YtppefchjoodgnaaGreat
