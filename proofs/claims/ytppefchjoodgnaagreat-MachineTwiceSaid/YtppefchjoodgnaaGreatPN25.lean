/- What the claim leans on: AuE · AuF · PmC. -/
import Derived.Test.YtppefchjoodgnaaGreatPN24
import Derived.Test.YtppefchjoodgnaaGreatPN14
import Derived.Test.YtppefchjoodgnaaGreatPN13
import Derived.Test.YtppefchjoodgnaaGreatPN23
import Derived.Test.YtppefchjoodgnaaGreatPN21
namespace Go.Proofs.YtppefchjoodgnaaGreat
open Go.RowKit
set_option linter.unusedVariables false
set_option linter.unusedSimpArgs false
theorem and_split (k a c m d : Nat) (ha : a < 2 ^ k) (hm : m < 2 ^ k) : (a + 2 ^ k * c) &&& (m + 2 ^ k * d) = (a &&& m) + 2 ^ k * (c &&& d) := by
 have h1 := Nat.and_mod_two_pow (a := a + 2 ^ k * c) (b := m + 2 ^ k * d) (n := k)
 have h2 := Nat.and_div_two_pow (a := a + 2 ^ k * c) (b := m + 2 ^ k * d) (n := k)
 rw [Nat.add_mul_mod_self_left, Nat.add_mul_mod_self_left, Nat.mod_eq_of_lt ha, Nat.mod_eq_of_lt hm] at h1
 rw [Nat.add_mul_div_left _ _ (Nat.two_pow_pos k), Nat.add_mul_div_left _ _ (Nat.two_pow_pos k), Nat.div_eq_of_lt ha, Nat.div_eq_of_lt hm, Nat.zero_add, Nat.zero_add] at h2
 have := Nat.mod_add_div ((a + 2 ^ k * c) &&& (m + 2 ^ k * d)) (2 ^ k)
 rw [h1, h2] at this
 exact this.symm
theorem or_split (k a c m d : Nat) (ha : a < 2 ^ k) (hm : m < 2 ^ k) : (a + 2 ^ k * c) ||| (m + 2 ^ k * d) = (a ||| m) + 2 ^ k * (c ||| d) := by
 have h1 := Nat.or_mod_two_pow (a := a + 2 ^ k * c) (b := m + 2 ^ k * d) (n := k)
 have h2 := Nat.or_div_two_pow (a := a + 2 ^ k * c) (b := m + 2 ^ k * d) (n := k)
 rw [Nat.add_mul_mod_self_left, Nat.add_mul_mod_self_left, Nat.mod_eq_of_lt ha, Nat.mod_eq_of_lt hm] at h1
 rw [Nat.add_mul_div_left _ _ (Nat.two_pow_pos k), Nat.add_mul_div_left _ _ (Nat.two_pow_pos k), Nat.div_eq_of_lt ha, Nat.div_eq_of_lt hm, Nat.zero_add, Nat.zero_add] at h2
 have := Nat.mod_add_div ((a + 2 ^ k * c) ||| (m + 2 ^ k * d)) (2 ^ k)
 rw [h1, h2] at this
 exact this.symm
def b8 (a b c d e f g h : Nat) : Nat := a + 2 ^ 8 * (b + 2 ^ 8 * (c + 2 ^ 8 * (d + 2 ^ 8 * (e + 2 ^ 8 * (f + 2 ^ 8 * (g + 2 ^ 8 * h))))))
theorem and8 {a b c d e f g h a' b' c' d' e' f' g' h' : Nat} (h0 : a < 2 ^ 8) (h1 : b < 2 ^ 8) (h2 : c < 2 ^ 8) (h3 : d < 2 ^ 8) (h4 : e < 2 ^ 8) (h5 : f < 2 ^ 8) (h6 : g < 2 ^ 8) (k0 : a' < 2 ^ 8) (k1 : b' < 2 ^ 8) (k2 : c' < 2 ^ 8) (k3 : d' < 2 ^ 8) (k4 : e' < 2 ^ 8) (k5 : f' < 2 ^ 8) (k6 : g' < 2 ^ 8) :
  b8 a b c d e f g h &&& b8 a' b' c' d' e' f' g' h' = b8 (a &&& a') (b &&& b') (c &&& c') (d &&& d') (e &&& e') (f &&& f') (g &&& g') (h &&& h') := by
 unfold b8
 rw [and_split _ _ _ _ _ h0 k0, and_split _ _ _ _ _ h1 k1, and_split _ _ _ _ _ h2 k2, and_split _ _ _ _ _ h3 k3, and_split _ _ _ _ _ h4 k4, and_split _ _ _ _ _ h5 k5, and_split _ _ _ _ _ h6 k6]
theorem or8 {a b c d e f g h a' b' c' d' e' f' g' h' : Nat} (h0 : a < 2 ^ 8) (h1 : b < 2 ^ 8) (h2 : c < 2 ^ 8) (h3 : d < 2 ^ 8) (h4 : e < 2 ^ 8) (h5 : f < 2 ^ 8) (h6 : g < 2 ^ 8) (k0 : a' < 2 ^ 8) (k1 : b' < 2 ^ 8) (k2 : c' < 2 ^ 8) (k3 : d' < 2 ^ 8) (k4 : e' < 2 ^ 8) (k5 : f' < 2 ^ 8) (k6 : g' < 2 ^ 8) :
  b8 a b c d e f g h ||| b8 a' b' c' d' e' f' g' h' = b8 (a ||| a') (b ||| b') (c ||| c') (d ||| d') (e ||| e') (f ||| f') (g ||| g') (h ||| h') := by
 unfold b8
 rw [or_split _ _ _ _ _ h0 k0, or_split _ _ _ _ _ h1 k1, or_split _ _ _ _ _ h2 k2, or_split _ _ _ _ _ h3 k3, or_split _ _ _ _ _ h4 k4, or_split _ _ _ _ _ h5 k5, or_split _ _ _ _ _ h6 k6]
theorem and255 {a : Nat} (h : a < 2 ^ 8) : a &&& 255 = a := by rw [show (255 : Nat) = 2 ^ 8 - 1 from rfl, Nat.and_two_pow_sub_one_eq_mod]; exact Nat.mod_eq_of_lt h
theorem b8_of (x : Nat) (h : x < 18446744073709551616) : ∃ a b c d e f g h, x = b8 a b c d e f g h ∧ a < 2 ^ 8 ∧ b < 2 ^ 8 ∧ c < 2 ^ 8 ∧ d < 2 ^ 8 ∧ e < 2 ^ 8 ∧ f < 2 ^ 8 ∧ g < 2 ^ 8 ∧ h < 2 ^ 8 :=
 ⟨x % 256, x / 256 % 256, x / 65536 % 256, x / 16777216 % 256, x / 4294967296 % 256, x / 1099511627776 % 256, x / 281474976710656 % 256, x / 72057594037927936, by unfold b8; omega, by omega, by omega, by omega, by omega, by omega, by omega, by omega, by omega⟩
set_option maxHeartbeats 8000000 in
theorem rev8 {a b c d e f g h : Nat} (h0 : a < 2 ^ 8) (h1 : b < 2 ^ 8) (h2 : c < 2 ^ 8) (h3 : d < 2 ^ 8) (h4 : e < 2 ^ 8) (h5 : f < 2 ^ 8) (h6 : g < 2 ^ 8) (h7 : h < 2 ^ 8) (w : World) :
  Calls Tryz.prog 179 #[.int .u64 (b8 a b c d e f g h : Nat)] w fun e1 w' => e1 = .returned (.int .u64 (b8 h g f e d c b a : Nat)) ∧ w' = w := by
 have q1 : bits .and .u64 (((b8 a b c d e f g h : Nat) : Int) / 256) 71777214294589695 = ((b8 b 0 d 0 f 0 h 0 : Nat) : Int) := by
  have e1 : (((b8 a b c d e f g h : Nat) : Int) / 256) = ((b8 b c d e f g h 0 : Nat) : Int) := by unfold b8; omega
  have e2 : (71777214294589695 : Int) = ((b8 255 0 255 0 255 0 255 0 : Nat) : Int) := by simp [b8]
  rw [e1, e2, bits_and_u64_nat _ _ (by unfold b8; omega) (by simp [b8]), and8 h1 h2 h3 h4 h5 h6 h7 (by decide) (by decide) (by decide) (by decide) (by decide) (by decide) (by decide), and255 h1, and255 h3, and255 h5, and255 h7]
  simp only [Nat.and_zero]
 have q2 : bits .and .u64 ((b8 a b c d e f g h : Nat) : Int) 71777214294589695 = ((b8 a 0 c 0 e 0 g 0 : Nat) : Int) := by
  have e2 : (71777214294589695 : Int) = ((b8 255 0 255 0 255 0 255 0 : Nat) : Int) := by simp [b8]
  rw [e2, bits_and_u64_nat _ _ (by unfold b8; omega) (by simp [b8]), and8 h0 h1 h2 h3 h4 h5 h6 (by decide) (by decide) (by decide) (by decide) (by decide) (by decide) (by decide), and255 h0, and255 h2, and255 h4, and255 h6]
  simp only [Nat.and_zero]
 have q3 : IntKind.u64.wrap (((b8 a 0 c 0 e 0 g 0 : Nat) : Int) * 256) = ((b8 0 a 0 c 0 e 0 g : Nat) : Int) := by rw [IntKind.wrap_u64]; unfold b8; omega
 have q4 : bits .or .u64 ((b8 b 0 d 0 f 0 h 0 : Nat) : Int) ((b8 0 a 0 c 0 e 0 g : Nat) : Int) = ((b8 b a d c f e h g : Nat) : Int) := by
  rw [bits_or_u64_nat _ _ (by unfold b8; omega) (by unfold b8; omega), or8 h1 (by decide) h3 (by decide) h5 (by decide) h7 (by decide) h0 (by decide) h2 (by decide) h4 (by decide)]
  simp only [Nat.or_zero, Nat.zero_or]
 have q5 : bits .and .u64 (((b8 b a d c f e h g : Nat) : Int) / 65536) 281470681808895 = ((b8 d c 0 0 h g 0 0 : Nat) : Int) := by
  have e1 : (((b8 b a d c f e h g : Nat) : Int) / 65536) = ((b8 d c f e h g 0 0 : Nat) : Int) := by unfold b8; omega
  have e2 : (281470681808895 : Int) = ((b8 255 255 0 0 255 255 0 0 : Nat) : Int) := by simp [b8]
  rw [e1, e2, bits_and_u64_nat _ _ (by unfold b8; omega) (by simp [b8]), and8 h3 h2 h5 h4 h7 h6 (by decide) (by decide) (by decide) (by decide) (by decide) (by decide) (by decide) (by decide), and255 h3, and255 h2, and255 h7, and255 h6]
  simp only [Nat.and_zero]
 have q6 : bits .and .u64 ((b8 b a d c f e h g : Nat) : Int) 281470681808895 = ((b8 b a 0 0 f e 0 0 : Nat) : Int) := by
  have e2 : (281470681808895 : Int) = ((b8 255 255 0 0 255 255 0 0 : Nat) : Int) := by simp [b8]
  rw [e2, bits_and_u64_nat _ _ (by unfold b8; omega) (by simp [b8]), and8 h1 h0 h3 h2 h5 h4 h7 (by decide) (by decide) (by decide) (by decide) (by decide) (by decide) (by decide), and255 h1, and255 h0, and255 h5, and255 h4]
  simp only [Nat.and_zero]
 have q7 : IntKind.u64.wrap (((b8 b a 0 0 f e 0 0 : Nat) : Int) * 65536) = ((b8 0 0 b a 0 0 f e : Nat) : Int) := by rw [IntKind.wrap_u64]; unfold b8; omega
 have q8 : bits .or .u64 ((b8 d c 0 0 h g 0 0 : Nat) : Int) ((b8 0 0 b a 0 0 f e : Nat) : Int) = ((b8 d c b a h g f e : Nat) : Int) := by
  rw [bits_or_u64_nat _ _ (by unfold b8; omega) (by unfold b8; omega), or8 h3 h2 (by decide) (by decide) h7 h6 (by decide) (by decide) (by decide) h1 h0 (by decide) (by decide) h5]
  simp only [Nat.or_zero, Nat.zero_or]
 have q9 : (((b8 d c b a h g f e : Nat) : Int) / 4294967296) = ((b8 h g f e 0 0 0 0 : Nat) : Int) := by unfold b8; omega
 have q10 : IntKind.u64.wrap (((b8 d c b a h g f e : Nat) : Int) * 4294967296) = ((b8 0 0 0 0 d c b a : Nat) : Int) := by rw [IntKind.wrap_u64]; unfold b8; omega
 have q11 : bits .or .u64 ((b8 h g f e 0 0 0 0 : Nat) : Int) ((b8 0 0 0 0 d c b a : Nat) : Int) = ((b8 h g f e d c b a : Nat) : Int) := by
  rw [bits_or_u64_nat _ _ (by unfold b8; omega) (by unfold b8; omega), or8 h7 h6 h5 h4 (by decide) (by decide) (by decide) (by decide) (by decide) (by decide) (by decide) h3 h2 h1]
  simp only [Nat.or_zero, Nat.zero_or]
 go_enter Tryz.func179, Tryz.ntmps179
 go_wp2_with fail
 go_returns
 exact ⟨rfl, rfl⟩
theorem revN_step {k : Nat} {b x o : Int} (hb : 0 ≤ b) (hb2 : b < 256) (ho : 0 ≤ o) (h : o * 256 + b < 18446744073709551616) : revN (k + 1) (b + 256 * x) o = revN k x (o * 256 + b) := by
 rw [revN]
 have e1 : (b + 256 * x) / 256 = x := by omega
 have e2 : (b + 256 * x) % 256 = b := by omega
 rw [e1, e2, Int.emod_eq_of_lt (by omega) h]
theorem swap16 {b0 b1 : Int} (h0 : 0 ≤ b0) (k0 : b0 < 256) (h1 : 0 ≤ b1) (k1 : b1 < 256) : revN 2 (b0 + 256 * b1) 0 = b0 * 256 + b1 := by
 rw [revN_step h0 k0 (by omega) (by omega), show b1 = b1 + 256 * 0 by omega, revN_step h1 k1 (by omega) (by omega), revN]
 omega
theorem swap32 {b0 b1 b2 b3 : Int} (h0 : 0 ≤ b0) (k0 : b0 < 256) (h1 : 0 ≤ b1) (k1 : b1 < 256) (h2 : 0 ≤ b2) (k2 : b2 < 256) (h3 : 0 ≤ b3) (k3 : b3 < 256) : revN 4 (b0 + 256 * (b1 + 256 * (b2 + 256 * b3))) 0 = ((b0 * 256 + b1) * 256 + b2) * 256 + b3 := by
 rw [revN_step h0 k0 (by omega) (by omega), revN_step h1 k1 (by omega) (by omega), revN_step h2 k2 (by omega) (by omega), show b3 = b3 + 256 * 0 by omega, revN_step h3 k3 (by omega) (by omega), revN]
 omega
theorem swap64 {b0 b1 b2 b3 b4 b5 b6 b7 : Int} (h0 : 0 ≤ b0) (k0 : b0 < 256) (h1 : 0 ≤ b1) (k1 : b1 < 256) (h2 : 0 ≤ b2) (k2 : b2 < 256) (h3 : 0 ≤ b3) (k3 : b3 < 256) (h4 : 0 ≤ b4) (k4 : b4 < 256) (h5 : 0 ≤ b5) (k5 : b5 < 256) (h6 : 0 ≤ b6) (k6 : b6 < 256) (h7 : 0 ≤ b7) (k7 : b7 < 256) :
  revN 8 (b0 + 256 * (b1 + 256 * (b2 + 256 * (b3 + 256 * (b4 + 256 * (b5 + 256 * (b6 + 256 * b7))))))) 0 = ((((((b0 * 256 + b1) * 256 + b2) * 256 + b3) * 256 + b4) * 256 + b5) * 256 + b6) * 256 + b7 := by
 rw [revN_step h0 k0 (by omega) (by omega), revN_step h1 k1 (by omega) (by omega), revN_step h2 k2 (by omega) (by omega), revN_step h3 k3 (by omega) (by omega), revN_step h4 k4 (by omega) (by omega), revN_step h5 k5 (by omega) (by omega), revN_step h6 k6 (by omega) (by omega), show b7 = b7 + 256 * 0 by omega, revN_step h7 k7 (by omega) (by omega), revN]
 omega
theorem rev_swap (n a : Int) (hn : n = 16 ∨ n = 32 ∨ n = 64) (h0 : 0 ≤ a) (h1 : a ≤ 18446744073709551615) : ∃ b0 b1 b2 b3 b4 b5 b6 b7 : Nat, IntKind.u64.wrap (a * 2 ^ (64 - n).toNat) = (b8 b0 b1 b2 b3 b4 b5 b6 b7 : Nat) ∧ b0 < 2 ^ 8 ∧ b1 < 2 ^ 8 ∧ b2 < 2 ^ 8 ∧ b3 < 2 ^ 8 ∧ b4 < 2 ^ 8 ∧ b5 < 2 ^ 8 ∧ b6 < 2 ^ 8 ∧ b7 < 2 ^ 8 ∧ ((b8 b7 b6 b5 b4 b3 b2 b1 b0 : Nat) : Int) % 2 ^ n.toNat = swapN true n a := by
 obtain ⟨m, rfl⟩ := Int.eq_ofNat_of_zero_le h0
 rcases hn with rfl | rfl | rfl
 ·obtain ⟨b0, hb0⟩ : ∃ b, m % 256 = b := ⟨_, rfl⟩
  obtain ⟨b1, hb1⟩ : ∃ b, m / 256 % 256 = b := ⟨_, rfl⟩
  refine ⟨0, 0, 0, 0, 0, 0, b0, b1, ?_, by omega, by omega, by omega, by omega, by omega, by omega, by omega, by omega, ?_⟩
  ·rw [IntKind.wrap_u64]; unfold b8; simp; omega
  ·have e1 : cutN (m : Int) 16 = (b0 : Int) + 256 * (b1 : Int) := by unfold cutN; simp; omega
   unfold swapN
   rw [if_pos rfl, e1, show ((16 : Int) / 8).toNat = 2 from rfl, swap16 (by omega) (by omega) (by omega) (by omega)]
   unfold b8
   simp
   omega
 ·obtain ⟨b0, hb0⟩ : ∃ b, m % 256 = b := ⟨_, rfl⟩
  obtain ⟨b1, hb1⟩ : ∃ b, m / 256 % 256 = b := ⟨_, rfl⟩
  obtain ⟨b2, hb2⟩ : ∃ b, m / 65536 % 256 = b := ⟨_, rfl⟩
  obtain ⟨b3, hb3⟩ : ∃ b, m / 16777216 % 256 = b := ⟨_, rfl⟩
  refine ⟨0, 0, 0, 0, b0, b1, b2, b3, ?_, by omega, by omega, by omega, by omega, by omega, by omega, by omega, by omega, ?_⟩
  ·rw [IntKind.wrap_u64]; unfold b8; simp; omega
  ·have e1 : cutN (m : Int) 32 = (b0 : Int) + 256 * ((b1 : Int) + 256 * ((b2 : Int) + 256 * (b3 : Int))) := by unfold cutN; simp; omega
   unfold swapN
   rw [if_pos rfl, e1, show ((32 : Int) / 8).toNat = 4 from rfl, swap32 (by omega) (by omega) (by omega) (by omega) (by omega) (by omega) (by omega) (by omega)]
   unfold b8
   simp
   omega
 ·obtain ⟨b0, b1, b2, b3, b4, b5, b6, b7, e, h⟩ := b8_of m (by omega)
  refine ⟨b0, b1, b2, b3, b4, b5, b6, b7, ?_, h.1, h.2.1, h.2.2.1, h.2.2.2.1, h.2.2.2.2.1, h.2.2.2.2.2.1, h.2.2.2.2.2.2.1, h.2.2.2.2.2.2.2, ?_⟩
  ·rw [IntKind.wrap_u64, ← e]; simp; omega
  ·obtain ⟨g0, g1, g2, g3, g4, g5, g6, g7⟩ := h
   have e1 : cutN (m : Int) 64 = (b0 : Int) + 256 * ((b1 : Int) + 256 * ((b2 : Int) + 256 * ((b3 : Int) + 256 * ((b4 : Int) + 256 * ((b5 : Int) + 256 * ((b6 : Int) + 256 * (b7 : Int))))))) := by
    rw [show cutN (m : Int) 64 = m from rfl, e]; unfold b8; omega
   unfold swapN
   rw [if_pos rfl, e1, show ((64 : Int) / 8).toNat = 8 from rfl, swap64 (by omega) (by omega) (by omega) (by omega) (by omega) (by omega) (by omega) (by omega) (by omega) (by omega) (by omega) (by omega) (by omega) (by omega) (by omega) (by omega)]
   unfold b8
   simp
   omega
theorem and_low {x : Int} {k : Nat} (hk : k ≤ 63) (h0 : 0 ≤ x) (h1 : x ≤ 18446744073709551615) : bits .and .u64 x (2 ^ k - 1) = x % 2 ^ k := by
 have hp : (2 : Nat) ^ k < 18446744073709551616 := Nat.lt_of_lt_of_le (Nat.pow_lt_pow_right (by decide) (show k < 64 by omega)) (Nat.le_refl _)
 have hq : 0 < (2 : Nat) ^ k := Nat.two_pow_pos k
 have h := bits_and_u64_nat x.toNat (2 ^ k - 1) (by omega) (by omega)
 rw [Nat.and_two_pow_sub_one_eq_mod, Int.toNat_of_nonneg h0] at h
 have e1 : ((2 ^ k - 1 : Nat) : Int) = 2 ^ k - 1 := by rw [Int.natCast_sub (by omega)]; simp
 rw [e1] at h
 rw [h]
 have : ((x.toNat % 2 ^ k : Nat) : Int) = (x.toNat : Int) % 2 ^ k := by simp
 rw [this, Int.toNat_of_nonneg h0]
theorem p_swap (t : Bool) (n a : Int) (w : World) (hn : n = 16 ∨ n = 32 ∨ n = 64) (h0 : 0 ≤ a) (h1 : a ≤ 18446744073709551615) :
  Calls Tryz.prog 135 #[.bool t, .int .i64 n, .int .u64 a] w fun e w' => e = .returned (.tuple #[.int .u64 (swapN t n a), .int .i64 0]) ∧ Ext w w' := by
 cases t
 ·rcases hn with rfl | rfl | rfl
  all_goals
   go_enter Tryz.func135, Tryz.ntmps135
   go_wp2_with fail
   go_returns
   refine ⟨retDo ?_, Ext.rfl' _⟩
   unfold swapN cutN
   simp
   all_goals (try rw [IntKind.wrap_u64])
   all_goals (try omega)
 ·obtain ⟨b0, b1, b2, b3, b4, b5, b6, b7, hx, g0, g1, g2, g3, g4, g5, g6, g7, hv⟩ := rev_swap n a hn h0 h1
  have hr : (((b8 b7 b6 b5 b4 b3 b2 b1 b0 : Nat) : Int)) ≤ 18446744073709551615 ∧ (0 : Int) ≤ ((b8 b7 b6 b5 b4 b3 b2 b1 b0 : Nat) : Int) := by unfold b8; omega
  have HR := η (fun W => (rev8 g0 g1 g2 g3 g4 g5 g6 g7 W).mono fun e w' ⟨he, hw⟩ => (show e = _ ∧ Ext W w' from ⟨he, by rw [hw]; exact Ext.rfl' _⟩))
  obtain ⟨y, hy⟩ : ∃ y : Int, ((b8 b7 b6 b5 b4 b3 b2 b1 b0 : Nat) : Int) = y := ⟨_, rfl⟩
  obtain ⟨x, hxx⟩ : ∃ x : Int, ((b8 b0 b1 b2 b3 b4 b5 b6 b7 : Nat) : Int) = x := ⟨_, rfl⟩
  rw [hy] at HR hv hr
  rw [hxx] at HR hx
  have HV := η hv
  clear hv hy hxx g0 g1 g2 g3 g4 g5 g6 g7
  rcases hn with rfl | rfl | rfl
  ·have hx' : IntKind.u64.wrap (a * 281474976710656) = x := hx
   have ha : bits .and .u64 y 65535 = y % 65536 := and_low (k := 16) (by decide) hr.2 hr.1
   have HV2 : Hid (y % 65536 = swapN true 16 a) := HV
   clear hx HV
   go_enter Tryz.func135, Tryz.ntmps135
   go_wp2_with fail
   (refine wp_region_grow (by kernel_rfl) (by kernel_rfl) ?_; (repeat (go_big_quiet_step (((go_at_call 179; exact Calls.grow (HR.out _)))))); refine wpQuiet_nil ?_; rintro wz ⟨nz, hz⟩; have hwq := nz.ext; rw [← hz] at hwq; clear hz)
   go_wp2_with fail
   go_returns
   exact ⟨retDo HV2.out, by (repeat (first|exact xE0 _|assumption|refine xE1 ?_ _|refine xE2 ?_|refine xE3 ?_ _|refine xE4 ?_ (by assumption)))⟩
  ·have hx' : IntKind.u64.wrap (a * 4294967296) = x := hx
   have ha : bits .and .u64 y 4294967295 = y % 4294967296 := and_low (k := 32) (by decide) hr.2 hr.1
   have HV2 : Hid (y % 4294967296 = swapN true 32 a) := HV
   clear hx HV
   go_enter Tryz.func135, Tryz.ntmps135
   go_wp2_with fail
   (refine wp_region_grow (by kernel_rfl) (by kernel_rfl) ?_; (repeat (go_big_quiet_step (((go_at_call 179; exact Calls.grow (HR.out _)))))); refine wpQuiet_nil ?_; rintro wz ⟨nz, hz⟩; have hwq := nz.ext; rw [← hz] at hwq; clear hz)
   go_wp2_with fail
   go_returns
   exact ⟨retDo HV2.out, by (repeat (first|exact xE0 _|assumption|refine xE1 ?_ _|refine xE2 ?_|refine xE3 ?_ _|refine xE4 ?_ (by assumption)))⟩
  ·have hM : IntKind.u64.wrap (IntKind.u64.wrap 18446744073709551616 - 1) = 18446744073709551615 := by rw [IntKind.wrap_u64, IntKind.wrap_u64]; rfl
   have hx' : IntKind.u64.wrap a = x := by rw [← hx]; congr 1; simp
   have ha : bits .and .u64 y 18446744073709551615 = y := by
    have h := bits_and_u64_nat y.toNat 18446744073709551615 (by omega) (by decide)
    rw [show (18446744073709551615 : Nat) = 2 ^ 64 - 1 from rfl, Nat.and_two_pow_sub_one_eq_mod, Int.toNat_of_nonneg hr.2] at h
    exact h.trans (by omega)
   have HV2 : Hid (y = swapN true 64 a) := η (by rw [← HV.out]; simp; omega)
   clear hx HV
   go_enter Tryz.func135, Tryz.ntmps135
   go_wp2_with fail
   (refine wp_region_grow (by kernel_rfl) (by kernel_rfl) ?_; (repeat (go_big_quiet_step (((go_at_call 179; exact Calls.grow (HR.out _)))))); refine wpQuiet_nil ?_; rintro wz ⟨nz, hz⟩; have hwq := nz.ext; rw [← hz] at hwq; clear hz)
   go_wp2_with fail
   go_returns
   exact ⟨retDo HV2.out, by (repeat (first|exact xE0 _|assumption|refine xE1 ?_ _|refine xE2 ?_|refine xE3 ?_ _|refine xE4 ?_ (by assumption)))⟩
def cmpN (x y : Int) : Int := if x < y then -1 else if y < x then 1 else 0
theorem p_nanU (x : Int) (w : World) : Calls Tryz.prog 200 #[.int .u64 x] w fun e w' => e = .returned (.bool false) ∧ w' = w := by
 have hx : (x != x) = false := by simp
 go_enter Tryz.func200, Tryz.ntmps200
 go_wp2_with fail
 go_returns
 exact ⟨rfl, rfl⟩
theorem p_nanI (x : Int) (w : World) : Calls Tryz.prog 201 #[.int .i64 x] w fun e w' => e = .returned (.bool false) ∧ w' = w := by
 have hx : (x != x) = false := by simp
 go_enter Tryz.func201, Tryz.ntmps201
 go_wp2_with fail
 go_returns
 exact ⟨rfl, rfl⟩
theorem p_cmpU (x y : Int) (w : World) : Calls Tryz.prog 180 #[.int .u64 x, .int .u64 y] w fun e w' => e = .returned (.int .i64 (cmpN x y)) ∧ w' = w := by
 have h3 : x < y ∨ y < x ∨ x = y := by omega
 have hx : (x != x) = false := by simp
 have hy : (y != y) = false := by simp
 rcases h3 with h | h | h
 ·have e1 : cmpN x y = -1 := by unfold cmpN; rw [if_pos h]
  rw [e1]
  go_enter Tryz.func180, Tryz.ntmps180
  go_wp2_with (go_at_call 200; refine (p_nanU _ _).mono ?_; rintro e w1 ⟨rfl, rfl⟩)
  go_returns
  exact ⟨rfl, rfl⟩
 ·have e1 : cmpN x y = 1 := by unfold cmpN; rw [if_neg (by omega), if_pos h]
  have h' : ¬ x < y := by omega
  rw [e1]
  go_enter Tryz.func180, Tryz.ntmps180
  go_wp2_with (go_at_call 200; refine (p_nanU _ _).mono ?_; rintro e w1 ⟨rfl, rfl⟩)
  go_returns
  exact ⟨rfl, rfl⟩
 ·subst h
  have e1 : cmpN x x = 0 := by unfold cmpN; simp
  rw [e1]
  go_enter Tryz.func180, Tryz.ntmps180
  go_wp2_with (go_at_call 200; refine (p_nanU _ _).mono ?_; rintro e w1 ⟨rfl, rfl⟩)
  go_returns
  exact ⟨rfl, rfl⟩
theorem p_cmpI (x y : Int) (w : World) : Calls Tryz.prog 181 #[.int .i64 x, .int .i64 y] w fun e w' => e = .returned (.int .i64 (cmpN x y)) ∧ w' = w := by
 have h3 : x < y ∨ y < x ∨ x = y := by omega
 have hx : (x != x) = false := by simp
 have hy : (y != y) = false := by simp
 rcases h3 with h | h | h
 ·have e1 : cmpN x y = -1 := by unfold cmpN; rw [if_pos h]
  rw [e1]
  go_enter Tryz.func181, Tryz.ntmps181
  go_wp2_with (go_at_call 201; refine (p_nanI _ _).mono ?_; rintro e w1 ⟨rfl, rfl⟩)
  go_returns
  exact ⟨rfl, rfl⟩
 ·have e1 : cmpN x y = 1 := by unfold cmpN; rw [if_neg (by omega), if_pos h]
  have h' : ¬ x < y := by omega
  rw [e1]
  go_enter Tryz.func181, Tryz.ntmps181
  go_wp2_with (go_at_call 201; refine (p_nanI _ _).mono ?_; rintro e w1 ⟨rfl, rfl⟩)
  go_returns
  exact ⟨rfl, rfl⟩
 ·subst h
  have e1 : cmpN x x = 0 := by unfold cmpN; simp
  rw [e1]
  go_enter Tryz.func181, Tryz.ntmps181
  go_wp2_with (go_at_call 201; refine (p_nanI _ _).mono ?_; rintro e w1 ⟨rfl, rfl⟩)
  go_returns
  exact ⟨rfl, rfl⟩
def ordN (op o : Int) : Bool :=
 if op = 16 then o == 0 else if op = 80 then o != 0 else if op = 48 ∨ op = 112 then o == 0 || o == 1 else if op = 32 ∨ op = 96 then o == 1
 else if op = 176 ∨ op = 208 then o == 0 || o == -1 else o == -1
theorem p_compared (op o : Int) (w : World) (ho : o = -1 ∨ o = 0 ∨ o = 1) (h : op = 16 ∨ op = 80 ∨ op = 32 ∨ op = 48 ∨ op = 160 ∨ op = 176 ∨ op = 96 ∨ op = 112 ∨ op = 192 ∨ op = 208) :
  Calls Tryz.prog 182 #[.int .u8 op, .int .i64 o] w fun e w' => e = .returned (.tuple #[.bool (ordN op o), .bool true]) ∧ w' = w := by
 rcases ho with rfl | rfl | rfl <;> rcases h with rfl | rfl | rfl | rfl | rfl | rfl | rfl | rfl | rfl | rfl
 all_goals
  go_enter Tryz.func182, Tryz.ntmps182
  go_wp2_with fail
  go_returns
  exact ⟨rfl, rfl⟩
theorem cmp0 (x y : Int) : (cmpN x y == 0) = (x == y) := by
 unfold cmpN
 by_cases h : x < y
 ·rw [if_pos h]; have : x ≠ y := by omega
  simp [this]
 ·rw [if_neg h]
  by_cases h2 : y < x
  ·rw [if_pos h2]; have : x ≠ y := by omega
   simp [this]
  ·rw [if_neg h2]; have : x = y := by omega
   simp [this]
theorem cmp1 (x y : Int) : (cmpN x y == 1) = decide (y < x) := by
 unfold cmpN
 by_cases h : x < y
 ·rw [if_pos h]; have : ¬ y < x := by omega
  simp [this]
 ·rw [if_neg h]
  by_cases h2 : y < x
  ·rw [if_pos h2]; simp [h2]
  ·rw [if_neg h2]; simp [h2]
theorem cmpM (x y : Int) : (cmpN x y == -1) = decide (x < y) := by
 unfold cmpN
 by_cases h : x < y
 ·rw [if_pos h]; simp [h]
 ·rw [if_neg h]
  by_cases h2 : y < x
  ·rw [if_pos h2]; simp [h]
  ·rw [if_neg h2]; simp [h]
theorem cmpR (x y : Int) : cmpN x y = -1 ∨ cmpN x y = 0 ∨ cmpN x y = 1 := by
 unfold cmpN
 split
 ·exact .inl rfl
 ·split
  ·exact .inr (.inr rfl)
  ·exact .inr (.inl rfl)
theorem le_or (x y : Int) : (x == y || decide (y < x)) = decide (x ≥ y) := by
 rw [Bool.eq_iff_iff]; simp; omega
theorem ge_or (x y : Int) : (x == y || decide (x < y)) = decide (x ≤ y) := by
 rw [Bool.eq_iff_iff]; simp; omega
theorem top64 {p : Int} (h0 : 0 ≤ p) (h1 : p ≤ 18446744073709551615) : IntKind.u64.wrap (p + 9223372036854775808) = wrap64 p + 9223372036854775808 := by
 rw [IntKind.wrap_u64]; unfold wrap64; omega
set_option maxRecDepth 20000 in
set_option maxHeartbeats 8000000 in
theorem p_is (op : Int) (wide : Bool) (a b : Int) (w : World) (h : condOk op) (h0 : 0 ≤ a) (h1 : a ≤ 18446744073709551615) (k0 : 0 ≤ b) (k1 : b ≤ 18446744073709551615) :
  Calls Tryz.prog 136 #[.int .u8 op, .bool wide, .int .u64 a, .int .u64 b] w fun e w' => e = .returned (.tuple #[.bool (condN op wide a b), .int .i64 0]) ∧ Ext w w' := by
 obtain ⟨x, hx⟩ : ∃ x, (if wide then a else a % 4294967296) = x := ⟨_, rfl⟩
 obtain ⟨y, hy⟩ : ∃ x, (if wide then b else b % 4294967296) = x := ⟨_, rfl⟩
 have hx1 : 0 ≤ x ∧ x ≤ 18446744073709551615 := by subst hx; split <;> omega
 have hy1 : 0 ≤ y ∧ y ≤ 18446744073709551615 := by subst hy; split <;> omega
 have hp := sign_rng (wide_wid wide) hx1.1 hx1.2
 have hq := sign_rng (wide_wid wide) hy1.1 hy1.2
 obtain ⟨p, hp'⟩ : ∃ p, signN x (wideN wide) = p := ⟨_, rfl⟩
 obtain ⟨q, hq'⟩ : ∃ p, signN y (wideN wide) = p := ⟨_, rfl⟩
 rw [hp'] at hp
 rw [hq'] at hq
 have ht1 := top64 hp.1 hp.2
 have ht2 := top64 hq.1 hq.2
 have HSX := η (fun W => p_Sign x (wideN wide) W (wide_wid wide) hx1.1 hx1.2)
 have HSY := η (fun W => p_Sign y (wideN wide) W (wide_wid wide) hy1.1 hy1.2)
 rw [hp'] at HSX
 rw [hq'] at HSY
 have hv : condN op wide a b = if op = 64 then bits .and .u64 x y != 0 else ordN op (if op = 96 ∨ op = 112 ∨ op = 192 ∨ op = 208 then cmpN (wrap64 p) (wrap64 q) else cmpN x y) := by
  unfold condN isN topN
  rw [hx, hy, hp', hq', ht1, ht2]
  unfold ordN
  rcases h with rfl | rfl | rfl | rfl | rfl | rfl | rfl | rfl | rfl | rfl | rfl
  all_goals simp only [show ∀ m n : Int, (m = n) = (m = n) from fun _ _ => rfl]
  all_goals simp [bne, cmp0, cmp1, cmpM, le_or, ge_or]
  all_goals (try first | omega | (rw [Bool.eq_iff_iff]; simp; omega))
 rw [hv]
 have HX := η hx
 have HY := η hy
 clear hx hy hp' hq' hv ht1 ht2
 have HC1 := η (cmpR x y)
 have HC2 := η (cmpR (wrap64 p) (wrap64 q))
 by_cases h64 : op = 64
 ·subst h64
  rw [if_pos rfl]
  cases wide
  all_goals
   simp only [Bool.false_eq_true, if_false, if_true] at HX HY
   go_enter Tryz.func136, Tryz.ntmps136
   go_wp2_with fail
   try simp only [HX.out, HY.out]
   go_returns
   exact ⟨rfl, Ext.rfl' _⟩
 ·rw [if_neg h64]
  have HO1 := η (fun W => p_compared op (cmpN x y) W HC1.out (by unfold condOk at h; omega))
  have HO2 := η (fun W => p_compared op (cmpN (wrap64 p) (wrap64 q)) W HC2.out (by unfold condOk at h; omega))
  by_cases hs : op = 96 ∨ op = 112 ∨ op = 192 ∨ op = 208
  ·rw [if_pos hs]
   clear h h64 HO1
   rcases hs with rfl | rfl | rfl | rfl <;> cases wide
   all_goals
    simp only [wideN, Bool.false_eq_true, if_false, if_true] at HX HY HSX HSY
    go_enter Tryz.func136, Tryz.ntmps136
    go_wp2_with fail
    try simp only [HX.out, HY.out]
    refine (p_cmpU x y _).mono ?_
    rintro e w1 ⟨rfl, rfl⟩
    go_wp2_with fail
    refine (HSX.out _).mono ?_
    rintro e w1 ⟨rfl, rfl⟩
    go_wp2_with fail
    refine (HSY.out _).mono ?_
    rintro e w1 ⟨rfl, rfl⟩
    go_wp2_with fail
    refine (p_cmpI _ _ _).mono ?_
    rintro e w1 ⟨rfl, rfl⟩
    go_wp2_with fail
    refine (HO2.out _).mono ?_
    rintro e w1 ⟨rfl, rfl⟩
    go_wp2_with fail
    go_returns
    exact ⟨rfl, by (repeat (first|exact xE0 _|assumption|refine xE1 ?_ _|refine xE2 ?_|refine xE3 ?_ _|refine xE4 ?_ (by assumption)))⟩
  ·rw [if_neg hs]
   have h6 : op = 16 ∨ op = 80 ∨ op = 32 ∨ op = 48 ∨ op = 160 ∨ op = 176 := by unfold condOk at h; omega
   clear h h64 hs HO2
   rcases h6 with rfl | rfl | rfl | rfl | rfl | rfl <;> cases wide
   all_goals
    simp only [wideN, Bool.false_eq_true, if_false, if_true] at HX HY
    go_enter Tryz.func136, Tryz.ntmps136
    go_wp2_with fail
    try simp only [HX.out, HY.out]
    refine (p_cmpU x y _).mono ?_
    rintro e w1 ⟨rfl, rfl⟩
    go_wp2_with fail
    refine (HO1.out _).mono ?_
    rintro e w1 ⟨rfl, rfl⟩
    go_wp2_with fail
    go_returns
    exact ⟨rfl, by (repeat (first|exact xE0 _|assumption|refine xE1 ?_ _|refine xE2 ?_|refine xE3 ?_ _|refine xE4 ?_ (by assumption)))⟩
theorem sign_imm {a : Int} (h : -2147483648 ≤ a ∧ a ≤ 2147483647) : signN (a % 4294967296) 32 = IntKind.u64.wrap (wrap64 a) := by
 have e : wrap64 a = a := by unfold wrap64; omega
 rw [e]
 simp only [signN, cutN, halfN, IntKind.wrap, IntKind.bits, IntKind.signed]
 simp
 split <;> omega
theorem sign_off {a : Int} (h : -32768 ≤ a ∧ a ≤ 32767) : signN (a % 65536) 16 = IntKind.u64.wrap (wrap64 a) := by
 have e : wrap64 a = a := by unfold wrap64; omega
 rw [e]
 simp only [signN, cutN, halfN, IntKind.wrap, IntKind.bits, IntKind.signed]
 simp
 split <;> omega
theorem p_imm (x : Ins) (w : World) (hx : x.Ok) : Calls Tryz.prog 175 #[x.agg] w fun e w' => e = .returned (.int .u64 (immN x)) ∧ w' = w.alloc (insObj x) := by
 have HX := η (sign_imm hx.imm)
 unfold immN
 rw [HX.out]
 clear HX
 go_enter Tryz.func175, Tryz.ntmps175
 go_wp2_with fail
 go_returns
 exact ⟨rfl, rfl⟩
theorem p_where (n : Int) (x : Ins) (w : World) (hx : x.Ok) : Calls Tryz.prog 129 #[.int .u64 n, x.agg] w fun e w' => e = .returned (.int .u64 (IntKind.u64.wrap (n + signN (x.off % 65536) 16))) ∧ w' = w.alloc (insObj x) := by
 have HX := η (sign_off hx.off)
 rw [HX.out]
 clear HX
 go_enter Tryz.func129, Tryz.ntmps129
 go_wp2_with fail
 go_returns
 exact ⟨rfl, rfl⟩
section
variable {F0 Z0 : List Nat} {wf w w' : World} {base mb : Nat} {σ : RS}
theorem PRel.cell1 (h : PRel F0 Z0 wf base w mb σ) (i : Nat) (v : Value) {σ' : RS} (hc : ∀ l, (pCells σ l).set i v = pCells σ' l) (hV : σ'.V = σ.V := by rfl) (hL : σ'.L = σ.L := by rfl) (hD : σ'.D = σ.D := by rfl) (hd : σ'.dr = σ.dr := by rfl) (hcl : σ'.calls = σ.calls := by rfl) : PRel F0 Z0 wf base (w.setCell ⟨mb, i, none⟩ v) mb σ' := by
 refine h.turn ((Keep.rfl' _ _).setCell (by simp) v) (fun l hl => ?_) hV hL hD hd hcl
 have := heap_setCell_same w mb i _ _ v hl.head
 rw [← hc l]
 simpa using this
theorem PRel.setR (h : PRel F0 Z0 wf base w mb σ) {d : Nat} (hd : d ≤ 10) (n : Int) : PRel F0 Z0 wf base ((w.setCell ⟨mb, 1 + 2 * d, none⟩ (.int .u64 n)).setCell ⟨mb, 2 + 2 * d, none⟩ (.bool true)) mb (σ.setR d n) :=
 (h.cell1 (1 + 2 * d) _ (fun l => pset_R σ l hd n)).cell1 (2 + 2 * d) _ (fun l => pset_S { σ with R := updN σ.R d n } l hd true)
def PAns (F0 Z0 : List Nat) (wf : World) (base mb : Nat) (σ : RS) (r : Value) (e : Ending) (w' : World) : Prop := e = .returned r ∧ PRel F0 Z0 wf base w' mb σ
theorem p_becomes0 (x : Ins) (n : Int) (h : PRel F0 Z0 wf base w mb σ) (d : Nat) (hxd : x.dst = d) (hd : d ≤ 10) :
  Calls Tryz.prog 93 #[.pointer (some ⟨mb, 0, none⟩), x.agg, .int .u64 n, .int .i64 0] w (PAns F0 Z0 wf base mb (σ.setR d n) (.int .i64 0)) := by
 obtain ⟨op, dst, src, off, imm⟩ := x
 simp only at hxd
 subst hxd
 have HM := η h
 obtain ⟨h0, hl, l, h1, h2, h3⟩ := h
 have HA := η h1
 clear h0 hl h1 h2 h3
 have hd1 : (d : Int) ≤ 10 := by omega
 have hd2 : 0 ≤ (d : Int) := by omega
 have hd3 : (d : Int) < 11 := by omega
 go_enter Tryz.func93, Tryz.ntmps93
 go_upto_region 2 with fail
 have HX := η (obj_top w (insObj ⟨op, d, src, off, imm⟩) rfl)
 have HE : Hid (Ext w (w.alloc (insObj ⟨op, d, src, off, imm⟩))) := η (by (repeat (first|exact xE0 _|assumption|refine xE1 ?_ _|refine xE2 ?_|refine xE3 ?_ _|refine xE4 ?_ (by assumption))))
 simp only [insObj] at HX HE
 generalize hF : w.alloc (.cells #[.int .u8 op, .int .u8 d, .int .u8 src, .int .i16 off, .int .i32 imm] 58) = wa at HX HE ⊢
 clear hF
 have HM1 := η (HM.out.go HE.out)
 have c1 := (HA.out.ext HE.out).cell _ (pcell_R σ l hd)
 have c2 := (HA.out.ext HE.out).cell _ (pcell_S σ l hd)
 have mf := fun i => frozen_obj (i := i) (HA.out.ext HE.out).head
 have hlt := HM1.out.lt
 have hlt0 := HM.out.lt
 generalize w.heap.size = q at HX hlt0 ⊢
 have x1 := cO (i := 1) HX.out
 simp only [gA, gB, gC] at x1
 have HS := η (HM1.out.setR hd n)
 rw [show 1 + 2 * d = 1 + d * 2 by omega] at c1
 rw [show 2 + 2 * d = 1 + d * 2 + 1 by omega] at c2
 rw [show 1 + 2 * d = 1 + d * 2 by omega, show 2 + 2 * d = 1 + d * 2 + 1 by omega] at HS
 clear HX
 go_region
 all_goals
  go_wp2_with fail
  go_returns
  exact ⟨rfl, HS.out.go (by (repeat (first|exact xE0 _|assumption|refine xE1 ?_ _|refine xE2 ?_|refine xE3 ?_ _|refine xE4 ?_ (by assumption))))⟩
theorem p_becomesE (x : Ins) (n e0 : Int) (he : e0 ≠ 0) (w : World) :
  Calls Tryz.prog 93 #[.pointer (some ⟨mb, 0, none⟩), x.agg, .int .u64 n, .int .i64 e0] w fun e w' => e = .returned (.int .i64 e0) ∧ Ext w w' := by
 go_enter Tryz.func93, Tryz.ntmps93
 go_wp2_with fail
 go_returns
 exact ⟨rfl, by (repeat (first|exact xE0 _|assumption|refine xE1 ?_ _|refine xE2 ?_|refine xE3 ?_ _|refine xE4 ?_ (by assumption)))⟩
def bothOk (σ : RS) (x : Ins) (k : Wh) : Bool := (σ.second x k).2 && (σ.S x.dst.toNat || (k.kind == 1 && k.op == 176))
set_option maxHeartbeats 4000000 in
theorem p_both (x : Ins) (k : Wh) (h : PRel F0 Z0 wf base w mb σ) (hx : x.Ok) (d s : Nat) (hxd : x.dst = d) (hd : d ≤ 10) (hxs : x.src = s) (hs : s ≤ 10) :
  Calls Tryz.prog 133 #[.pointer (some ⟨mb, 0, none⟩), x.agg, k.agg] w fun e w' => e = .returned (.tuple #[.int .u64 (σ.R d), .int .u64 (σ.second x k).1, .bool (bothOk σ x k)]) ∧ Ext w w' := by
 have HI := η (fun W => p_imm x W hx)
 obtain ⟨op, dst, src, off, imm⟩ := x
 obtain ⟨kind, kop, wide, reg, sg, size⟩ := k
 simp only at hxd hxs
 subst hxd
 subst hxs
 have HM := η h
 obtain ⟨h0, hl, l, h1, h2, h3⟩ := h
 have HA := η h1
 clear h0 hl h1 h2 h3 hx
 have hd1 : (d : Int) ≤ 10 := by omega
 have hd2 : 0 ≤ (d : Int) := by omega
 have hd3 : (d : Int) < 11 := by omega
 have hs1 : (s : Int) ≤ 10 := by omega
 have hs2 : 0 ≤ (s : Int) := by omega
 have hs3 : (s : Int) < 11 := by omega
 simp only [bothOk, RS.second, Int.toNat_natCast]
 generalize hq : immN ⟨op, d, s, off, imm⟩ = im at HI ⊢
 clear hq
 simp only [insObj] at HI
 go_enter Tryz.func133, Tryz.ntmps133
 go_upto_region 1 with fail
 have HX := η (obj_old (whObj ⟨kind, kop, wide, reg, sg, size⟩) (obj_top w (insObj ⟨op, d, s, off, imm⟩) rfl))
 have HW := η (obj_top (w.alloc (insObj ⟨op, d, s, off, imm⟩)) (whObj ⟨kind, kop, wide, reg, sg, size⟩) (k := w.heap.size + 1) (by simp))
 have HE1 : Hid (Ext w ((w.alloc (insObj ⟨op, d, s, off, imm⟩)).alloc (whObj ⟨kind, kop, wide, reg, sg, size⟩))) := η (by (repeat (first|exact xE0 _|assumption|refine xE1 ?_ _|refine xE2 ?_|refine xE3 ?_ _|refine xE4 ?_ (by assumption))))
 have hBw : mb < w.heap.size := HM.out.lt
 simp only [insObj, whObj] at HX HW HE1
 generalize hF : (w.alloc (.cells #[.int .u8 op, .int .u8 d, .int .u8 s, .int .i16 off, .int .i32 imm] 58)).alloc (.cells #[.int .u8 kind, .int .u8 kop, .bool wide, .bool reg, .bool sg, .int .i64 size] 60) = wa at HX HW HE1 ⊢
 have HA1 := η (HA.out.ext HE1.out)
 clear hF
 generalize w.heap.size = q at HX HW hBw ⊢
 have hlq : q + 1 < wa.heap.size := heap_lt HW.out
 have x0 := cO (i := 0) HX.out
 have x1 := cO (i := 1) HX.out
 have x2 := cO (i := 2) HX.out
 have x3 := cO (i := 3) HX.out
 have x4 := cO (i := 4) HX.out
 have m1 := HA1.out.cell _ (pcell_R σ l hd)
 have m2 := HA1.out.cell _ (pcell_S σ l hd)
 have n1 := HA1.out.cell _ (pcell_R σ l hs)
 have n2 := HA1.out.cell _ (pcell_S σ l hs)
 simp only [gA, gB, gC] at x0 x1 x2 x3 x4
 rw [show 1 + 2 * d = 1 + d * 2 by omega] at m1
 rw [show 2 + 2 * d = 1 + d * 2 + 1 by omega] at m2
 rw [show 1 + 2 * s = 1 + s * 2 by omega] at n1
 rw [show 2 + 2 * s = 1 + s * 2 + 1 by omega] at n2
 have N1 := η n1
 have N2 := η n2
 clear n1 n2
 have hS : ∀ W, Ext wa W → (W.cell? ⟨q, 0, none⟩ = some (.int .u8 op) ∧ W.cell? ⟨q, 1, none⟩ = some (.int .u8 d) ∧ W.cell? ⟨q, 2, none⟩ = some (.int .u8 s) ∧ W.cell? ⟨q, 3, none⟩ = some (.int .i16 off) ∧ W.cell? ⟨q, 4, none⟩ = some (.int .i32 imm) ∧ W.cell? ⟨mb, 1 + d * 2, none⟩ = some (.int .u64 (σ.R d)) ∧ W.cell? ⟨mb, 1 + d * 2 + 1, none⟩ = some (.bool (σ.S d))) := fun W h =>
  ⟨h.cellOf x0, h.cellOf x1, h.cellOf x2, h.cellOf x3, h.cellOf x4, h.cellOf m1, h.cellOf m2⟩
 have HS := η hS
 clear hS
 go_cut [9, 10] from 11 to 21 (fun v9 v10 wx => ∃ p r : Nat, v9 = .pointer (some ⟨p, 0, none⟩) ∧ v10 = .pointer (some ⟨r, 0, none⟩) ∧ wa.heap.size ≤ r ∧ p ≠ r ∧ Hid (wx.heap[p]? = some (.cells #[.int .u64 (σ.R d), .bool (σ.S d)] 105 (0, 0)) ∧ wx.heap[r]? = some (.cells #[.int .u64 im, .bool true] 105 (0, 0)) ∧ Ext wa wx))
 case first =>
  go_region_held3 (fun w' => w'.cell? ⟨q, 0, none⟩ = some (.int .u8 op) ∧ w'.cell? ⟨q, 1, none⟩ = some (.int .u8 d) ∧ w'.cell? ⟨q, 2, none⟩ = some (.int .u8 s) ∧ w'.cell? ⟨q, 3, none⟩ = some (.int .i16 off) ∧ w'.cell? ⟨q, 4, none⟩ = some (.int .i32 imm) ∧ w'.cell? ⟨mb, 1 + d * 2, none⟩ = some (.int .u64 (σ.R d)) ∧ w'.cell? ⟨mb, 1 + d * 2 + 1, none⟩ = some (.bool (σ.S d)))
   (exact HS.out _ (by (repeat (first|exact xE0 _|assumption|refine xE1 ?_ _|refine xE2 ?_|refine xE3 ?_ _|refine Below.setCell ?_ (by first | (simp; done) | (simp; omega) | omega) _ | refine Ext.trans' ?_ (by assumption)))))
   ((go_at_call 175; refine (HI.out _).mono ?_; rintro e w5 ⟨rfl, rfl⟩))
  all_goals
   go_wp2_with fail
   go_meet
   refine ⟨_, _, rfl, rfl, by first | exact Nat.le_refl _ | omega | (simp; done) | (simp; omega), by first | omega | (simp; done) | (simp; omega), η ⟨?_, ?_, by (repeat (first|exact xE0 _|assumption|refine xE1 ?_ _|refine xE2 ?_|refine xE3 ?_ _|refine xE4 ?_ (by assumption)))⟩⟩
   ·(repeat (first | (refine obj_top _ _ ?_; simp; done) | refine obj_old _ ?_))
   ·(repeat (first | (refine obj_top _ _ ?_; simp; done) | refine obj_old _ ?_))
 case rest =>
  obtain ⟨p, r, rfl, rfl, hlr, hpr, HI2⟩ := hcut
  clear x0 x1 x2 x3 x4 m1 m2 HS HI
  have HE2 := η (HE1.out.trans' HI2.out.2.2)
  have p0 := cO (i := 0) HI2.out.1
  have p1 := cO (i := 1) HI2.out.1
  have r0 := cO (i := 0) HI2.out.2.1
  have r1 := cO (i := 1) HI2.out.2.1
  have y0 := cO (i := 0) (HI2.out.2.2.obj HW.out)
  have y1 := cO (i := 1) (HI2.out.2.2.obj HW.out)
  have y3 := cO (i := 3) (HI2.out.2.2.obj HW.out)
  have x2 := cO (i := 2) (HI2.out.2.2.obj HX.out)
  have n1 := HI2.out.2.2.cellOf N1.out
  have n2 := HI2.out.2.2.cellOf N2.out
  have rf := fun i => frozen_obj (i := i) HI2.out.2.1
  simp only [gA, gB, gC] at p0 p1 r0 r1 y0 y1 y3 x2
  have hrq : r ≠ q + 1 := by omega
  have hrw : w.heap.size ≤ r := by have := HE1.out.size; omega
  have hlc : r < wc.heap.size := heap_lt HI2.out.2.1
  cases reg with
  | false =>
   cases hSd : σ.S d <;> cases hk1 : (kind == 1) <;> rw [hSd] at p1
   all_goals
    go_wp2_with fail
    go_quiet (fail)
    go_wp2_with fail
    go_returns
    refine ⟨?_, by have := HE2.out; (repeat (first|exact xE0 _|assumption|refine xE1 ?_ _|refine xE2 ?_|refine xE3 ?_ _|refine xE4 ?_ (by assumption)))⟩
    simp [hSd, hk1]
  | true =>
   have HSW := η (heap_setCell_same _ r 1 _ _ (.bool (σ.S s)) (heap_setCell_same wc r 0 _ _ (.int .u64 (σ.R s)) HI2.out.2.1))
   have hEW : Ext w ((wc.setCell ⟨r, 0, none⟩ (.int .u64 (σ.R s))).setCell ⟨r, 1, none⟩ (.bool (σ.S s))) := by have := HE2.out; (repeat (first|exact xE0 _|assumption|refine xE1 ?_ _|refine xE2 ?_|refine xE3 ?_ _|refine Below.setCell ?_ (by first | (simp; done) | (simp; omega) | omega) _ | refine Ext.trans' ?_ (by assumption)))
   have HPW : Hid (((wc.setCell ⟨r, 0, none⟩ (.int .u64 (σ.R s))).setCell ⟨r, 1, none⟩ (.bool (σ.S s))).heap[p]? = some (.cells #[.int .u64 (σ.R d), .bool (σ.S d)] 105 (0, 0))) := η (by
    rw [heap_setCell_other _ _ _ _ hpr, heap_setCell_other _ _ _ _ hpr]; exact HI2.out.1)
   have HQW : Hid (((wc.setCell ⟨r, 0, none⟩ (.int .u64 (σ.R s))).setCell ⟨r, 1, none⟩ (.bool (σ.S s))).heap[q + 1]? = some (.cells #[.int .u8 kind, .int .u8 kop, .bool wide, .bool true, .bool sg, .int .i64 size] 60 (0, 0))) := η (by
    rw [heap_setCell_other _ _ _ _ (Ne.symm hrq), heap_setCell_other _ _ _ _ (Ne.symm hrq)]; exact HI2.out.2.2.obj HW.out)
   have HEW := η hEW
   clear hEW
   go_upto_region 3 with fail
   go_region
   all_goals
    have HEX := η HEW.out.drew
    generalize hG : ((wc.setCell ⟨r, 0, none⟩ (.int .u64 (σ.R s))).setCell ⟨r, 1, none⟩ (.bool (σ.S s))).drew = wd at HEX ⊢
    have P0 := cO (i := 0) (w := wd) (by rw [← hG]; exact HPW.out)
    have P1 := cO (i := 1) (w := wd) (by rw [← hG]; exact HPW.out)
    have R0 := cO (i := 0) (w := wd) (by rw [← hG]; exact HSW.out)
    have R1 := cO (i := 1) (w := wd) (by rw [← hG]; exact HSW.out)
    have Y0 := cO (i := 0) (w := wd) (by rw [← hG]; exact HQW.out)
    have Y1 := cO (i := 1) (w := wd) (by rw [← hG]; exact HQW.out)
    clear hG HPW HSW HQW p0 p1 r0 r1 y0 y1 y3 x2 n1 n2 rf
    simp only [gA, gB, gC] at P0 P1 Y0 Y1
    simp at R0 R1
    cases hSs : σ.S s <;> cases hSd : σ.S d <;> cases hk1 : (kind == 1) <;> rw [hSd] at P1 <;> rw [hSs] at R1
    all_goals
     go_wp2_with fail
     go_quiet (fail)
     go_wp2_with fail
     go_returns
     refine ⟨?_, by have := HEX.out; (repeat (first|exact xE0 _|assumption|refine xE1 ?_ _|refine xE2 ?_|refine xE3 ?_ _|refine xE4 ?_ (by assumption)))⟩
     simp [hSs, hSd, hk1]
end
end Go.Proofs.YtppefchjoodgnaaGreat
