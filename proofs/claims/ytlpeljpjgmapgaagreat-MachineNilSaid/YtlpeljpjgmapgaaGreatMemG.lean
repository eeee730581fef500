/- Memory as plain data: what is read of what is stored. -/
import Derived.Test.YtlpeljpjgmapgaaGreatMemF
namespace Go.Proofs.YtlpeljpjgmapgaaGreat
open Go.RowKit
set_option linter.unusedVariables false
set_option linter.unusedSimpArgs false

theorem mat_parts {a : Int} {o : Nat} (h0 : 0 ≤ a) (h1 : a < 4294967296) (ho : o < 4294967296) : mat a o / 4294967296 = a ∧ mat a o % 4294967296 = o := by simp only [mat]; omega
theorem mfind_at {M : Areas} {A : Ar} {a s : Int} {o : Nat} (h0 : 0 ≤ a) (h1 : a < 4294967296) (ho : o < 4294967296) (hl : M.lookup a = some A) :
    mfind M (mat a o) s = if (A.bytes.length : Int) < o ∨ (A.bytes.length : Int) - o < s then none else some (A, o) := by
  obtain ⟨e1, e2⟩ := mat_parts h0 h1 ho
  simp only [mfind, e1, e2, hl, Int.toNat_natCast]
theorem mread_at {M : Areas} {A : Ar} {a : Int} {o k : Nat} (h0 : 0 ≤ a) (h1 : a < 4294967296) (hl : M.lookup a = some A) (hb : A.bytes.length ≤ 1024) (ho : o + k ≤ A.bytes.length) :
    mread M (mat a o) k = if (cutL A.put o k).contains false then ([], 81) else (cutL A.bytes o k, 0) := by
  rw [mread, if_neg (by omega), mfind_at h0 h1 (by omega) hl, if_neg (by omega)]
  simp only [Int.toNat_natCast]
theorem mread_off {M : Areas} {A : Ar} {a : Int} {o k : Nat} (h0 : 0 ≤ a) (h1 : a < 4294967296) (hl : M.lookup a = some A) (hb : A.bytes.length ≤ 1024) (hk : k ≤ 1024) (ho1 : o < 4294967296) (ho : ¬ o + k ≤ A.bytes.length) :
    mread M (mat a o) k = ([], 80) := by
  rw [mread, if_neg (by omega), mfind_at h0 h1 (by omega) hl, if_pos (by omega)]
theorem mstore_at {M : Areas} {A : Ar} {a n : Int} {o k : Nat} (h0 : 0 ≤ a) (h1 : a < 4294967296) (hl : M.lookup a = some A) (hb : A.bytes.length ≤ 1024) (hf : A.fixed = false) (hk : sized k = true) (ho : o + k ≤ A.bytes.length) :
    mstore M (mat a o) k n = (setKey M a (A.write o (bytesOf n k)), 0) := by
  obtain ⟨e1, e2⟩ := mat_parts h0 h1 (show o < 4294967296 by omega)
  rw [mstore, if_pos hk, mfind_at h0 h1 (by omega) hl, if_neg (by omega)]
  simp only [hf, e1, Int.toNat_natCast]
  rfl
theorem mstore_off {M : Areas} {A : Ar} {a n : Int} {o k : Nat} (h0 : 0 ≤ a) (h1 : a < 4294967296) (hl : M.lookup a = some A) (hk : sized k = true) (ho1 : o < 4294967296) (ho : ¬ o + k ≤ A.bytes.length) :
    mstore M (mat a o) k n = (M, 80) := by
  rw [mstore, if_pos hk, mfind_at h0 h1 (by omega) hl, if_pos (by omega)]

theorem cutL_len {α : Type} (l : List α) (o k : Nat) (h : o + k ≤ l.length) : (cutL l o k).length = k := by simp [cutL]; omega
theorem cutL_at {α : Type} (l : List α) (o k i : Nat) : (cutL l o k)[i]? = if i < k then l[o + i]? else none := by
  unfold cutL
  rw [List.getElem?_take]
  by_cases h : i < k
  · rw [if_pos h, if_pos h, List.getElem?_drop]
  · rw [if_neg h, if_neg h]
theorem cutL_over {α : Type} (l s : List α) (o i k : Nat) (h : o + s.length ≤ l.length) (h1 : o ≤ i) (h2 : i + k ≤ o + s.length) : cutL (over l o s) i k = cutL s (i - o) k := by
  apply List.ext_getElem?
  intro j
  rw [cutL_at, cutL_at]
  by_cases hj : j < k
  · rw [if_pos hj, if_pos hj, over_at _ _ _ _ h, if_neg (by omega), if_pos (by omega)]
    congr 1; omega
  · rw [if_neg hj, if_neg hj]
/-- What lies apart of what is stored is as it was. -/
theorem cutL_apart {α : Type} (l s : List α) (o i k : Nat) (h : o + s.length ≤ l.length) (h1 : i + k ≤ o ∨ o + s.length ≤ i) : cutL (over l o s) i k = cutL l i k := by
  apply List.ext_getElem?
  intro j
  rw [cutL_at, cutL_at]
  by_cases hj : j < k
  · rw [if_pos hj, if_pos hj, over_at _ _ _ _ h]
    rcases h1 with h1 | h1
    · rw [if_pos (by omega)]
    · rw [if_neg (by omega), if_neg (by omega)]
  · rw [if_neg hj, if_neg hj]
theorem cutL_all {α : Type} (l : List α) : cutL l 0 l.length = l := by simp [cutL]
theorem bytes_at (n : Int) (k i : Nat) : (bytesOf n k)[i]? = if i < k then some (n / 256 ^ i % 256) else none := by
  induction k generalizing n i with
  | zero => simp [bytesOf]
  | succ k ih =>
    cases i with
    | zero => simp [bytesOf]
    | succ i =>
      rw [bytesOf, List.getElem?_cons_succ, ih]
      by_cases h : i < k
      · rw [if_pos h, if_pos (by omega), Int.ediv_ediv_of_nonneg (by decide), Int.pow_succ, Int.mul_comm]
      · rw [if_neg h, if_neg (by omega)]
theorem cutL_bytes (n : Int) (K i k : Nat) (h : i + k ≤ K) : cutL (bytesOf n K) i k = bytesOf (n / 256 ^ i) k := by
  apply List.ext_getElem?
  intro j
  rw [cutL_at, bytes_at, bytes_at]
  by_cases hj : j < k
  · rw [if_pos hj, if_pos hj, if_pos (by omega), Int.ediv_ediv_of_nonneg (Int.pow_nonneg (by decide)), ← Int.pow_add]
  · rw [if_neg hj, if_neg hj]
theorem le_bytes (n : Int) (k : Nat) : le (bytesOf n k) = n % 256 ^ k := by
  induction k generalizing n with
  | zero => simp [bytesOf, le, Int.emod_one]
  | succ k ih =>
    rw [bytesOf, le, ih]
    have hp : (0 : Int) < 256 ^ k := Int.pow_pos (by decide)
    have e := Int.mul_ediv_add_emod n 256
    have e2 := Int.mul_ediv_add_emod (n / 256) (256 ^ k)
    have b1 := Int.emod_nonneg n (by decide : (256 : Int) ≠ 0)
    have b2 := Int.emod_lt_of_pos n (by decide : (0 : Int) < 256)
    have c1 := Int.emod_nonneg (n / 256) (Int.ne_of_gt hp)
    have c2 := Int.emod_lt_of_pos (n / 256) hp
    have e3 : n = (n % 256 + 256 * (n / 256 % 256 ^ k)) + 256 ^ (k + 1) * (n / 256 / 256 ^ k) := by
      rw [Int.pow_succ, Int.mul_comm (256 ^ k) 256, Int.mul_assoc]
      omega
    have e4 : n % 256 ^ (k + 1) = ((n % 256 + 256 * (n / 256 % 256 ^ k)) + 256 ^ (k + 1) * (n / 256 / 256 ^ k)) % 256 ^ (k + 1) := congrArg (· % 256 ^ (k + 1)) e3
    have key : ∀ r q m : Int, 0 ≤ r → r < m → (r + m * q) % m = r := fun r q m h1 h2 => by rw [Int.add_mul_emod_self_left, Int.emod_eq_of_lt h1 h2]
    exact (e4.trans (key _ _ _ (by omega) (by rw [Int.pow_succ]; omega))).symm
theorem over_rep {α : Type} (x : α) (n o k : Nat) (h : o + k ≤ n) : over (List.replicate n x) o (List.replicate k x) = List.replicate n x := by
  apply List.ext_getElem?
  intro i
  rw [over_at _ _ _ _ (by simp; omega)]
  simp only [List.getElem?_replicate, List.length_replicate]
  by_cases a1 : i < o
  · rw [if_pos a1]
  · rw [if_neg a1]
    by_cases a2 : i < o + k
    · rw [if_pos a2, if_pos (by omega), if_pos (by omega)]
    · rw [if_neg a2]
theorem cut_put (n o k : Nat) : (cutL (List.replicate n true) o k).contains false = false := by
  simp [cutL, List.take_replicate, List.drop_replicate]
theorem map_true {α : Type} (l : List α) : (l.map fun _ => true) = List.replicate l.length true := List.map_const' ..

theorem mload_of {M : Areas} {p s : Int} {xs : List Int} {e : Int} (hs : sized s = true) (h : mread M p s = (xs, e)) : mload M p s = (le xs, e) := by rw [mload, if_pos hs, h]
end Go.Proofs.YtlpeljpjgmapgaaGreat
