/- MemParts: what its code does. -/
import Derived.Test.YtgllaiadllfliaaMemG
namespace Go.Proofs.Ytgllaiadllfliaa
open Go.RowKit
set_option linter.unusedVariables false
set_option linter.unusedSimpArgs false

/-- m bytes, none of them anything; all put. -/
def pA (m : Nat) : Ar := ⟨List.replicate m 0, List.replicate m true, false⟩
theorem pA_make (m : Nat) (hm : m ≤ 1024) : mmake [] 1 (List.replicate m 0) false false = ([(1, pA m)], 0) := by
  rw [mmake, if_neg (by simp), if_neg (by rw [List.length_replicate]; omega), List.map_replicate]; rfl
theorem pA_store (m : Nat) (n : Int) (o : Nat) (ho : o + 8 ≤ m) (hm : m ≤ 1024) : mstore [(1, pA m)] (mat 1 o) 8 n = ([(1, (pA m).write o (bytesOf n 8))], 0) :=
  mstore_at (n := n) (o := o) (k := 8) (M := [(1, pA m)]) (A := pA m) (a := 1) (by decide) (by decide) rfl (by simp only [pA, List.length_replicate]; omega) rfl rfl (by simp only [pA, List.length_replicate]; omega)
theorem pw_len (m : Nat) (n : Int) (o : Nat) (ho : o + 8 ≤ m) : ((pA m).write o (bytesOf n 8)).bytes.length = m := by
  simp only [Ar.write, pA]; rw [over_len _ _ _ (by rw [bytesOf_len, List.length_replicate]; omega), List.length_replicate]
theorem parts_read (m : Nat) (n : Int) (o i k : Nat) (ho : o + 8 ≤ m) (hm : m ≤ 1024) (hi : i + k ≤ 8) : mread [(1, (pA m).write o (bytesOf n 8))] (mat 1 ((o + i : Nat) : Int)) k = (bytesOf (n / 256 ^ i) k, 0) := by
  have hl := pw_len m n o ho
  rw [mread_at (A := (pA m).write o (bytesOf n 8)) (by decide) (by decide) rfl (by omega) (by omega)]
  have e1 : ((pA m).write o (bytesOf n 8)).put = List.replicate m true := by
    simp only [Ar.write, pA, map_true, bytesOf_len]
    exact over_rep _ _ _ _ (by omega)
  have e2 : cutL ((pA m).write o (bytesOf n 8)).bytes (o + i) k = bytesOf (n / 256 ^ i) k := by
    simp only [Ar.write, pA]
    rw [cutL_over _ _ _ _ _ (by rw [bytesOf_len, List.length_replicate]; omega) (by omega) (by rw [bytesOf_len]; omega), show o + i - o = i from by omega, cutL_bytes _ _ _ _ hi]
  rw [e1, e2, if_neg (by rw [cut_put]; simp)]
theorem parts_load (m : Nat) (n : Int) (o i : Nat) (ho : o + 8 ≤ m) (hm : m ≤ 1024) (hi : i + 4 ≤ 8) : mload [(1, (pA m).write o (bytesOf n 8))] (mat 1 ((o + i : Nat) : Int)) 4 = (n / 256 ^ i % 4294967296, 0) := by
  have h := mload_of (s := 4) rfl (parts_read m n o i 4 ho hm hi)
  rw [le_bytes] at h
  exact h
theorem or_halves {n : Int} (h0 : 0 ≤ n) (h1 : n ≤ 18446744073709551615) : bits .or .u64 (n % 4294967296) (n / 4294967296 % 4294967296 * 4294967296) = n := by
  obtain ⟨m, rfl⟩ := Int.eq_ofNat_of_zero_le h0
  have hm : m < 18446744073709551616 := by omega
  have e1 : (m : Int) % 4294967296 = ((m % 4294967296 : Nat) : Int) := by omega
  have e2 : (m : Int) / 4294967296 % 4294967296 * 4294967296 = ((2 ^ 32 * (m / 4294967296) : Nat) : Int) := by omega
  rw [e1, e2, bits_or_u64_nat _ _ (by omega) (by omega), Nat.or_comm, ← Nat.two_pow_add_eq_or_of_lt (show m % 4294967296 < 2 ^ 32 from by omega)]
  omega
def LawAns (w : World) (e : Ending) (w' : World) : Prop := e = .returned (.bool true) ∧ Ext w w'
set_option maxHeartbeats 1000000 in
theorem parts_any (n : Int) (o : Nat) (w : World) (hn : 0 ≤ n) (H : Hid (n ≤ 18446744073709551615)) (ho : o ≤ 255) :
    Calls Try.prog 3 #[.int .u64 n, .int .u8 o] w (LawAns w) := by
  have hmk : ∀ u : World, (Instr.makeSlice 28 (.int .i64 300) (.int .i64 300)).run Try.prog u = .ok (.slice (some ⟨u.heap.size, 0, none⟩) 300 300) (u.alloc (.cells (madeCells #[.int .u8 0] 300) 5)) := run_make_u8 300 (by decide)
  have hw1 : IntKind.i64.wrap (o : Int) = o := by simp only [IntKind.wrap_i64]; omega
  have hw2 : IntKind.i64.wrap ((o : Int) + 4) = ((o + 4 : Nat) : Int) := by simp only [IntKind.wrap_i64]; omega
  go_enter Try.func3, Try.ntmps3
  go_wp2_with fail
  refine (mem_shown w).mono ?_
  rintro e w1 ⟨rfl, he1⟩
  go_wp2_with fail
  refine (in_new he1).mono ?_
  rintro e w2 ⟨b, rfl, h2⟩
  have H2 := Lib.hid h2
  clear h2
  go_wp2_with fail
  refine (in_make (H2.out.go ((Ext.rfl' _).alloc' _)) 1 _ (List.replicate 300 0) false false (sl_made w2 300 (by decide)) (rep_u8 300)).mono ?_
  rintro e w3 ⟨rfl, h3⟩
  rw [pA_make 300 (by decide)] at h3 ⊢
  have H3 := Lib.hid h3
  clear h3 hmk
  go_wp2_with fail
  refine (in_at 1 o _).mono ?_
  rintro e w4 ⟨rfl, rfl⟩
  go_wp2_with fail
  refine (in_store H3.out (mat 1 o) 8 n (mat_le _ _).1 (Lib.hid (mat_le _ _).2) hn).mono ?_
  rintro e w5 ⟨rfl, h5⟩
  rw [pA_store 300 n o (by omega) (by decide)] at h5 ⊢
  have H5 := Lib.hid h5
  clear h5 H3 H2
  go_wp2_with fail
  refine (in_at 1 o _).mono ?_
  rintro e w6 ⟨rfl, rfl⟩
  go_wp2_with fail
  refine (in_load H5.out (mat 1 o) 4 (mat_le _ _).1 (Lib.hid (mat_le _ _).2)).mono ?_
  rintro e w7 ⟨rfl, h7⟩
  have H7 := Lib.hid h7
  clear h7
  have el := parts_load 300 n o 0 (by omega) (by decide) (by decide)
  rw [Nat.add_zero, Int.pow_zero, Int.ediv_one] at el
  rw [el]
  clear el
  go_wp2_with fail
  refine (in_at 1 ((o : Int) + 4) _).mono ?_
  rintro e w8 ⟨rfl, rfl⟩
  go_wp2_with fail
  refine (in_load H7.out (mat 1 ((o : Int) + 4)) 4 (mat_le _ _).1 (Lib.hid (mat_le _ _).2)).mono ?_
  rintro e w9 ⟨rfl, h9⟩
  have H9 := Lib.hid h9
  clear h9
  have el2 := parts_load 300 n o 4 (by omega) (by decide) (by decide)
  rw [show ((o + 4 : Nat) : Int) = (o : Int) + 4 from by omega] at el2
  rw [el2]
  go_wp2_with fail
  refine (in_at 1 o _).mono ?_
  rintro e w10 ⟨rfl, rfl⟩
  go_wp2_with fail
  refine (in_read H9.out (mat 1 o) 8 (mat_le _ _).1 (Lib.hid (mat_le _ _).2)).mono ?_
  rintro e w11 ⟨v, rfl, hv, h11, he11⟩
  have el := parts_read 300 n o 0 8 (by omega) (by decide) (by decide)
  rw [Nat.add_zero, Int.pow_zero, Int.ediv_one] at el
  have el' : mread [(1, (pA 300).write o (bytesOf n 8))] (mat 1 (o : Int)) 8 = (bytesOf n 8, 0) := el
  rw [el'] at hv ⊢
  have hR := hv.rd (enc_int _)
  obtain ⟨a, vn, vc, rfl, hvn, hVN⟩ := hR.val
  have hlen : vn = 8 := by rw [hVN.out]; exact bytesOf_len n 8
  subst hlen
  have HR := Lib.hid hR
  have hx := h11.ext
  clear hv hR el el' h11
  go_wp2_with fail
  go_loopw [76] (fun i wr => ∃ k : Nat, k ≤ 8 ∧ i = .int .i64 k ∧ wr = w11) (fun i _ => 8 - (intOf i).toNat)
  case atStart => exact ⟨0, Nat.zero_le _, rfl, rfl⟩
  case round =>
    obtain ⟨k, hk, rfl, rfl⟩ := hrel
    by_cases hlt : (k : Int) < 8
    · have hk8 : k < 8 := by omega
      have ia := fun W => HR.out.run_at (P := Try.prog) el_u8.under el_u8.size .i64 (k : Int) (by omega) (by omega) W
      have hg := bytes_at n 8 k
      rw [if_pos hk8] at hg
      have cc := HR.out.cell hg (j := 0) rfl
      simp only [Nat.mul_one, Nat.add_zero, Int.toNat_natCast] at ia cc
      have e256 : (2 : Int) ^ (8 * k) = 256 ^ k := by rw [Int.pow_mul]; rfl
      have hne : (n / 256 ^ k % 256 != n / 2 ^ (8 * k) % 256) = false := by rw [e256]; simp
      clear hg
      go_wp2_with fail
      go_roundw
      case rel => exact ⟨k + 1, by omega, by go_num, trivial⟩
      case measure => simp [intOf]; omega
    · have hk8 : k = 8 := by omega
      subst hk8
      go_wp2_with fail
      go_returns
      refine ⟨?_, hx⟩
      show Ending.returned (Value.bool (n == bits .or .u64 (n % 4294967296) (n / 4294967296 % 4294967296 * 4294967296))) = _
      rw [or_halves hn H.out]
      simp
theorem parts_any' (n o : Int) (w : World) (hn : 0 ≤ n) (H : Hid (n ≤ 18446744073709551615)) (ho : 0 ≤ o ∧ o ≤ 255) :
    Calls Try.prog 3 #[.int .u64 n, .int .u8 o] w (LawAns w) := by
  obtain ⟨m, rfl⟩ := Int.eq_ofNat_of_zero_le ho.1
  exact parts_any n m w hn H (by omega)
end Go.Proofs.Ytgllaiadllfliaa
