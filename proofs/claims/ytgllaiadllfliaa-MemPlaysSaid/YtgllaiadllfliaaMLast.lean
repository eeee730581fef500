/- MemLast: what its code does. -/
import Derived.Test.YtgllaiadllfliaaParts
import Derived.Deep.DeepCutAuto
namespace Go.Proofs.Ytgllaiadllfliaa
open Go.RowKit
set_option linter.unusedVariables false
set_option linter.unusedSimpArgs false

/-- The size that is picked: 1, 2, 4 or 8. -/
def Sized (k : Nat) : Prop := k = 1 ∨ k = 2 ∨ k = 4 ∨ k = 8
def Picked (o s : Int) (v11 v12 : Value) : Prop := ∃ q k : Nat, v11 = .int .i64 q ∧ v12 = .int .i64 k ∧ (q : Int) = o % 8 ∧ Sized k
theorem store_one {A : Ar} {z n : Int} {o k : Nat} (h0 : 0 ≤ z) (h1 : z < 4294967296) (hb : A.bytes.length ≤ 1024) (hf : A.fixed = false) (hk : sized k = true) (ho : o + k ≤ A.bytes.length) :
    mstore [(z, A)] (mat z o) k n = ([(z, A.write o (bytesOf n k))], 0) := by
  have hl : List.lookup z [(z, A)] = some A := by simp [List.lookup]
  rw [mstore_at h0 h1 hl hb hf hk ho]
  simp [setKey]
theorem read_one {A : Ar} {z : Int} {o k : Nat} (h0 : 0 ≤ z) (h1 : z < 4294967296) (hb : A.bytes.length ≤ 1024) (ho : o + k ≤ A.bytes.length) (hp : (cutL A.put o k).contains false = false) :
    mread [(z, A)] (mat z o) k = (cutL A.bytes o k, 0) := by
  have hl : List.lookup z [(z, A)] = some A := by simp [List.lookup]
  rw [mread_at h0 h1 hl hb ho, hp]; rfl
theorem write_len {A : Ar} {o : Nat} {xs : List Int} (h : o + xs.length ≤ A.bytes.length) : (A.write o xs).bytes.length = A.bytes.length := over_len _ _ _ h
theorem cut_rep (k : Nat) : cutL (List.replicate k true) 0 k = List.replicate k true := by simp [cutL]
theorem rep_has (k : Nat) : (List.replicate k true).contains false = false := by simp

/-- m bytes, none of them put. -/
def lA (m : Nat) : Ar := ⟨List.replicate m 0, List.replicate m false, false⟩
theorem lA_make (m : Nat) (hm : m ≤ 1024) : mmake [] 1 (List.replicate m 0) true false = ([(1, lA m)], 0) := by
  rw [mmake, if_neg (by simp), if_neg (by rw [List.length_replicate]; omega), List.map_replicate]; rfl
theorem last_store1 (a : Int) : mstore [(1, lA 16)] (mat 1 0) 8 a = ([(1, (lA 16).write 0 (bytesOf a 8))], 0) :=
  store_one (o := 0) (k := 8) (by decide) (by decide) (by simp [lA]) rfl rfl (by simp [lA])
theorem l1_len (a : Int) : ((lA 16).write 0 (bytesOf a 8)).bytes.length = 16 := by
  rw [write_len (by rw [bytesOf_len]; simp [lA])]; simp [lA]
theorem last_store2 (a b : Int) (q k : Nat) (hk : k ≤ 8) (hq : q < 8) (hs : sized k = true) : mstore [(1, (lA 16).write 0 (bytesOf a 8))] (mat 1 q) k b = ([(1, ((lA 16).write 0 (bytesOf a 8)).write q (bytesOf b k))], 0) :=
  store_one (by decide) (by decide) (by rw [l1_len]; decide) rfl hs (by rw [l1_len]; omega)
theorem l2_len (a b : Int) (q k : Nat) (hk : k ≤ 8) (hq : q < 8) : (((lA 16).write 0 (bytesOf a 8)).write q (bytesOf b k)).bytes.length = 16 := by
  rw [write_len (by rw [bytesOf_len, l1_len]; omega), l1_len]
theorem l1_put (a : Int) : ((lA 16).write 0 (bytesOf a 8)).put.length = 16 := by
  simp only [Ar.write, lA]; rw [over_len _ _ _ (by simp [bytesOf_len])]; simp
theorem last_load1 (a b : Int) (q k : Nat) (hk : k ≤ 8) (hq : q < 8) (hs : sized k = true) : mload [(1, ((lA 16).write 0 (bytesOf a 8)).write q (bytesOf b k))] (mat 1 q) k = (b % 256 ^ k, 0) := by
  have hl := l2_len a b q k hk hq
  have hp : cutL (((lA 16).write 0 (bytesOf a 8)).write q (bytesOf b k)).put q k = List.replicate k true := by
    simp only [Ar.write]
    rw [cutL_over _ _ _ _ _ (by have := l1_put a; simp only [Ar.write] at this; rw [List.length_map, bytesOf_len]; omega) (Nat.le_refl _) (by rw [List.length_map, bytesOf_len]; omega), map_true, bytesOf_len, Nat.sub_self, cut_rep]
  have hx : cutL (((lA 16).write 0 (bytesOf a 8)).write q (bytesOf b k)).bytes q k = bytesOf b k := by
    have h1 := l1_len a
    simp only [Ar.write] at h1 ⊢
    rw [cutL_over _ _ _ _ _ (by rw [bytesOf_len]; omega) (Nat.le_refl _) (by rw [bytesOf_len]; omega), Nat.sub_self, cutL_bytes _ _ _ _ (by omega), Int.pow_zero, Int.ediv_one]
  have h := mload_of hs (read_one (z := 1) (o := q) (k := k) (A := ((lA 16).write 0 (bytesOf a 8)).write q (bytesOf b k)) (by decide) (by decide) (by omega) (by omega) (by rw [hp]; exact rep_has k))
  rw [hx, le_bytes] at h
  exact h
theorem last_load2 (a b : Int) (q k i : Nat) (hk : k ≤ 8) (hq : q < 8) (hi : i < 8) : ∃ c, mload [(1, ((lA 16).write 0 (bytesOf a 8)).write q (bytesOf b k))] (mat 1 i) 1 = (c, 0) ∧ (i < q ∨ q + k ≤ i → c = a / 256 ^ i % 256) := by
  have hl := l2_len a b q k hk hq
  have h1 := l1_len a
  have h2 := l1_put a
  have hp : (cutL (((lA 16).write 0 (bytesOf a 8)).write q (bytesOf b k)).put i 1).contains false = false := by
    by_cases hin : i < q ∨ q + k ≤ i
    · simp only [Ar.write] at h2 ⊢
      rw [cutL_apart _ _ _ _ _ (by rw [List.length_map, bytesOf_len]; omega) (by rw [List.length_map, bytesOf_len]; omega), cutL_over _ _ _ _ _ (by rw [List.length_map, bytesOf_len]; simp [lA]) (by omega) (by rw [List.length_map, bytesOf_len]; omega), map_true]
      exact cut_put _ _ _
    · simp only [Ar.write] at h2 ⊢
      rw [cutL_over _ _ _ _ _ (by rw [List.length_map, bytesOf_len]; omega) (by omega) (by rw [List.length_map, bytesOf_len]; omega), map_true]
      exact cut_put _ _ _
  have h := mload_of (s := 1) rfl (read_one (z := 1) (o := i) (k := 1) (A := ((lA 16).write 0 (bytesOf a 8)).write q (bytesOf b k)) (by decide) (by decide) (by omega) (by omega) hp)
  refine ⟨_, h, fun hin => ?_⟩
  have hx : cutL (((lA 16).write 0 (bytesOf a 8)).write q (bytesOf b k)).bytes i 1 = bytesOf (a / 256 ^ i) 1 := by
    simp only [Ar.write] at h1 ⊢
    rw [cutL_apart _ _ _ _ _ (by rw [bytesOf_len]; omega) (by rw [bytesOf_len]; omega), cutL_over _ _ _ _ _ (by rw [bytesOf_len]; simp [lA]) (by omega) (by rw [bytesOf_len]; omega), Nat.sub_zero, cutL_bytes _ _ _ _ (by omega)]
  rw [hx, le_bytes]
  rfl
theorem and_low (b k : Nat) (hb : b < 18446744073709551616) (hk : Sized k) : bits .and .u64 (b : Int) (IntKind.u64.wrap (IntKind.u64.wrap (2 ^ (8 * k)) - 1)) = (b : Int) % 256 ^ k := by
  have key : ∀ n : Nat, n ≤ 64 → bits .and .u64 (b : Int) ((2 ^ n - 1 : Nat) : Int) = ((b % 2 ^ n : Nat) : Int) := by
    intro n hn
    have h1 : 2 ^ n ≤ 2 ^ 64 := Nat.pow_le_pow_right (by decide) hn
    rw [bits_and_u64_nat b _ (by omega) (by omega), Nat.and_two_pow_sub_one_eq_mod]
  rcases hk with rfl | rfl | rfl | rfl
  · exact key 8 (by decide)
  · exact key 16 (by decide)
  · exact key 32 (by decide)
  · have := key 64 (by decide)
    exact this
theorem mask {b : Int} {k : Nat} (h0 : 0 ≤ b) (h1 : b ≤ 18446744073709551615) (hk : Sized k) : (b % 256 ^ k != bits .and .u64 b (IntKind.u64.wrap (IntKind.u64.wrap (2 ^ (8 * k)) - 1))) = false := by
  obtain ⟨n, rfl⟩ := Int.eq_ofNat_of_zero_le h0
  rw [and_low n k (by omega) hk]
  simp
theorem mask_byte {a : Int} (j : Nat) (h0 : 0 ≤ a) (h1 : a ≤ 18446744073709551615) : (a / 256 ^ j % 256 != bits .and .u64 (a / 2 ^ (8 * j)) 255) = false := by
  obtain ⟨n, rfl⟩ := Int.eq_ofNat_of_zero_le h0
  have e1 : (2 : Int) ^ (8 * j) = 256 ^ j := by rw [Int.pow_mul]; rfl
  have e2 : (n : Int) / 256 ^ j = ((n / 256 ^ j : Nat) : Int) := by rw [Int.natCast_ediv, Int.natCast_pow]; rfl
  have hle : n / 256 ^ j ≤ n := Nat.div_le_self _ _
  rw [e1, e2]
  have := bits_and_u64_nat (n / 256 ^ j) 255 (by omega) (by decide)
  rw [show ((255 : Nat) : Int) = 255 from rfl] at this
  rw [this, show (255 : Nat) = 2 ^ 8 - 1 from rfl, Nat.and_two_pow_sub_one_eq_mod]
  simp
set_option maxRecDepth 20000 in
set_option maxHeartbeats 1000000 in
theorem mlast_any (a b o s : Int) (w : World) (ha : 0 ≤ a) (HA : Hid (a ≤ 18446744073709551615)) (hb : 0 ≤ b) (HB : Hid (b ≤ 18446744073709551615)) (ho : 0 ≤ o ∧ o ≤ 255) (hs : 0 ≤ s ∧ s ≤ 255) :
    Calls Try.prog 5 #[.int .u64 a, .int .u64 b, .int .u8 o, .int .u8 s] w (LawAns w) := by
  have hmk : ∀ u : World, (Instr.makeSlice 28 (.int .i64 16) (.int .i64 16)).run Try.prog u = .ok (.slice (some ⟨u.heap.size, 0, none⟩) 16 16) (u.alloc (.cells (madeCells #[.int .u8 0] 16) 5)) := run_make_u8 16 (by decide)
  go_enter Try.func5, Try.ntmps5
  go_wp2_with fail
  refine (mem_shown w).mono ?_
  rintro e w1 ⟨rfl, he1⟩
  go_wp2_with fail
  refine (in_new he1).mono ?_
  rintro e w2 ⟨m, rfl, h2⟩
  have H2 := Lib.hid h2
  clear h2
  go_upto_region 3 with fail
  go_cut [11, 12] (fun v11 v12 wx => Ext w2 wx ∧ Picked o s v11 v12)
  case first =>
    have h4 : s % 4 = 0 ∨ s % 4 = 1 ∨ s % 4 = 2 ∨ s % 4 = 3 := by omega
    rcases h4 with h4 | h4 | h4 | h4
    all_goals
      go_region
      all_goals
        go_wp2_with fail
        go_meet
        obtain ⟨q, hq⟩ : ∃ q : Nat, (q : Int) = o % 8 := ⟨(o % 8).toNat, by omega⟩
        exact ⟨by (repeat (first | exact Ext.rfl' _ | assumption | refine Ext.drewN' ?_ _ | refine Ext.drew' ?_ | refine Ext.alloc' ?_ _ | refine Ext.trans' ?_ (by assumption))), q, _, by rw [hq], rfl, hq, by simp [Sized]⟩
  case rest =>
    obtain ⟨he3, q, k, rfl, rfl, hq, hk⟩ := hcut
    have H3 := Lib.hid (H2.out.go he3)
    have hk1 : 1 ≤ k ∧ k ≤ 8 := by rcases hk with rfl | rfl | rfl | rfl <;> decide
    have hks : sized k = true := by rcases hk with rfl | rfl | rfl | rfl <;> rfl
    have hq8 : q < 8 := by omega
    clear H2 hq
    go_wp2_with fail
    refine (in_make (H3.out.go ((Ext.rfl' _).alloc' _)) 1 _ (List.replicate 16 0) true false (sl_made _ 16 (by decide)) (rep_u8 16)).mono ?_
    rintro e w3 ⟨rfl, h3⟩
    rw [lA_make 16 (by decide)] at h3 ⊢
    have H4 := Lib.hid h3
    clear h3 hmk H3
    go_wp2_with fail
    refine (in_at 1 0 _).mono ?_
    rintro e w4 ⟨rfl, rfl⟩
    go_wp2_with fail
    refine (in_store H4.out (mat 1 0) 8 a (mat_le _ _).1 (Lib.hid (mat_le _ _).2) ha).mono ?_
    rintro e w5 ⟨rfl, h5⟩
    rw [last_store1 a] at h5 ⊢
    have H5 := Lib.hid h5
    clear h5 H4
    go_wp2_with fail
    refine (in_at 1 q _).mono ?_
    rintro e w6 ⟨rfl, rfl⟩
    go_wp2_with fail
    refine (in_store H5.out (mat 1 q) k b (mat_le _ _).1 (Lib.hid (mat_le _ _).2) hb).mono ?_
    rintro e w7 ⟨rfl, h7⟩
    rw [last_store2 a b q k hk1.2 hq8 hks] at h7 ⊢
    have H7 := Lib.hid h7
    clear h7 H5
    go_wp2_with fail
    refine (in_at 1 q _).mono ?_
    rintro e w8 ⟨rfl, rfl⟩
    go_wp2_with fail
    refine (in_load H7.out (mat 1 q) k (mat_le _ _).1 (Lib.hid (mat_le _ _).2)).mono ?_
    rintro e w9 ⟨rfl, h9⟩
    have H9 := Lib.hid h9
    clear h9 H7
    rw [last_load1 a b q k hk1.2 hq8 hks]
    have hmask := mask hb HB.out hk
    go_wp2_with fail
    clear hmask
    go_loopw [72] (fun i wr => ∃ j : Nat, j ≤ 8 ∧ i = .int .i64 j ∧ MemIn w wr m [(1, ((lA 16).write 0 (bytesOf a 8)).write q (bytesOf b k))]) (fun i _ => 8 - (intOf i).toNat)
    case atStart => exact ⟨0, Nat.zero_le _, rfl, H9.out⟩
    case round =>
      obtain ⟨j, hj, rfl, hI⟩ := hrel
      have HI := Lib.hid hI
      clear hI
      by_cases hlt : (j : Int) < 8
      · have hj8 : j < 8 := by omega
        obtain ⟨c, hc, hc2⟩ := last_load2 a b q k j hk1.2 hq8 hj8
        have HC := Lib.hid hc
        clear hc
        go_wp2_with fail
        refine (in_at 1 j _).mono ?_
        rintro e w10 ⟨rfl, rfl⟩
        go_wp2_with fail
        refine (in_load HI.out (mat 1 j) 1 (mat_le _ _).1 (Lib.hid (mat_le _ _).2)).mono ?_
        rintro e w11 ⟨rfl, h11⟩
        have H11 := Lib.hid h11
        clear h11
        rw [HC.out]
        have hby := mask_byte j ha HA.out
        by_cases hin : j < q ∨ q + k ≤ j
        · have hcc := hc2 hin
          rcases hin with hin | hin
          all_goals
            go_wp2_with fail
            go_roundw
            case rel => exact ⟨j + 1, by omega, by go_num, H11.out⟩
            case measure => simp [intOf]; omega
        · clear hc2
          go_wp2_with fail
          go_roundw
          case rel => exact ⟨j + 1, by omega, by go_num, H11.out⟩
          case measure => simp [intOf]; omega
      · go_wp2_with fail
        go_returns
        exact ⟨rfl, HI.out.ext⟩
end Go.Proofs.Ytgllaiadllfliaa
