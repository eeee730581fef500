/- MemApart: what its code does. -/
import Derived.Test.YtgllaiadllfliaaMLast
import Derived.Test.YtgllaiadllfliaaStr
namespace Go.Proofs.Ytgllaiadllfliaa
open Go.RowKit
set_option linter.unusedVariables false
set_option linter.unusedSimpArgs false

def aX (x : List Int) : Ar := ⟨x, List.replicate x.length true, true⟩
def aY (y : List Int) : Ar := ⟨y, List.replicate y.length true, false⟩
theorem ap_make1 (x : List Int) (h : x.length ≤ 1024) : mmake [] 1 x false true = ([(1, aX x)], 0) := by
  rw [mmake, if_neg (by simp), if_neg (by omega)]; simp [aX, List.map_const']
theorem ap_make2 (x y : List Int) (h : y.length ≤ 1024) : mmake [(1, aX x)] 2 y false false = ([(1, aX x), (2, aY y)], 0) := by
  rw [mmake, if_neg (by simp [List.lookup]), if_neg (by omega)]; simp [aY, List.map_const']
theorem take_cut {w : World} {a : Option Addr} {n c : Nat} {x : List Int} (h : Sl w .u8 (.slice a n c) x) (m : Nat) (hm : m ≤ n) (hm' : (m = n ∧ n ≤ 100) ∨ m = 100) : Sl w .u8 (cutV (.slice a n c) 0 m 1) (x.take 100) := by
  have hn := h.num
  have := h.cut (l := 0) (m := m) (Nat.zero_le _) (by omega)
  rw [List.drop_zero, Nat.sub_zero] at this
  rcases hm' with ⟨rfl, h1⟩ | rfl
  · rwa [hn, List.take_length, ← hn, ← List.take_of_length_le (show x.length ≤ 100 by omega)] at this
  · exact this
/-- What storing and loading at p does, case by case. -/
theorem ap_cases (x y : List Int) (p n : Int) (hp : 0 ≤ p) (hx : x.length ≤ 100) (hy : y.length ≤ 100) : ∃ M' c e1 e2, mstore [(1, aX x), (2, aY y)] p 1 n = (M', e1) ∧ mload M' p 1 = (c, e2) ∧ marea M' 1 = (x, true) ∧ (e1 ≠ 0 → (marea M' 2).1 = y) ∧
    ((p / 4294967296 = 1 ∧ p % 4294967296 < x.length ∧ e1 = 82 ∧ e2 = 0) ∨ (p / 4294967296 = 2 ∧ p % 4294967296 < y.length ∧ e1 = 0 ∧ e2 = 0) ∨
     (p / 4294967296 = 1 ∧ (x.length : Int) ≤ p % 4294967296 ∧ e1 = 80 ∧ e2 = 80) ∨ (p / 4294967296 = 2 ∧ (y.length : Int) ≤ p % 4294967296 ∧ e1 = 80 ∧ e2 = 80) ∨
     ((p / 4294967296 == 1) = false ∧ (p / 4294967296 == 2) = false ∧ e1 = 80 ∧ e2 = 80)) := by
  have l1 : ([(1, aX x), (2, aY y)] : Areas).lookup 1 = some (aX x) := rfl
  have l2 : ([(1, aX x), (2, aY y)] : Areas).lookup 2 = some (aY y) := rfl
  have a1 : marea [(1, aX x), (2, aY y)] 1 = (x, true) := rfl
  have a2 : marea [(1, aX x), (2, aY y)] 2 = (y, true) := rfl
  obtain ⟨o, ho⟩ : ∃ o : Nat, (o : Int) = p % 4294967296 := ⟨(p % 4294967296).toNat, by omega⟩
  have hpm : ∀ a, p / 4294967296 = a → a < 4294967296 → p = mat a o := by intro a h h'; simp only [mat]; omega
  have ho' : o < 4294967296 := by omega
  by_cases h1 : p / 4294967296 = 1
  · have e := hpm 1 h1 (by decide)
    by_cases hin : p % 4294967296 < x.length
    · have hf : mfind [(1, aX x), (2, aY y)] p 1 = some (aX x, o) := by
        rw [e, mfind_at (by decide) (by decide) ho' l1, if_neg (by simp only [aX]; omega)]
      have hr : mread [(1, aX x), (2, aY y)] p ((1 : Nat) : Int) = (cutL x o 1, 0) := by
        rw [e, mread_at (by decide) (by decide) l1 (by simp only [aX]; omega) (by simp only [aX]; omega)]
        simp only [aX, cut_put]; rfl
      exact ⟨_, _, 82, 0, by rw [mstore, if_pos (show sized 1 = true from rfl), hf]; rfl, mload_of rfl hr, a1, fun _ => by rw [a2], .inl ⟨h1, hin, rfl, rfl⟩⟩
    · have hf : mfind [(1, aX x), (2, aY y)] p 1 = none := by
        rw [e, mfind_at (by decide) (by decide) ho' l1, if_pos (by simp only [aX]; omega)]
      have hr : mread [(1, aX x), (2, aY y)] p 1 = ([], 80) := by rw [mread, if_neg (by decide), hf]
      exact ⟨_, _, 80, 80, by rw [mstore, if_pos (show sized 1 = true from rfl), hf], mload_of rfl hr, a1, fun _ => by rw [a2], .inr (.inr (.inl ⟨h1, by omega, rfl, rfl⟩))⟩
  · by_cases h2 : p / 4294967296 = 2
    · have e := hpm 2 h2 (by decide)
      by_cases hin : p % 4294967296 < y.length
      · have hs : mstore [(1, aX x), (2, aY y)] p ((1 : Nat) : Int) n = (setKey [(1, aX x), (2, aY y)] 2 ((aY y).write o (bytesOf n 1)), 0) := by
          rw [e]; exact mstore_at (by decide) (by decide) l2 (by simp only [aY]; omega) rfl rfl (by simp only [aY]; omega)
        have hl : (setKey [(1, aX x), (2, aY y)] 2 ((aY y).write o (bytesOf n 1)) : Areas).lookup 2 = some ((aY y).write o (bytesOf n 1)) := rfl
        have hwl : ((aY y).write o (bytesOf n 1)).bytes.length = y.length := write_len (by rw [bytesOf_len]; simp only [aY]; omega)
        have hr : mread (setKey [(1, aX x), (2, aY y)] 2 ((aY y).write o (bytesOf n 1))) p ((1 : Nat) : Int) = (cutL ((aY y).write o (bytesOf n 1)).bytes o 1, 0) := by
          rw [e, mread_at (by decide) (by decide) hl (by omega) (by omega)]
          have : (cutL ((aY y).write o (bytesOf n 1)).put o 1).contains false = false := by
            simp only [Ar.write, map_true, bytesOf_len, aY]
            rw [over_rep _ _ _ _ (by omega)]
            exact cut_put _ _ _
          rw [this]; rfl
        exact ⟨_, _, 0, 0, hs, mload_of rfl hr, rfl, fun h => absurd rfl h, .inr (.inl ⟨h2, hin, rfl, rfl⟩)⟩
      · have hf : mfind [(1, aX x), (2, aY y)] p 1 = none := by
          rw [e, mfind_at (by decide) (by decide) ho' l2, if_pos (by simp only [aY]; omega)]
        have hr : mread [(1, aX x), (2, aY y)] p 1 = ([], 80) := by rw [mread, if_neg (by decide), hf]
        exact ⟨_, _, 80, 80, by rw [mstore, if_pos (show sized 1 = true from rfl), hf], mload_of rfl hr, a1, fun _ => by rw [a2], .inr (.inr (.inr (.inl ⟨h2, by omega, rfl, rfl⟩)))⟩
    · have b1 : (p / 4294967296 == 1) = false := by simpa using h1
      have b2 : (p / 4294967296 == 2) = false := by simpa using h2
      have hf : mfind [(1, aX x), (2, aY y)] p 1 = none := by simp [mfind, List.lookup, b1, b2]
      have hr : mread [(1, aX x), (2, aY y)] p 1 = ([], 80) := by rw [mread, if_neg (by decide), hf]
      exact ⟨_, _, 80, 80, by rw [mstore, if_pos (show sized 1 = true from rfl), hf], mload_of rfl hr, a1, fun _ => by rw [a2], .inr (.inr (.inr (.inr ⟨b1, b2, rfl, rfl⟩)))⟩
theorem str_eq (z : ByteArray) : (z == z) = true := by
  rcases z with ⟨d⟩
  show (d == d) = true
  simp
theorem str_ne (z : ByteArray) : (z != z) = false := by simp only [bne, str_eq, Bool.not_true]
theorem low32 {p : Int} (h0 : 0 ≤ p) (h1 : p ≤ 18446744073709551615) : bits .and .u64 p 4294967295 = p % 4294967296 := by
  obtain ⟨n, rfl⟩ := Int.eq_ofNat_of_zero_le h0
  have := bits_and_u64_nat n 4294967295 (by omega) (by decide)
  rw [show ((4294967295 : Nat) : Int) = 4294967295 from rfl] at this
  rw [this, show (4294967295 : Nat) = 2 ^ 32 - 1 from rfl, Nat.and_two_pow_sub_one_eq_mod]
  rfl
def ApCut (x y : List Int) (w w2 : World) (v11 v12 : Value) (wx : World) : Prop := Ext w2 wx ∧ Sl w .u8 v11 (x.take 100) ∧ Sl w .u8 v12 (y.take 100)
set_option maxRecDepth 20000 in
set_option maxHeartbeats 2000000 in
theorem apart_any (va vb : Value) (x y : List Int) (p n : Int) (w : World) (sx : Sl w .u8 va x) (sy : Sl w .u8 vb y) (ux : ∀ q ∈ x, 0 ≤ q ∧ q ≤ 255) (uy : ∀ q ∈ y, 0 ≤ q ∧ q ≤ 255)
    (hp : 0 ≤ p) (HP : Hid (p ≤ 18446744073709551615)) (hn : 0 ≤ n) (HN : Hid (n ≤ 18446744073709551615)) :
    Calls Try.prog 8 #[va, vb, .int .u64 p, .int .u64 n] w (LawAns w) := by
  obtain ⟨xa, xn, xc, rfl, hxn, hXN⟩ := sx.val
  obtain ⟨ya, yn, yc, rfl, hyn, hYN⟩ := sy.val
  have SX := Lib.hid sx
  have SY := Lib.hid sy
  have UX := Lib.hid (fun q (hq : q ∈ x.take 100) => ux q (List.mem_of_mem_take hq))
  have UY := Lib.hid (fun q (hq : q ∈ y.take 100) => uy q (List.mem_of_mem_take hq))
  clear sx sy ux uy
  go_enter Try.func8, Try.ntmps8
  go_wp2_with fail
  refine (mem_shown w).mono ?_
  rintro e w1 ⟨rfl, he1⟩
  go_wp2_with fail
  refine (in_new he1).mono ?_
  rintro e w2 ⟨m, rfl, h2⟩
  have H2 := Lib.hid h2
  have hx2 := h2.ext
  clear h2
  go_upto_region 3 with fail
  go_cut [11, 12] (fun v11 v12 wx => ApCut x y w w2 v11 v12 wx)
  case first =>
    have R1 := SX
    have R2 := SY
    have h1 : (xn : Int) ≤ 100 ∨ (100 : Int) < xn := by omega
    have h2 : (yn : Int) ≤ 100 ∨ (100 : Int) < yn := by omega
    rcases h1 with h1 | h1 <;> rcases h2 with h2 | h2
    · have c1 := fun W => R1.out.run_cut_h (P := Try.prog) el_u8.under el_u8.size .i64 (xn : Int) (by omega) (by omega) W
      have c2 := fun W => R2.out.run_cut_h (P := Try.prog) el_u8.under el_u8.size .i64 (yn : Int) (by omega) (by omega) W
      have E := Lib.hid (And.intro (take_cut R1.out xn (Nat.le_refl _) (by omega)) (take_cut R2.out yn (Nat.le_refl _) (by omega)))
      go_region
      all_goals
        go_wp2_with fail
        go_meet
        exact ⟨by (repeat (first | exact Ext.rfl' _ | assumption | refine Ext.drewN' ?_ _ | refine Ext.drew' ?_ | refine Ext.alloc' ?_ _ | refine Ext.trans' ?_ (by assumption))), E.out⟩
    · have c1 := fun W => R1.out.run_cut_h (P := Try.prog) el_u8.under el_u8.size .i64 (xn : Int) (by omega) (by omega) W
      have c2 := fun W => R2.out.run_cut_h (P := Try.prog) el_u8.under el_u8.size .i64 100 (by omega) (by omega) W
      have E := Lib.hid (And.intro (take_cut R1.out xn (Nat.le_refl _) (by omega)) (take_cut R2.out 100 (by omega) (by omega)))
      go_region
      all_goals
        go_wp2_with fail
        go_meet
        exact ⟨by (repeat (first | exact Ext.rfl' _ | assumption | refine Ext.drewN' ?_ _ | refine Ext.drew' ?_ | refine Ext.alloc' ?_ _ | refine Ext.trans' ?_ (by assumption))), E.out⟩
    · have c1 := fun W => R1.out.run_cut_h (P := Try.prog) el_u8.under el_u8.size .i64 100 (by omega) (by omega) W
      have c2 := fun W => R2.out.run_cut_h (P := Try.prog) el_u8.under el_u8.size .i64 (yn : Int) (by omega) (by omega) W
      have E := Lib.hid (And.intro (take_cut R1.out 100 (by omega) (by omega)) (take_cut R2.out yn (Nat.le_refl _) (by omega)))
      go_region
      all_goals
        go_wp2_with fail
        go_meet
        exact ⟨by (repeat (first | exact Ext.rfl' _ | assumption | refine Ext.drewN' ?_ _ | refine Ext.drew' ?_ | refine Ext.alloc' ?_ _ | refine Ext.trans' ?_ (by assumption))), E.out⟩
    · have c1 := fun W => R1.out.run_cut_h (P := Try.prog) el_u8.under el_u8.size .i64 100 (by omega) (by omega) W
      have c2 := fun W => R2.out.run_cut_h (P := Try.prog) el_u8.under el_u8.size .i64 100 (by omega) (by omega) W
      have E := Lib.hid (And.intro (take_cut R1.out 100 (by omega) (by omega)) (take_cut R2.out 100 (by omega) (by omega)))
      go_region
      all_goals
        go_wp2_with fail
        go_meet
        exact ⟨by (repeat (first | exact Ext.rfl' _ | assumption | refine Ext.drewN' ?_ _ | refine Ext.drew' ?_ | refine Ext.alloc' ?_ _ | refine Ext.trans' ?_ (by assumption))), E.out⟩
  case rest =>
    obtain ⟨he3, r1, r2⟩ := hcut
    generalize hx' : x.take 100 = x' at r1 UX
    generalize hy' : y.take 100 = y' at r2 UY
    have hxl : x'.length ≤ 100 := by rw [← hx', List.length_take]; omega
    have hyl : y'.length ≤ 100 := by rw [← hy', List.length_take]; omega
    clear hx' hy' SX SY hXN hYN
    obtain ⟨za, zn, zc, rfl, hzn, hZN⟩ := r1.val
    obtain ⟨ta, tn, tc, rfl, htn, hTN⟩ := r2.val
    have R1 := Lib.hid r1
    have R2 := Lib.hid r2
    have hzl : zn ≤ 100 := by rw [hZN.out]; exact hxl
    have htl : tn ≤ 100 := by rw [hTN.out]; exact hyl
    have H3 := Lib.hid (H2.out.go he3)
    clear r1 r2 H2
    go_wp2_with fail
    refine (in_make H3.out 1 _ x' false true (R1.out.ext H3.out.ext) UX.out).mono ?_
    rintro e w3 ⟨rfl, h3⟩
    rw [ap_make1 x' (by omega)] at h3 ⊢
    have H4 := Lib.hid h3
    clear h3 H3
    go_wp2_with fail
    refine (in_make H4.out 2 _ y' false false (R2.out.ext H4.out.ext) UY.out).mono ?_
    rintro e w4 ⟨rfl, h4⟩
    rw [ap_make2 x' y' (by omega)] at h4 ⊢
    have H5 := Lib.hid h4
    clear h4 H4
    go_wp2_with fail
    obtain ⟨M', c, e1, e2, hst, hld, har, har2, hcase⟩ := ap_cases x' y' p n hp hxl hyl
    have HST := Lib.hid hst
    have HLD := Lib.hid hld
    have HAR := Lib.hid har
    have HAR2 := Lib.hid har2
    have HCASE := Lib.hid hcase
    clear hst hld har har2 hcase
    refine (in_store H5.out p 1 n hp HP hn).mono ?_
    rintro e w5 ⟨rfl, h5⟩
    rw [HST.out] at h5 ⊢
    have H6 := Lib.hid h5
    clear h5 H5
    go_wp2_with fail
    refine (in_area H6.out 1).mono ?_
    rintro e w6 ⟨v1, rfl, hv1, h6, hx6⟩
    rw [HAR.out] at hv1 ⊢
    have RV1 := Lib.hid (hv1.rd (enc_int _))
    obtain ⟨b1, n1, k1, rfl, hn1, hN1⟩ := RV1.out.val
    have H7 := Lib.hid h6
    clear h6 hv1 H6
    go_wp2_with fail
    refine (in_area H7.out 2).mono ?_
    rintro e w7 ⟨v2, rfl, hv2, h7, hx7⟩
    have RV2 := Lib.hid (hv2.rd (enc_int _))
    obtain ⟨b2, n2, k2, rfl, hn2, hN2⟩ := RV2.out.val
    have H8 := Lib.hid h7
    clear h7 hv2 H7
    have s1 := (RV1.out.ext hx7).run_str (P := Try.prog) Try.underlying28 Try.underlying5 Try.underlying9
    have s2 := (R1.out.ext H8.out.ext).run_str (P := Try.prog) Try.underlying28 Try.underlying5 Try.underlying9
    have s3 := RV2.out.run_str (P := Try.prog) Try.underlying28 Try.underlying5 Try.underlying9
    have s4 := (R2.out.ext H8.out.ext).run_str (P := Try.prog) Try.underlying28 Try.underlying5 Try.underlying9
    have hand := low32 hp HP.out
    have hne : ∀ z : List Int, (strOfNums z != strOfNums z) = false := fun z => str_ne _
    have hx8 := H8.out.ext
    rcases HCASE.out with ⟨c1, c2, rfl, rfl⟩ | ⟨c1, c2, rfl, rfl⟩ | ⟨c1, c2, rfl, rfl⟩ | ⟨c1, c2, rfl, rfl⟩ | ⟨c1, c2, rfl, rfl⟩
    case inr.inl =>
      rw [← hTN.out] at c2
      clear HCASE HAR2
      go_wp2_with fail
      refine (in_load H8.out p 1 hp HP).mono ?_
      rintro e w8 ⟨rfl, h8⟩
      rw [HLD.out]
      go_wp2_with fail
      go_returns
      exact ⟨rfl, h8.ext⟩
    all_goals
      rw [HAR2.out (by decide)] at s3
      clear HCASE HAR2
      first
        | rw [← hZN.out] at c2
        | rw [← hTN.out] at c2
        | skip
      go_wp2_with fail
      refine (in_load H8.out p 1 hp HP).mono ?_
      rintro e w8 ⟨rfl, h8⟩
      rw [HLD.out]
      go_wp2_with fail
      go_returns
      exact ⟨rfl, h8.ext⟩
end Go.Proofs.Ytgllaiadllfliaa
