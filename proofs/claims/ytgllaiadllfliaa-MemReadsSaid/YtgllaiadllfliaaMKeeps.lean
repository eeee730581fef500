/- MemKeeps: what its code does. -/
import Derived.Test.YtgllaiadllfliaaMLast
import Derived.BigQuiet
namespace Go.Proofs.Ytgllaiadllfliaa
open Go.RowKit
set_option linter.unusedVariables false
set_option linter.unusedSimpArgs false

theorem take_cutK (K : Nat) {w : World} {a : Option Addr} {n c : Nat} {x : List Int} (h : Sl w .u8 (.slice a n c) x) (m : Nat) (hm : m ≤ n) (hm' : (m = n ∧ n ≤ K) ∨ m = K) : Sl w .u8 (cutV (.slice a n c) 0 m 1) (x.take K) := by
  have hn := h.num
  have := h.cut (l := 0) (m := m) (Nat.zero_le _) (by omega)
  rw [List.drop_zero, Nat.sub_zero] at this
  rcases hm' with ⟨rfl, h1⟩ | rfl
  · rwa [hn, List.take_length, ← hn, ← List.take_of_length_le (show x.length ≤ K by omega)] at this
  · exact this
def kA (x : List Int) (blank : Bool) : Ar := ⟨x, List.replicate x.length (!blank), false⟩
theorem k_make (x : List Int) (blank : Bool) (h : x.length ≤ 1024) : mmake [] 5 x blank false = ([(5, kA x blank)], 0) := by
  rw [mmake, if_neg (by simp), if_neg (by omega)]; simp [kA, List.map_const']
/-- What storing does, and what can be seen then. -/
theorem k_cases (x : List Int) (blank : Bool) (o k : Nat) (n : Int) (hx : x.length ≤ 300) (ho : o ≤ 319) (hk : sized k = true) : ∃ A e, mstore [(5, kA x blank)] (mat 5 o) k n = ([(5, A)], e) ∧ A.bytes.length = x.length ∧
    ((e = 0 ∧ o + k ≤ x.length ∧ mload [(5, A)] (mat 5 o) k = (n % 256 ^ k, 0) ∧ ∀ i, i < o ∨ o + k ≤ i → A.bytes[i]? = x[i]?) ∨ (e = 80 ∧ x.length < o + k ∧ A.bytes = x)) := by
  have hl : List.lookup 5 [((5 : Int), kA x blank)] = some (kA x blank) := rfl
  by_cases hin : o + k ≤ x.length
  · have hwl : ((kA x blank).write o (bytesOf n k)).bytes.length = x.length := write_len (by rw [bytesOf_len]; simp only [kA]; omega)
    have hp : (cutL ((kA x blank).write o (bytesOf n k)).put o k) = List.replicate k true := by
      simp only [Ar.write, kA]
      rw [cutL_over _ _ _ _ _ (by rw [List.length_map, bytesOf_len, List.length_replicate]; omega) (Nat.le_refl _) (by rw [List.length_map, bytesOf_len]; omega), map_true, bytesOf_len, Nat.sub_self, cut_rep]
    have hb : cutL ((kA x blank).write o (bytesOf n k)).bytes o k = bytesOf n k := by
      simp only [Ar.write, kA]
      rw [cutL_over _ _ _ _ _ (by rw [bytesOf_len]; omega) (Nat.le_refl _) (by rw [bytesOf_len]; omega), Nat.sub_self, cutL_bytes _ _ _ _ (by omega), Int.pow_zero, Int.ediv_one]
    refine ⟨(kA x blank).write o (bytesOf n k), 0, store_one (by decide) (by decide) (by simp only [kA]; omega) rfl hk (by simp only [kA]; omega), hwl, .inl ⟨rfl, hin, ?_, fun i hi => ?_⟩⟩
    · have h := mload_of hk (read_one (z := 5) (o := o) (k := k) (A := (kA x blank).write o (bytesOf n k)) (by decide) (by decide) (by omega) (by omega) (by rw [hp]; exact rep_has k))
      rw [hb, le_bytes] at h
      exact h
    · simp only [Ar.write, kA]
      rw [over_at _ _ _ _ (by rw [bytesOf_len]; omega), bytesOf_len]
      rcases hi with hi | hi
      · rw [if_pos hi]
      · rw [if_neg (by omega), if_neg (by omega)]
  · exact ⟨_, 80, mstore_off (by decide) (by decide) hl hk (by omega) (by simp only [kA]; omega), rfl, .inr ⟨rfl, by omega, rfl⟩⟩
def Size4 (v : Value) : Prop := ∃ k : Nat, v = .int .i64 k ∧ Sized k
set_option maxRecDepth 20000 in
set_option maxHeartbeats 2000000 in
theorem mkeeps_any (va : Value) (x : List Int) (o s n : Int) (blank : Bool) (w : World) (sx : Sl w .u8 va x) (ux : ∀ q ∈ x, 0 ≤ q ∧ q ≤ 255)
    (ho : 0 ≤ o ∧ o ≤ 65535) (hs : 0 ≤ s ∧ s ≤ 255) (hn : 0 ≤ n) (HN : Hid (n ≤ 18446744073709551615)) :
    Calls Try.prog 7 #[va, .int .u16 o, .int .u8 s, .int .u64 n, .bool blank] w (LawAns w) := by
  obtain ⟨xa, xn, xc, rfl, hxn, hXN⟩ := sx.val
  have SX := Lib.hid sx
  have UX := Lib.hid (fun q (hq : q ∈ x.take 300) => ux q (List.mem_of_mem_take hq))
  clear sx ux
  go_enter Try.func7, Try.ntmps7
  go_wp2_with fail
  refine (mem_shown w).mono ?_
  rintro e w1 ⟨rfl, he1⟩
  go_wp2_with fail
  refine (in_new he1).mono ?_
  rintro e w2 ⟨m, rfl, h2⟩
  have H2 := Lib.hid h2
  have hx2 := h2.ext
  clear h2
  go_upto_region 3 with fail
  go_cut [13] (fun v13 wx => Ext w2 wx ∧ Sl w .u8 v13 (x.take 300))
  case first =>
    have h1 : (xn : Int) ≤ 300 ∨ (300 : Int) < xn := by omega
    rcases h1 with h1 | h1
    · have c1 := fun W => SX.out.run_cut_h (P := Try.prog) el_u8.under el_u8.size .i64 (xn : Int) (by omega) (by omega) W
      have E := Lib.hid (take_cutK 300 SX.out xn (Nat.le_refl _) (by omega))
      go_wp2_with fail
      go_meet
      exact ⟨by (repeat (first | exact Ext.rfl' _ | assumption | refine Ext.drewN' ?_ _ | refine Ext.drew' ?_ | refine Ext.alloc' ?_ _ | refine Ext.trans' ?_ (by assumption))), E.out⟩
    · have c1 := fun W => SX.out.run_cut_h (P := Try.prog) el_u8.under el_u8.size .i64 300 (by omega) (by omega) W
      have E := Lib.hid (take_cutK 300 SX.out 300 (by omega) (by omega))
      go_wp2_with fail
      go_meet
      exact ⟨by (repeat (first | exact Ext.rfl' _ | assumption | refine Ext.drewN' ?_ _ | refine Ext.drew' ?_ | refine Ext.alloc' ?_ _ | refine Ext.trans' ?_ (by assumption))), E.out⟩
  case rest =>
    obtain ⟨he3, r1⟩ := hcut
    go_upto_region 4 with fail
    go_cut [14] (fun v14 wx => Ext wc wx ∧ Size4 v14)
    case first =>
      have h4 : s % 4 = 0 ∨ s % 4 = 1 ∨ s % 4 = 2 ∨ s % 4 = 3 := by omega
      rcases h4 with h4 | h4 | h4 | h4
      all_goals
        go_wp2_with fail
        go_meet
        exact ⟨by (repeat (first | exact Ext.rfl' _ | assumption | refine Ext.drewN' ?_ _ | refine Ext.drew' ?_ | refine Ext.alloc' ?_ _ | refine Ext.trans' ?_ (by assumption))), _, rfl, by simp [Sized]⟩
    case rest =>
      obtain ⟨he4, k, rfl, hk⟩ := hcut
      generalize hx' : x.take 300 = x' at r1 UX
      have hxl : x'.length ≤ 300 := by rw [← hx', List.length_take]; omega
      clear hx' SX hXN
      obtain ⟨za, zn, zc, rfl, hzn, hZN⟩ := r1.val
      have R1 := Lib.hid r1
      have hzl : zn ≤ 300 := by rw [hZN.out]; exact hxl
      have H3 := Lib.hid ((H2.out.go he3).go he4)
      have hk1 : 1 ≤ k ∧ k ≤ 8 := by rcases hk with rfl | rfl | rfl | rfl <;> decide
      have hks : sized k = true := by rcases hk with rfl | rfl | rfl | rfl <;> rfl
      clear r1 H2
      obtain ⟨q, hq⟩ : ∃ q : Nat, (q : Int) = o % 320 := ⟨(o % 320).toNat, by omega⟩
      obtain ⟨A, e, hst, hal, hcase⟩ := k_cases x' blank q k n hxl (by omega) hks
      rw [hq] at hst hcase
      have HQ := Lib.hid hq
      have HST := Lib.hid hst
      have HAL := Lib.hid hal
      have HCASE := Lib.hid hcase
      clear hst hal hcase hq
      go_wp2_with fail
      refine (in_make H3.out 5 _ x' blank false (R1.out.ext H3.out.ext) UX.out).mono ?_
      rintro e' w3 ⟨rfl, h3⟩
      rw [k_make x' blank (by omega)] at h3 ⊢
      have H4 := Lib.hid h3
      clear h3 H3
      go_wp2_with fail
      refine (in_at 5 (o % 320) _).mono ?_
      rintro e' w4 ⟨rfl, rfl⟩
      go_wp2_with fail
      refine (in_store H4.out (mat 5 (o % 320)) k n (mat_le _ _).1 (Lib.hid (mat_le _ _).2) hn).mono ?_
      rintro e' w5 ⟨rfl, h5⟩
      rw [HST.out] at h5 ⊢
      have H5 := Lib.hid h5
      clear h5 H4
      go_wp2_with fail
      refine (in_area H5.out 5).mono ?_
      rintro e' w6 ⟨v1, rfl, hv1, h6, hx6⟩
      have hma : marea [(5, A)] 5 = (A.bytes, true) := rfl
      rw [hma] at hv1 ⊢
      have RV := Lib.hid (hv1.rd (enc_int _))
      obtain ⟨b1, n1, k1, rfl, hn1, hN1⟩ := RV.out.val
      obtain rfl : n1 = zn := by rw [hN1.out, HAL.out, hZN.out]
      have H6 := Lib.hid h6
      clear h6 hv1 H5 hma
      rcases HCASE.out with ⟨rfl, hin, hld, hby⟩ | ⟨rfl, hin, hby⟩
      · have hin' : o % 320 + (k : Int) ≤ n1 := by have := HQ.out; have := hZN.out; omega
        have HLD := Lib.hid hld
        have HBY := Lib.hid hby
        clear hin hld hby HCASE
        go_wp2_with fail
        go_loopw [79] (fun i wr => ∃ j : Nat, j ≤ n1 ∧ i = .int .i64 j ∧ Ext w6 wr) (fun i _ => n1 - (intOf i).toNat)
        case atStart => exact ⟨0, Nat.zero_le _, rfl, Ext.rfl' _⟩
        case round =>
          obtain ⟨j, hj, rfl, hwr⟩ := hrel
          by_cases hlt : (j : Int) < n1
          · obtain ⟨y, hy⟩ := at_of_lt (xs := A.bytes) (k := j) (by have := HAL.out; have := hZN.out; omega)
            obtain ⟨z, hz⟩ := at_of_lt (xs := x') (k := j) (by have := hZN.out; omega)
            have iy := fun W => RV.out.run_at (P := Try.prog) el_u8.under el_u8.size .i64 (j : Int) (by omega) (by omega) W
            have cy := (RV.out.ext hwr).cell hy (j := 0) rfl
            have iz := fun W => R1.out.run_at (P := Try.prog) el_u8.under el_u8.size .i64 (j : Int) (by omega) (by omega) W
            have cz := (R1.out.ext (H6.out.ext.trans' hwr)).cell hz (j := 0) rfl
            simp only [Nat.mul_one, Nat.add_zero, Int.toNat_natCast] at iy cy iz cz
            have hyz : (y != z) = false ∨ ((y != z) = true ∧ decide ((j : Int) < o % 320) = false ∧ decide (o % 320 + (k : Int) ≤ j) = false) := by
              by_cases h : y = z
              · left; simp [h]
              · right
                have h1 := HBY.out j
                rw [hy, hz] at h1
                have h2 : ¬ (j < q ∨ q + k ≤ j) := fun h' => h (by simpa using h1 h')
                have := HQ.out
                exact ⟨by simpa using h, by simp; omega, by simp; omega⟩
            clear hy hz
            rcases hyz with d0 | ⟨d0, d1, d2⟩
            all_goals
              go_wp2_with fail
              go_quiet (fail)
              go_wp2
              go_roundw
              case rel => exact ⟨j + 1, by omega, by go_num, by (repeat (first | exact Ext.rfl' _ | assumption | refine Ext.drewN' ?_ _ | refine Ext.drew' ?_ | refine Ext.alloc' ?_ _ | refine Ext.trans' ?_ (by assumption)))⟩
              case measure => simp [intOf]; omega
          · go_wp2_with fail
            have hmask : (n % 256 ^ k == bits .and .u64 n (IntKind.u64.wrap (IntKind.u64.wrap (2 ^ (8 * k)) - 1))) = true := by
              have := mask hn HN.out hk
              simpa [bne] using this
            refine (in_at 5 (o % 320) _).mono ?_
            rintro e' w7 ⟨rfl, rfl⟩
            go_wp2_with fail
            refine (in_load (H6.out.go hwr) (mat 5 (o % 320)) k (mat_le _ _).1 (Lib.hid (mat_le _ _).2)).mono ?_
            rintro e' w8 ⟨rfl, h8⟩
            rw [HLD.out]
            go_wp2_with fail
            go_returns
            exact ⟨rfl, h8.ext⟩
      · have hin' : (n1 : Int) < o % 320 + k := by have := HQ.out; have := hZN.out; omega
        have HBY := Lib.hid hby
        clear hin hby HCASE
        go_wp2_with fail
        go_loopw [79] (fun i wr => ∃ j : Nat, j ≤ n1 ∧ i = .int .i64 j ∧ Ext w6 wr) (fun i _ => n1 - (intOf i).toNat)
        case atStart => exact ⟨0, Nat.zero_le _, rfl, Ext.rfl' _⟩
        case round =>
          obtain ⟨j, hj, rfl, hwr⟩ := hrel
          by_cases hlt : (j : Int) < n1
          · obtain ⟨y, hy⟩ := at_of_lt (xs := A.bytes) (k := j) (by have := HAL.out; have := hZN.out; omega)
            obtain ⟨z, hz⟩ := at_of_lt (xs := x') (k := j) (by have := hZN.out; omega)
            have iy := fun W => RV.out.run_at (P := Try.prog) el_u8.under el_u8.size .i64 (j : Int) (by omega) (by omega) W
            have cy := (RV.out.ext hwr).cell hy (j := 0) rfl
            have iz := fun W => R1.out.run_at (P := Try.prog) el_u8.under el_u8.size .i64 (j : Int) (by omega) (by omega) W
            have cz := (R1.out.ext (H6.out.ext.trans' hwr)).cell hz (j := 0) rfl
            simp only [Nat.mul_one, Nat.add_zero, Int.toNat_natCast] at iy cy iz cz
            have hyz : (y != z) = false := by
              rw [HBY.out, hz] at hy
              injection hy with e
              simp [e]
            clear hy hz
            go_wp2_with fail
            go_quiet (fail)
            go_wp2
            go_roundw
            case rel => exact ⟨j + 1, by omega, by go_num, by (repeat (first | exact Ext.rfl' _ | assumption | refine Ext.drewN' ?_ _ | refine Ext.drew' ?_ | refine Ext.alloc' ?_ _ | refine Ext.trans' ?_ (by assumption)))⟩
            case measure => simp [intOf]; omega
          · go_wp2_with fail
            go_returns
            exact ⟨rfl, H6.out.ext.trans' hwr⟩
end Go.Proofs.Ytgllaiadllfliaa
