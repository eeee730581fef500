/- GraphReaches: the walk. -/
import Derived.Test.YtkogkcjiachphaaGL
import Derived.Test.YtkogkcjiachphaaR7G
namespace Go.Proofs.Ytkogkcjiachphaa
open Go.RowKit
set_option linter.unusedVariables false
set_option linter.unusedSimpArgs false

set_option maxRecDepth 20000 in
set_option maxHeartbeats 4000000 in
theorem reaches_any (v : Value) (L0 : List Ins) (i : Int) (w : World) (h : Rd w 5 Ins.enc v L0) (hok0 : InsOk L0) : Calls Try.prog 6 #[v, .int .i64 i] w fun e w' => e = .returned (.bool true) ∧ Ext w w' := by
  have HD0 := Lib.hid h
  have hok : InsOk (L0.take 150) := fun x hx => hok0 x (List.mem_of_mem_take hx)
  have hl : (L0.take 150).length ≤ 1000000 := by simp; omega
  have HFEW := Lib.hid (fun W => p_few v L0 W)
  obtain ⟨L, hL⟩ : ∃ L, L0.take 150 = L := ⟨_, rfl⟩
  rw [hL] at hok hl
  have HTK := Lib.hid hL
  have HOK := Lib.hid hok
  have HL := Lib.hid hl
  clear h hok0 hok hl hL
  go_enter Try.func6, Try.ntmps6
  go_wp2_with fail
  refine (p_shown _).mono ?_
  rintro e w1 ⟨rfl, hE1⟩
  have HE1 := Lib.hid hE1
  clear hE1
  go_wp2_with fail
  refine (HFEW.out _ (HD0.out.ext HE1.out)).mono ?_
  rw [HTK.out]
  rintro e w2 ⟨v2, rfl, hR2, hE2⟩
  have HD := Lib.hid hR2
  have HE2 := Lib.hid (HE1.out.trans' hE2)
  obtain ⟨xa, xn, xc, hxv, hxn, hXN⟩ := hR2.val
  subst hxv
  clear hR2 hE2 HE1
  go_wp2_with fail
  refine (p_Reach _ L i _ HD.out HL.out HOK.out).mono ?_
  rintro e w3 ⟨v3, rfl, hO3, hE3⟩
  have hr3 := hO3.rd enc_bool
  obtain ⟨ra, rn, rc, hrv, hrn, hRN⟩ := hr3.val
  subst hrv
  have HR3 := Lib.hid hr3
  have HE3 := Lib.hid (HE2.out.trans' hE3)
  have HD3 := Lib.hid (HD.out.ext hE3)
  clear hr3 hO3 hE3 HE2
  cases hp : progS L with
  | false =>
    have hz : rn = 0 := by rw [hRN.out]; unfold reachL; rw [hp]; rfl
    subst hz
    by_cases hx0 : xn = 0
    · subst hx0
      go_wp2_with fail
      refine wp_loop_rounds 1 ?_
      rw [rounds_succ]
      go_wp2
      go_returns
      exact ⟨rfl, HE3.out⟩
    · have HP := Lib.hid hp
      clear hp
      have hxi : ¬ (xn : Int) = 0 := by omega
      go_wp2_with fail
      refine (r_Check _ L _ HD3.out HL.out HOK.out).mono ?_
      rintro e w4 ⟨at_, er, rfl, her, hE4⟩
      have hne : (er != 0) = true := by
        rw [HP.out] at her
        simpa using her
      have HE4 := Lib.hid (HE3.out.trans' hE4)
      clear hE4 her
      go_wp2_with fail
      go_returns
      exact ⟨rfl, HE4.out⟩
  | true =>
    have hnn : rn = xn := by rw [hRN.out, reachL_length hp, hXN.out]
    subst hnn
    have HP := Lib.hid hp
    obtain ⟨M, hM⟩ : ∃ M, reachL L i = M := ⟨_, rfl⟩
    rw [hM] at HR3 hRN
    have HM := Lib.hid hM
    clear hp hM
    go_wp2_with fail
    go_loopw [47] (fun q wr => ∃ k : Nat, k ≤ rn ∧ q = .int .i64 k ∧ Hid (Ext w3 wr)) (fun q _ => rn - (intOf q).toNat)
    case atStart => exact ⟨0, Nat.zero_le _, rfl, Lib.hid (Ext.rfl' _)⟩
    case round =>
      obtain ⟨k, hk, rfl, HI⟩ := hrel
      by_cases hlt : (k : Int) < rn
      · obtain ⟨b, hb⟩ := at_of_lt (xs := M) (k := k) (by have := hRN.out; omega)
        have ix := fun W => HR3.out.run_at (P := Try.prog) el_bool.under el_bool.size .i64 (k : Int) (by omega) (by omega) W
        have cb := (HR3.out.ext HI.out).cell hb (j := 0) rfl
        simp only [Nat.mul_one, Nat.add_zero, Int.toNat_natCast] at ix cb
        have HBK := Lib.hid hb
        clear hb
        cases b with
        | false =>
          go_wp2_with fail
          go_roundw
          case rel => exact ⟨k + 1, by omega, by go_num, HI⟩
          case measure => simp [intOf]; omega
        | true =>
          have hkL : k < L.length := by have := hXN.out; omega
          have HON := Lib.hid (fun t (ht : t ∈ aheadV L k) => reach_on HP.out hkL (by rw [HM.out]; exact HBK.out) ht)
          have HSE := Lib.hid (some_end HP.out hkL (i := i) (by rw [HM.out]; exact HBK.out))
          have HTR := Lib.hid (fun m (hm : m < L.length) => reach_trans HP.out hkL hm (i := i) (by rw [HM.out]; exact HBK.out))
          have HKL := Lib.hid hkL
          clear hkL
          go_wp2_with fail
          refine (p_AheadV _ L k _ (HD3.out.ext HI.out) HL.out HOK.out).mono ?_
          rintro e w4 ⟨v4, rfl, hO4, hE4⟩
          have hr4 := hO4.rd (enc_int .i64)
          obtain ⟨aa, an, ac, hav, han, hAN⟩ := hr4.val
          subst hav
          have HR4 := Lib.hid hr4
          have HE4 := Lib.hid (HI.out.trans' hE4)
          clear hr4 hO4 hE4
          go_wp2_with fail
          go_loopw [58] (fun q wr2 => ∃ m : Nat, m ≤ an ∧ q = .int .i64 m ∧ Hid (Ext w4 wr2)) (fun q _ => an - (intOf q).toNat)
          case atStart => exact ⟨0, Nat.zero_le _, rfl, Lib.hid (Ext.rfl' _)⟩
          case round =>
            obtain ⟨m, hm, rfl, HJ⟩ := hrel
            by_cases hlt2 : (m : Int) < an
            · obtain ⟨t, ht⟩ := at_of_lt (xs := aheadV L k) (k := m) (by have := hAN.out; omega)
              obtain ⟨t0, t1, t2⟩ := HON.out t (List.mem_of_getElem? ht)
              rw [HM.out] at t2
              have t1' : t < rn := by rw [hXN.out]; exact t1
              have iy := fun W => HR4.out.run_at (P := Try.prog) el_int.under el_int.size .i64 (m : Int) (by omega) (by omega) W
              have cy := (HR4.out.ext HJ.out).cell ht (j := 0) rfl
              have iz := fun W => HR3.out.run_at (P := Try.prog) el_bool.under el_bool.size .i64 t (by omega) (by omega) W
              have cz := ((HR3.out.ext HE4.out).ext HJ.out).cell t2 (j := 0) rfl
              simp only [Nat.mul_one, Nat.add_zero, Int.toNat_natCast] at iy cy iz cz
              clear ht t1 t2
              go_wp2_with fail
              go_roundw
              case rel => exact ⟨m + 1, by omega, by go_num, HJ⟩
              case measure => simp [intOf]; omega
            · have HW4 := Lib.hid (HE4.out.trans' HJ.out)
              obtain ⟨z0, hz0⟩ : ∃ z, ((k : Int) == i) = z := ⟨_, rfl⟩
              go_wp2_with fail
              refine (p_Behind _ L k _ (HD3.out.ext HW4.out) HL.out HOK.out).mono ?_
              rintro e w5 ⟨v5, rfl, hO5, hE5⟩
              have hr5 := hO5.rd (enc_int .i64)
              obtain ⟨ba, bn, bc, hbv, hbn, hBN⟩ := hr5.val
              subst hbv
              have HR5 := Lib.hid hr5
              have HE5 := Lib.hid (HW4.out.trans' hE5)
              clear hr5 hO5 hE5
              have HZ0 : Hid (someB M i k (behindL L k) 0 = z0) := Lib.hid (by unfold someB; rw [hz0]; simp)
              have HBI := Lib.hid (fun x (hx : x ∈ behindL L k) => behind_in hx)
              clear hz0
              obtain ⟨B, hB⟩ : ∃ B, behindL L k = B := ⟨_, rfl⟩
              rw [hB] at HR5 hBN
              rw [hB] at HZ0 HBI
              have HSE2 : Hid (someB M i k B B.length = true) := Lib.hid (by have := HSE.out; rw [HM.out, hB] at this; exact this)
              clear hB
              go_wp2_with fail
              go_loopw [14, 85] (fun f q wr3 => ∃ m : Nat, m ≤ bn ∧ q = .int .i64 m ∧ f = .bool (someB M i k B m) ∧ Hid (Ext w5 wr3)) (fun _ q _ => bn - (intOf q).toNat)
              case atStart => exact ⟨0, Nat.zero_le _, rfl, by rw [HZ0.out], Lib.hid (Ext.rfl' _)⟩
              case round =>
                obtain ⟨m2, hm2, rfl, rfl, HK⟩ := hrel
                by_cases hlt3 : (m2 : Int) < bn
                · obtain ⟨t, ht⟩ := at_of_lt (xs := B) (k := m2) (by have := hBN.out; omega)
                  obtain ⟨t0, t1⟩ := HBI.out t (List.mem_of_getElem? ht)
                  have t1' : t < rn := by rw [hXN.out]; exact t1
                  obtain ⟨y, hy⟩ := at_of_lt (xs := M) (k := t.toNat) (by have := hRN.out; omega)
                  have iy := fun W => HR5.out.run_at (P := Try.prog) el_int.under el_int.size .i64 (m2 : Int) (by omega) (by omega) W
                  have cy := (HR5.out.ext HK.out).cell ht (j := 0) rfl
                  have iz := fun W => HR3.out.run_at (P := Try.prog) el_bool.under el_bool.size .i64 t (by omega) (by omega) W
                  have cz := ((HR3.out.ext HE5.out).ext HK.out).cell hy (j := 0) rfl
                  simp only [Nat.mul_one, Nat.add_zero, Int.toNat_natCast] at iy cy iz cz
                  have HST := Lib.hid (someB_succ M i k B m2 ht)
                  have HMY : Hid (markB M t = y) := Lib.hid (by unfold markB; rw [hy]; cases y <;> rfl)
                  clear ht t1 hy
                  generalize someB M i k B m2 = z at *
                  cases z
                  all_goals
                    go_wp2_with fail
                    go_roundw
                    case rel => exact ⟨m2 + 1, by omega, by go_num, by rw [HST.out, HMY.out]; rfl, HK⟩
                    case measure => simp [intOf]; omega
                · obtain rfl : m2 = B.length := by have := hBN.out; omega
                  rw [HSE2.out]
                  have HW5 := Lib.hid (HE5.out.trans' HK.out)
                  go_wp2_with fail
                  refine (p_Reach _ L k _ (HD3.out.ext HW5.out) HL.out HOK.out).mono ?_
                  rintro e w6 ⟨v6, rfl, hO6, hE6⟩
                  have hr6 := hO6.rd enc_bool
                  obtain ⟨qa, qn, qc, hqv, hqn, hQN⟩ := hr6.val
                  subst hqv
                  have hqr : qn = rn := by rw [hQN.out, reachL_length HP.out, hXN.out]
                  subst hqr
                  have HR6 := Lib.hid hr6
                  have HE6 := Lib.hid (HW5.out.trans' hE6)
                  clear hr6 hO6 hE6
                  go_wp2_with fail
                  go_loopw [113] (fun q wr4 => ∃ m : Nat, m ≤ qn ∧ q = .int .i64 m ∧ Hid (Ext w6 wr4)) (fun q _ => qn - (intOf q).toNat)
                  case atStart => exact ⟨0, Nat.zero_le _, rfl, Lib.hid (Ext.rfl' _)⟩
                  case round =>
                    obtain ⟨m3, hm3, rfl, HG⟩ := hrel
                    by_cases hlt4 : (m3 : Int) < qn
                    · obtain ⟨b, hb⟩ := at_of_lt (xs := reachL L k) (k := m3) (by have := hQN.out; omega)
                      have iy := fun W => HR6.out.run_at (P := Try.prog) el_bool.under el_bool.size .i64 (m3 : Int) (by omega) (by omega) W
                      have cy := (HR6.out.ext HG.out).cell hb (j := 0) rfl
                      have iz := fun W => HR3.out.run_at (P := Try.prog) el_bool.under el_bool.size .i64 (m3 : Int) (by omega) (by omega) W
                      simp only [Nat.mul_one, Nat.add_zero, Int.toNat_natCast] at iy cy iz
                      cases b with
                      | false =>
                        clear hb
                        go_wp2_with fail
                        go_roundw
                        case rel => exact ⟨m3 + 1, by omega, by go_num, HG⟩
                        case measure => simp [intOf]; omega
                      | true =>
                        have hmm := HTR.out m3 (by have := hXN.out; omega) hb
                        rw [HM.out] at hmm
                        have cz := ((HR3.out.ext HE6.out).ext HG.out).cell hmm (j := 0) rfl
                        simp only [Nat.mul_one, Nat.add_zero, Int.toNat_natCast] at cz
                        clear hb hmm
                        go_wp2_with fail
                        go_roundw
                        case rel => exact ⟨m3 + 1, by omega, by go_num, HG⟩
                        case measure => simp [intOf]; omega
                    · have HW6 := Lib.hid (HE6.out.trans' HG.out)
                      go_wp2_with fail
                      go_roundw
                      case rel => exact ⟨k + 1, by omega, by go_num, Lib.hid HW6.out⟩
                      case measure => simp [intOf]; omega
      · go_wp2_with fail
        go_returns
        exact ⟨rfl, HE3.out.trans' HI.out⟩
end Go.Proofs.Ytkogkcjiachphaa
