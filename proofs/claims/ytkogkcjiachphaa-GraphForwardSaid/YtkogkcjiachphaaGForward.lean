/- GraphForward: the walk. -/
import Derived.Test.YtkogkcjiachphaaGL
import Derived.Test.YtkogkcjiachphaaR7G
namespace Go.Proofs.Ytkogkcjiachphaa
open Go.RowKit
set_option linter.unusedVariables false
set_option linter.unusedSimpArgs false

set_option maxRecDepth 20000 in
set_option maxHeartbeats 4000000 in
theorem forward_any (v : Value) (L0 : List Ins) (w : World) (h : Rd w 5 Ins.enc v L0) (hok0 : InsOk L0) : Calls Try.prog 7 #[v] w fun e w' => e = .returned (.bool true) ∧ Ext w w' := by
  have HD0 := Lib.hid h
  have hok : InsOk (L0.take 150) := fun x hx => hok0 x (List.mem_of_mem_take hx)
  have hl : (L0.take 150).length ≤ 1000000 := by simp; omega
  have HFEW := Lib.hid (fun W => p_few v L0 W)
  obtain ⟨L, hL⟩ : ∃ L, L0.take 150 = L := ⟨_, rfl⟩
  rw [hL] at hok hl
  have HTK := Lib.hid hL
  have HOK := Lib.hid hok
  have HL := Lib.hid hl
  clear h hok0 hok hl hL
  go_enter Try.func7, Try.ntmps7
  go_wp2_with fail
  refine (p_shown _).mono ?_
  rintro e w1 ⟨rfl, hE1⟩
  have HE1 := Lib.hid hE1
  clear hE1
  go_wp2_with fail
  refine (HFEW.out _ (HD0.out.ext HE1.out)).mono ?_
  rw [HTK.out]
  rintro e w2 ⟨v2, rfl, hR2, hE2⟩
  have HD := Lib.hid hR2
  have HE2 := Lib.hid (HE1.out.trans' hE2)
  obtain ⟨xa, xn, xc, hxv, hxn, hXN⟩ := hR2.val
  subst hxv
  clear hR2 hE2 HE1
  go_wp2_with fail
  refine (r_Check _ L _ HD.out HL.out HOK.out).mono ?_
  rintro e w3 ⟨at_, er, rfl, her, hE3⟩
  have HE3 := Lib.hid (HE2.out.trans' hE3)
  have HD3 := Lib.hid (HD.out.ext hE3)
  clear hE3 HE2
  cases hp : progS L with
  | false =>
    have hne : (er != 0) = true := by
      rw [hp] at her
      simpa using her
    have hlo : loopsL L = false := by unfold loopsL; rw [hp]; rfl
    have HLO := Lib.hid hlo
    clear her hp hlo
    go_wp2_with fail
    refine (p_Loops _ L _ HD3.out HL.out HOK.out).mono ?_
    rw [HLO.out]
    rintro e w4 ⟨rfl, hE4⟩
    have HE4 := Lib.hid (HE3.out.trans' hE4)
    clear hE4
    go_wp2_with fail
    go_returns
    exact ⟨rfl, HE4.out⟩
  | true =>
    have hne : er = 0 := by
      rw [hp] at her
      simpa using her
    subst hne
    have HP := Lib.hid hp
    clear her hp
    go_wp2_with fail
    refine (r_Starts _ L _ HD3.out HL.out).mono ?_
    rintro e w4 ⟨s4, rfl, hO4, hE4⟩
    have hr4 := hO4.rd enc_bool
    obtain ⟨ra, rn, rc, hrv, hrn, hRN⟩ := hr4.val
    subst hrv
    have hnn : rn = xn := by rw [hRN.out, stF_length, hXN.out]
    subst hnn
    have HR4 := Lib.hid hr4
    have HE4 := Lib.hid (HE3.out.trans' hE4)
    have HD4 := Lib.hid (HD3.out.ext hE4)
    clear hr4 hO4 hE4 HE3 HD3
    go_wp2_with fail
    go_loopw [7, 35] (fun f q wr => ∃ k : Nat, k ≤ rn ∧ q = .int .i64 k ∧ f = .bool (fwdB L k) ∧ Hid (Ext w4 wr)) (fun _ q _ => rn - (intOf q).toNat)
    case atStart => exact ⟨0, Nat.zero_le _, rfl, rfl, Lib.hid (Ext.rfl' _)⟩
    case round =>
      obtain ⟨k, hk, rfl, rfl, HI⟩ := hrel
      by_cases hlt : (k : Int) < rn
      · obtain ⟨b, hb⟩ := at_of_lt (xs := stF false L) (k := k) (by have := hRN.out; omega)
        have ix := fun W => HR4.out.run_at (P := Try.prog) el_bool.under el_bool.size .i64 (k : Int) (by omega) (by omega) W
        have cb := (HR4.out.ext HI.out).cell hb (j := 0) rfl
        simp only [Nat.mul_one, Nat.add_zero, Int.toNat_natCast] at ix cb
        have HBK := Lib.hid hb
        have HFS := Lib.hid (fwdB_succ L k)
        clear hb
        generalize fwdB L k = fz at *
        go_wp2_with fail
        refine (p_AheadV _ L k _ (HD4.out.ext HI.out) HL.out HOK.out).mono ?_
        rintro e w5 ⟨v5, rfl, hO5, hE5⟩
        have hr5 := hO5.rd (enc_int .i64)
        obtain ⟨aa, an, ac, hav, han, hAN⟩ := hr5.val
        subst hav
        have HR5 := Lib.hid hr5
        have HE5 := Lib.hid (HI.out.trans' hE5)
        clear hr5 hO5 hE5
        have HBB : Hid (∀ t ∈ aheadV L k, b = true) := Lib.hid (fun t ht => by
          have h1 := (begins_iff.1 (mem_aheadV.1 ht).1).2.2.2
          rw [Int.toNat_natCast, HBK.out] at h1
          injection h1)
        obtain ⟨A, hA⟩ : ∃ A, aheadV L k = A := ⟨_, rfl⟩
        have HRW : Hid (rowF L k = A.all (fun t => decide (t > (k : Int)))) := Lib.hid (by rw [← hA]; rfl)
        rw [hA] at HR5 hAN HBB
        clear hA
        go_wp2_with fail
        go_loopw [7, 44] (fun f q wr2 => ∃ m : Nat, m ≤ an ∧ q = .int .i64 m ∧ f = .bool (fz && (A.take m).all (fun t => decide (t > (k : Int)))) ∧ Hid (Ext w5 wr2)) (fun _ q _ => an - (intOf q).toNat)
        case atStart => exact ⟨0, Nat.zero_le _, rfl, by simp, Lib.hid (Ext.rfl' _)⟩
        case round =>
          obtain ⟨m, hm, rfl, rfl, HJ⟩ := hrel
          by_cases hlt2 : (m : Int) < an
          · obtain ⟨t, ht⟩ := at_of_lt (xs := A) (k := m) (by have := hAN.out; omega)
            obtain rfl : b = true := HBB.out t (List.mem_of_getElem? ht)
            have iy := fun W => HR5.out.run_at (P := Try.prog) el_int.under el_int.size .i64 (m : Int) (by omega) (by omega) W
            have cy := (HR5.out.ext HJ.out).cell ht (j := 0) rfl
            simp only [Nat.mul_one, Nat.add_zero, Int.toNat_natCast] at iy cy
            have HTA := Lib.hid (take_all ht (fun t => decide (t > (k : Int))))
            clear ht
            generalize (A.take m).all (fun t => decide (t > (k : Int))) = za at *
            obtain ⟨zt, hzt⟩ : ∃ z, decide (t > (k : Int)) = z := ⟨_, rfl⟩
            have HTB : Hid ((A.take (m + 1)).all (fun t => decide (t > (k : Int))) = (za && zt)) := Lib.hid (by rw [HTA.out, ← hzt])
            have HZA : Hid ((fz && (za && zt)) = ((fz && za) && zt)) := Lib.hid (by rw [Bool.and_assoc])
            generalize (fz && za) = zf at *
            cases zf
            all_goals
              go_wp2_with fail
              go_roundw
              case rel => exact ⟨m + 1, by omega, by go_num, by rw [HTB.out, HZA.out]; rfl, HJ⟩
              case measure => simp [intOf]; omega
          · have hfull : A.take m = A := List.take_of_length_le (by have := hAN.out; omega)
            rw [hfull, ← HRW.out]
            have HW5 := Lib.hid (HE5.out.trans' HJ.out)
            clear hfull
            go_wp2_with fail
            go_roundw
            case rel => exact ⟨k + 1, by omega, by go_num, by rw [HFS.out], HW5⟩
            case measure => simp [intOf]; omega
      · obtain rfl : k = L.length := by have := hXN.out; omega
        have HFL : Hid (fwdB L L.length = true → loopsL L = false) := Lib.hid (fun h => forward_law HP.out h)
        generalize fwdB L L.length = ff at *
        go_wp2_with fail
        refine (p_Reach _ L 0 _ (HD4.out.ext HI.out) HL.out HOK.out).mono ?_
        rintro e w5 ⟨v5, rfl, hO5, hE5⟩
        have hr5 := hO5.rd enc_bool
        obtain ⟨qa, qn, qc, hqv, hqn, hQN⟩ := hr5.val
        subst hqv
        have hqr : qn = L.length := by rw [hQN.out, reachL_length HP.out]
        have HR5 := Lib.hid hr5
        have HE5 := Lib.hid (HI.out.trans' hE5)
        have HD5 := Lib.hid (HD4.out.ext HE5.out)
        clear hr5 hO5 hE5
        obtain ⟨M, hM⟩ : ∃ M, reachL L 0 = M := ⟨_, rfl⟩
        rw [hM] at HR5 hQN
        have HM := Lib.hid hM
        have HQR := Lib.hid hqr
        clear hM hqr
        go_wp2_with fail
        refine (p_Behind _ L 0 _ HD5.out HL.out HOK.out).mono ?_
        rintro e w6 ⟨v6, rfl, hO6, hE6⟩
        have hr6 := hO6.rd (enc_int .i64)
        obtain ⟨ba, bn, bc, hbv, hbn, hBN⟩ := hr6.val
        subst hbv
        have HR6 := Lib.hid hr6
        have HX6 := Lib.hid hE6
        have HE6 := Lib.hid (HE5.out.trans' hE6)
        clear hr6 hO6 hE6
        have HBI := Lib.hid (fun x (hx : x ∈ behindL L 0) => behind_in hx)
        have HBL : Hid (∀ t ∈ behindL L 0, markB M t = true → loopsL L = true) := Lib.hid (fun t ht hm => back_law HP.out ht (by rw [HM.out]; exact hm))
        obtain ⟨B, hB⟩ : ∃ B, behindL L 0 = B := ⟨_, rfl⟩
        rw [hB] at HR6 hBN HBI HBL
        clear hB
        go_wp2_with fail
        go_loopw [12, 65] (fun f q wr3 => ∃ m : Nat, m ≤ bn ∧ q = .int .i64 m ∧ f = .bool ((B.take m).any (markB M)) ∧ Hid (Ext w6 wr3)) (fun _ q _ => bn - (intOf q).toNat)
        case atStart => exact ⟨0, Nat.zero_le _, rfl, rfl, Lib.hid (Ext.rfl' _)⟩
        case round =>
          obtain ⟨m2, hm2, rfl, rfl, HK⟩ := hrel
          by_cases hlt3 : (m2 : Int) < bn
          · obtain ⟨t, ht⟩ := at_of_lt (xs := B) (k := m2) (by have := hBN.out; omega)
            obtain ⟨t0, t1⟩ := HBI.out t (List.mem_of_getElem? ht)
            have t1' : t < qn := by rw [HQR.out]; exact t1
            obtain ⟨y, hy⟩ := at_of_lt (xs := M) (k := t.toNat) (by have := hQN.out; omega)
            have iy := fun W => HR6.out.run_at (P := Try.prog) el_int.under el_int.size .i64 (m2 : Int) (by omega) (by omega) W
            have cy := (HR6.out.ext HK.out).cell ht (j := 0) rfl
            have iz := fun W => HR5.out.run_at (P := Try.prog) el_bool.under el_bool.size .i64 t (by omega) (by omega) W
            have cz := ((HR5.out.ext HX6.out).ext HK.out).cell hy (j := 0) rfl
            simp only [Nat.mul_one, Nat.add_zero, Int.toNat_natCast] at iy cy iz cz
            have HST : Hid ((B.take (m2 + 1)).any (markB M) = ((B.take m2).any (markB M) || markB M t)) := Lib.hid (by rw [List.take_add_one, ht, List.any_append]; simp)
            have HMY : Hid (markB M t = y) := Lib.hid (by unfold markB; rw [hy]; cases y <;> rfl)
            clear ht t1 hy
            generalize (B.take m2).any (markB M) = z at *
            cases z
            all_goals
              go_wp2_with fail
              go_roundw
              case rel => exact ⟨m2 + 1, by omega, by go_num, by rw [HST.out, HMY.out]; rfl, HK⟩
              case measure => simp [intOf]; omega
          · have hfull : B.take m2 = B := List.take_of_length_le (by have := hBN.out; omega)
            rw [hfull]
            have HBK : Hid (B.any (markB M) = true → loopsL L = true) := Lib.hid (fun h => by
              obtain ⟨t, ht, hm⟩ := List.any_eq_true.1 h
              exact HBL.out t ht hm)
            have HW6 := Lib.hid (HE6.out.trans' HK.out)
            clear hfull
            generalize B.any (markB M) = bk at *
            obtain ⟨lo, hlo⟩ : ∃ lo, loopsL L = lo := ⟨_, rfl⟩
            rw [hlo] at HBK HFL
            have HLO := Lib.hid hlo
            clear hlo
            cases ff with
            | true =>
              obtain rfl := HFL.out rfl
              obtain rfl : bk = false := by
                cases bk with
                | false => rfl
                | true => exact absurd (HBK.out rfl) (by decide)
              go_wp2_with fail
              refine (p_Loops _ L _ (HD4.out.ext HW6.out) HL.out HOK.out).mono ?_
              rw [HLO.out]
              rintro e w7 ⟨rfl, hE7⟩
              have HE7 := Lib.hid (HW6.out.trans' hE7)
              clear hE7
              go_wp2_with fail
              go_returns
              exact ⟨rfl, HE4.out.trans' HE7.out⟩
            | false =>
              cases bk with
              | true =>
                obtain rfl := HBK.out rfl
                go_wp2_with fail
                refine (p_Loops _ L _ (HD4.out.ext HW6.out) HL.out HOK.out).mono ?_
                rw [HLO.out]
                rintro e w7 ⟨rfl, hE7⟩
                have HE7 := Lib.hid (HW6.out.trans' hE7)
                clear hE7
                go_wp2_with fail
                go_returns
                exact ⟨rfl, HE4.out.trans' HE7.out⟩
              | false =>
                go_wp2_with fail
                go_returns
                exact ⟨rfl, HE4.out.trans' HW6.out⟩
end Go.Proofs.Ytkogkcjiachphaa
