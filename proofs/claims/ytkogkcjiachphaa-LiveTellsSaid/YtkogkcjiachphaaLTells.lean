/- LiveTells: the walk. -/
import Derived.Test.YtkogkcjiachphaaLvG
namespace Go.Proofs.Ytkogkcjiachphaa
open Go.RowKit
set_option linter.unusedVariables false
set_option linter.unusedSimpArgs false

set_option maxRecDepth 20000 in
set_option maxHeartbeats 4000000 in
theorem ltells_any (v : Value) (L0 : List Ins) (i : Int) (w : World) (h : Rd w 5 Ins.enc v L0) (hok0 : InsOk L0) : Calls Try.prog 8 #[v, .int .i64 i] w fun e w' => e = .returned (.bool true) ∧ Ext w w' := by
  have HD0 := Lib.hid h
  have hok : InsOk (L0.take 150) := fun x hx => hok0 x (List.mem_of_mem_take hx)
  have hl : (L0.take 150).length ≤ 1000000 := by simp; omega
  have HFEW := Lib.hid (fun W => l_few v L0 W)
  obtain ⟨L, hL⟩ : ∃ L, L0.take 150 = L := ⟨_, rfl⟩
  rw [hL] at hok hl
  have HTK := Lib.hid hL
  have HOK := Lib.hid hok
  have HL := Lib.hid hl
  clear h hok0 hok hl hL
  go_enter Try.func8, Try.ntmps8
  go_wp2_with fail
  refine (l_shown _).mono ?_
  rintro e w1 ⟨rfl, hE⟩
  have HE1 := Lib.hid hE
  clear hE
  go_wp2_with fail
  refine (HFEW.out _ (HD0.out.ext HE1.out)).mono ?_
  rw [HTK.out]
  rintro e w2 ⟨v2, rfl, hR2, hE2⟩
  have HD2 := Lib.hid hR2
  have HE2 := Lib.hid (HE1.out.trans' hE2)
  obtain ⟨xa, xn, xc, hxv, hxn, hXN⟩ := hR2.val
  subst hxv
  clear hR2 hE2
  go_wp2_with fail
  refine (l_Idle _ L _ HD2.out HL.out HOK.out).mono ?_
  rintro e w3 ⟨va, rfl, hO, hE⟩
  have HA := Lib.hid (hO.rd enc_bool)
  have HE3 := Lib.hid (HE2.out.trans' hE)
  have HD3 := Lib.hid (HD2.out.ext hE)
  clear hO hE HE2 HD2
  go_wp2_with fail
  refine (s_Idle _ L _ HD3.out HL.out HOK.out).mono ?_
  rintro e w4 ⟨vb, rfl, hO, hE⟩
  have HB := Lib.hid (hO.rd enc_bool)
  replace HA := Lib.hid (HA.out.ext hE)
  have HE4 := Lib.hid (HE3.out.trans' hE)
  have HD4 := Lib.hid (HD3.out.ext hE)
  clear hO hE HE3 HD3
  obtain ⟨aa, an, ac, hav, han, hAN⟩ := HA.out.val
  obtain ⟨ba, bn, bc, hbv, hbn, hBN⟩ := HB.out.val
  subst hav; subst hbv
  obtain rfl : an = bn := by rw [hAN.out, hBN.out]
  go_wp2_with fail
  go_loopw [24] (fun q wr => ∃ k : Nat, k ≤ an ∧ q = .int .i64 k ∧ Hid (Ext w4 wr)) (fun q _ => an - (intOf q).toNat)
  case atStart => exact ⟨0, Nat.zero_le _, rfl, Lib.hid (Ext.rfl' _)⟩
  case round =>
    obtain ⟨k, hk, rfl, HX⟩ := hrel
    by_cases hlt : (k : Int) < an
    · obtain ⟨x, hx⟩ := at_of_lt (xs := idleL L) (k := k) (by have := hAN.out; omega)
      have ix := fun W => HA.out.run_at (P := Try.prog) el_bool.under el_bool.size .i64 (k : Int) (by omega) (by omega) W
      have iy := fun W => HB.out.run_at (P := Try.prog) el_bool.under el_bool.size .i64 (k : Int) (by omega) (by omega) W
      have cx := (HA.out.ext HX.out).cell hx (j := 0) rfl
      have cy := (HB.out.ext HX.out).cell hx (j := 0) rfl
      simp only [Nat.mul_one, Nat.add_zero, Int.toNat_natCast] at ix iy cx cy
      have hb2 : (x != x) = false := by simp
      clear hx
      go_wp2_with fail
      go_quiet (fail)
      go_wp2_with fail
      go_roundw
      case rel => exact ⟨k + 1, by omega, by go_num, Lib.hid (by have := HX.out; (repeat (first | exact Ext.rfl' _ | assumption | refine Ext.drewN' ?_ _ | refine Ext.drew' ?_ | refine Ext.alloc' ?_ _ | refine Ext.trans' ?_ (by assumption))))⟩
      case measure => simp [intOf]; omega
    · have HE5 := Lib.hid (HE4.out.trans' HX.out)
      have HD5 := Lib.hid (HD4.out.ext HX.out)
      obtain ⟨X, hX⟩ : ∃ X, atS readsS L i = X := ⟨_, rfl⟩
      obtain ⟨Y, hY⟩ : ∃ Y, atS writesS L i = Y := ⟨_, rfl⟩
      clear HE4 HD4 HX HA HB
      go_wp2_with fail
      refine (l_Reads _ L i _ HD5.out HL.out HOK.out).mono ?_
      rw [hX]
      rintro e w6 ⟨rfl, hE⟩
      have HE6 := Lib.hid (HE5.out.trans' hE)
      have HD6 := Lib.hid (HD5.out.ext hE)
      clear hE HE5 HD5
      go_wp2_with fail
      refine (s_Reads _ L i _ HD6.out HL.out HOK.out).mono ?_
      rw [hX]
      rintro e w7 ⟨rfl, hE⟩
      have HE7 := Lib.hid (HE6.out.trans' hE)
      have HD7 := Lib.hid (HD6.out.ext hE)
      clear hE HE6 HD6
      go_wp2_with fail
      refine (l_Writes _ L i _ HD7.out HL.out HOK.out).mono ?_
      rw [hY]
      rintro e w8 ⟨rfl, hE⟩
      have HE8 := Lib.hid (HE7.out.trans' hE)
      have HD8 := Lib.hid (HD7.out.ext hE)
      clear hE HE7 HD7
      go_wp2_with fail
      refine (s_Writes _ L i _ HD8.out HL.out HOK.out).mono ?_
      rw [hY]
      rintro e w9 ⟨rfl, hE⟩
      have HE9 := Lib.hid (HE8.out.trans' hE)
      have HD9 := Lib.hid (HD8.out.ext hE)
      clear hE HE8 HD8
      go_wp2_with fail
      refine (l_Ahead _ L _ HD9.out HL.out HOK.out).mono ?_
      rintro e w10 ⟨va1, rfl, hO, hE⟩
      have HA1 := Lib.hid (hO.rd enc_nat)
      have HE10 := Lib.hid (HE9.out.trans' hE)
      have HD10 := Lib.hid (HD9.out.ext hE)
      clear hO hE HE9 HD9
      go_wp2_with fail
      refine (s_Ahead _ L _ HD10.out HL.out HOK.out).mono ?_
      rintro e w11 ⟨vb1, rfl, hO, hE⟩
      have HB1 := Lib.hid (hO.rd enc_nat)
      replace HA1 := Lib.hid (HA1.out.ext hE)
      have HE11 := Lib.hid (HE10.out.trans' hE)
      have HD11 := Lib.hid (HD10.out.ext hE)
      clear hO hE HE10 HD10
      go_wp2_with fail
      refine (p_sets va1 vb1 _ _ _ HA1.out HB1.out).mono ?_
      rw [decide_eq_true rfl]
      rintro e w12 ⟨rfl, hE⟩
      have HE12 := Lib.hid (HE11.out.trans' hE)
      have HD12 := Lib.hid (HD11.out.ext hE)
      clear hE HE11 HD11 HA1 HB1
      go_wp2_with fail
      refine (l_Behind _ L _ HD12.out HL.out HOK.out).mono ?_
      rintro e w13 ⟨va2, rfl, hO, hE⟩
      have HA1 := Lib.hid (hO.rd enc_nat)
      have HE13 := Lib.hid (HE12.out.trans' hE)
      have HD13 := Lib.hid (HD12.out.ext hE)
      clear hO hE HE12 HD12
      go_wp2_with fail
      refine (s_Behind _ L _ HD13.out HL.out HOK.out).mono ?_
      rintro e w14 ⟨vb2, rfl, hO, hE⟩
      have HB1 := Lib.hid (hO.rd enc_nat)
      replace HA1 := Lib.hid (HA1.out.ext hE)
      have HE14 := Lib.hid (HE13.out.trans' hE)
      clear hO hE HE13 HD13
      go_wp2_with fail
      refine (p_sets va2 vb2 _ _ _ HA1.out HB1.out).mono ?_
      rw [decide_eq_true rfl]
      rintro e w15 ⟨rfl, hE⟩
      have HE15 := Lib.hid (HE14.out.trans' hE)
      clear hE HE14 HA1 HB1
      go_wp2_with fail
      go_returns
      exact ⟨rfl, HE15.out⟩
end Go.Proofs.Ytkogkcjiachphaa
