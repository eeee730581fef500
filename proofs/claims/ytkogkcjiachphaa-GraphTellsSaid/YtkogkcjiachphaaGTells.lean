/- GraphTells: the walk. (printed by gen/gtells.py) -/
import Derived.Test.YtkogkcjiachphaaR16D
namespace Go.Proofs.Ytkogkcjiachphaa
open Go.RowKit
set_option linter.unusedVariables false
set_option linter.unusedSimpArgs false

set_option maxRecDepth 20000 in
set_option maxHeartbeats 4000000 in
theorem tells_any (v : Value) (L0 : List Ins) (i : Int) (w : World) (h : Rd w 5 Ins.enc v L0) (hok0 : InsOk L0) : Calls Try.prog 5 #[v, .int .i64 i] w fun e w' => e = .returned (.bool true) ∧ Ext w w' := by
  have HD0 := Lib.hid h
  have hok : InsOk (L0.take 150) := fun x hx => hok0 x (List.mem_of_mem_take hx)
  have hl : (L0.take 150).length ≤ 1000000 := by simp; omega
  have HFEW := Lib.hid (fun W => p_few v L0 W)
  obtain ⟨L, hL⟩ : ∃ L, L0.take 150 = L := ⟨_, rfl⟩
  rw [hL] at hok hl
  have HTK := Lib.hid hL
  have HOK := Lib.hid hok
  have HL := Lib.hid hl
  clear h hok0 hok hl hL
  go_enter Try.func5, Try.ntmps5
  go_wp2_with fail
  refine (HFEW.out _ HD0.out).mono ?_
  rw [HTK.out]
  rintro e w1 ⟨v2, rfl, hR2, hE2⟩
  have HD1 := Lib.hid hR2
  have HE1 := Lib.hid hE2
  obtain ⟨xa, xn, xc, hxv, hxn, hXN⟩ := hR2.val
  subst hxv
  clear hR2 hE2
  go_wp2_with fail
  refine (p_shown _).mono ?_
  rintro e w2 ⟨rfl, hE⟩
  have HE2 := Lib.hid (HE1.out.trans' hE)
  have HD2 := Lib.hid (HD1.out.ext hE)
  clear hE HE1 HD1
  go_wp2_with fail
  refine (p_AheadV _ L i _ HD2.out HL.out HOK.out).mono ?_
  rintro e w3 ⟨va2, rfl, hO, hE⟩
  have HA2 := Lib.hid (hO.rd (enc_int .i64))
  have HE3 := Lib.hid (HE2.out.trans' hE)
  have HD3 := Lib.hid (HD2.out.ext hE)
  clear hO hE HE2 HD2
  go_wp2_with fail
  refine (r16_Ahead _ L i _ HD3.out HL.out HOK.out).mono ?_
  rintro e w4 ⟨vb2, rfl, hO, hE⟩
  have HB2 := Lib.hid (hO.rd (enc_int .i64))
  replace HA2 := Lib.hid (HA2.out.ext hE)
  have HE4 := Lib.hid (HE3.out.trans' hE)
  have HD4 := Lib.hid (HD3.out.ext hE)
  clear hO hE HE3 HD3
  go_wp2_with fail
  refine (p_ints va2 vb2 _ _ _ HA2.out HB2.out).mono ?_
  rw [decide_eq_true rfl]
  rintro e w5 ⟨rfl, hE⟩
  have HE5 := Lib.hid (HE4.out.trans' hE)
  have HD5 := Lib.hid (HD4.out.ext hE)
  clear hE HE4 HD4 HA2 HB2
  go_wp2_with fail
  refine (p_Behind _ L i _ HD5.out HL.out HOK.out).mono ?_
  rintro e w6 ⟨va5, rfl, hO, hE⟩
  have HA5 := Lib.hid (hO.rd (enc_int .i64))
  have HE6 := Lib.hid (HE5.out.trans' hE)
  have HD6 := Lib.hid (HD5.out.ext hE)
  clear hO hE HE5 HD5
  go_wp2_with fail
  refine (r16_Behind _ L i _ HD6.out HL.out HOK.out).mono ?_
  rintro e w7 ⟨vb5, rfl, hO, hE⟩
  have HB5 := Lib.hid (hO.rd (enc_int .i64))
  replace HA5 := Lib.hid (HA5.out.ext hE)
  have HE7 := Lib.hid (HE6.out.trans' hE)
  have HD7 := Lib.hid (HD6.out.ext hE)
  clear hO hE HE6 HD6
  go_wp2_with fail
  refine (p_ints va5 vb5 _ _ _ HA5.out HB5.out).mono ?_
  rw [decide_eq_true rfl]
  rintro e w8 ⟨rfl, hE⟩
  have HE8 := Lib.hid (HE7.out.trans' hE)
  have HD8 := Lib.hid (HD7.out.ext hE)
  clear hE HE7 HD7 HA5 HB5
  go_wp2_with fail
  refine (p_Reach _ L i _ HD8.out HL.out HOK.out).mono ?_
  rintro e w9 ⟨va8, rfl, hO, hE⟩
  have HA8 := Lib.hid (hO.rd enc_bool)
  have HE9 := Lib.hid (HE8.out.trans' hE)
  have HD9 := Lib.hid (HD8.out.ext hE)
  clear hO hE HE8 HD8
  go_wp2_with fail
  refine (r16_Reach _ L i _ HD9.out HL.out HOK.out).mono ?_
  rintro e w10 ⟨vb8, rfl, hO, hE⟩
  have HB8 := Lib.hid (hO.rd enc_bool)
  replace HA8 := Lib.hid (HA8.out.ext hE)
  have HE10 := Lib.hid (HE9.out.trans' hE)
  have HD10 := Lib.hid (HD9.out.ext hE)
  clear hO hE HE9 HD9
  go_wp2_with fail
  refine (p_bools va8 vb8 _ _ _ HA8.out HB8.out).mono ?_
  rw [decide_eq_true rfl]
  rintro e w11 ⟨rfl, hE⟩
  have HE11 := Lib.hid (HE10.out.trans' hE)
  have HD11 := Lib.hid (HD10.out.ext hE)
  clear hE HE10 HD10 HA8 HB8
  go_wp2_with fail
  refine (p_Heads _ L _ HD11.out HL.out HOK.out).mono ?_
  rintro e w12 ⟨va11, rfl, hO, hE⟩
  have HA11 := Lib.hid (hO.rd enc_bool)
  have HE12 := Lib.hid (HE11.out.trans' hE)
  have HD12 := Lib.hid (HD11.out.ext hE)
  clear hO hE HE11 HD11
  go_wp2_with fail
  refine (r16_Heads _ L _ HD12.out HL.out HOK.out).mono ?_
  rintro e w13 ⟨vb11, rfl, hO, hE⟩
  have HB11 := Lib.hid (hO.rd enc_bool)
  replace HA11 := Lib.hid (HA11.out.ext hE)
  have HE13 := Lib.hid (HE12.out.trans' hE)
  have HD13 := Lib.hid (HD12.out.ext hE)
  clear hO hE HE12 HD12
  go_wp2_with fail
  refine (p_bools va11 vb11 _ _ _ HA11.out HB11.out).mono ?_
  rw [decide_eq_true rfl]
  rintro e w14 ⟨rfl, hE⟩
  have HE14 := Lib.hid (HE13.out.trans' hE)
  have HD14 := Lib.hid (HD13.out.ext hE)
  clear hE HE13 HD13 HA11 HB11
  obtain ⟨lo, hlo⟩ : ∃ lo, loopsL L = lo := ⟨_, rfl⟩
  have HLO := Lib.hid hlo
  clear hlo
  go_wp2_with fail
  refine (p_Loops _ L _ HD14.out HL.out HOK.out).mono ?_
  rw [HLO.out]
  rintro e w15 ⟨rfl, hE⟩
  have HE15 := Lib.hid (HE14.out.trans' hE)
  have HD15 := Lib.hid (HD14.out.ext hE)
  clear hE HE14 HD14
  go_wp2_with fail
  refine (r16_Loops _ L _ HD15.out HL.out HOK.out).mono ?_
  rw [HLO.out]
  rintro e w16 ⟨rfl, hE⟩
  have HE16 := Lib.hid (HE15.out.trans' hE)
  clear hE HE15 HD15
  cases lo
  all_goals
    go_wp2_with fail
    go_returns
    exact ⟨rfl, HE16.out⟩
end Go.Proofs.Ytkogkcjiachphaa
