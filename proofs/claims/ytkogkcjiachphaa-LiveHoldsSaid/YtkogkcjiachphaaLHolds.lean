/- LiveHolds: the walk. -/
import Derived.Test.YtkogkcjiachphaaLvG
namespace Go.Proofs.Ytkogkcjiachphaa
open Go.RowKit
set_option linter.unusedVariables false
set_option linter.unusedSimpArgs false

theorem live_step {L : List Ins} (hp : progS L = true) (hok : InsOk L) {i x y : Nat} (hx : (liveA L)[i]? = some x) (hy : (liveB L)[i]? = some y) : stepS (rdN L i) y (wrN L i) = x ∧ y = orL (liveA L) (ahN L i) := by
  have hi : i < L.length := by rw [← liveA_length hp]; exact lt_at hx
  have h1 : x = bitsOf (fun r => Need (rdN L) (wrN L) (ahN L) r i) := by
    unfold liveA at hx
    rw [hp] at hx
    simp only [if_true, List.getElem?_map, List.getElem?_range hi, Option.map_some] at hx
    exact (Option.some.inj hx).symm
  have h2 : y = bitsOf (fun r => NeedB (rdN L) (wrN L) (ahN L) r i) := by
    unfold liveB at hy
    rw [hp] at hy
    simp only [if_true, List.getElem?_map, List.getElem?_range hi, Option.map_some] at hy
    exact (Option.some.inj hy).symm
  refine ⟨?_, by rw [h2, live_behind hp hok]⟩
  rw [h1]
  have hy2 : y < 65536 := liveB_lt hy
  refine eq_bitsOf (step_lt (rdN_lt hok i) hy2 (wrN_lt hok i)) (fun r hr => ?_)
  rw [step_bit hy2 (wrN_lt hok i), need_iff, h2, bitsOf_bit]
  constructor
  · rintro (h | ⟨h3, h4⟩)
    · exact .inl h
    · exact .inr ⟨h4, h3.2⟩
  · rintro (h | ⟨h3, h4⟩)
    · exact .inl h
    · exact .inr ⟨⟨hr, h4⟩, h3⟩
set_option maxRecDepth 20000 in
set_option maxHeartbeats 4000000 in
theorem lholds_any (v : Value) (L0 : List Ins) (w : World) (h : Rd w 5 Ins.enc v L0) (hok0 : InsOk L0) : Calls Try.prog 9 #[v] w fun e w' => e = .returned (.bool true) ∧ Ext w w' := by
  have HD0 := Lib.hid h
  have hok : InsOk (L0.take 150) := fun x hx => hok0 x (List.mem_of_mem_take hx)
  have hl : (L0.take 150).length ≤ 1000000 := by simp; omega
  have HFEW := Lib.hid (fun W => l_few v L0 W)
  obtain ⟨L, hL⟩ : ∃ L, L0.take 150 = L := ⟨_, rfl⟩
  rw [hL] at hok hl
  have HTK := Lib.hid hL
  have HOK := Lib.hid hok
  have HL := Lib.hid hl
  clear h hok0 hok hl hL
  go_enter Try.func9, Try.ntmps9
  go_wp2_with fail
  refine (l_shown _).mono ?_
  rintro e w1 ⟨rfl, hE⟩
  have HE1 := Lib.hid hE
  clear hE
  go_wp2_with fail
  refine (HFEW.out _ (HD0.out.ext HE1.out)).mono ?_
  rw [HTK.out]
  rintro e w2 ⟨v2, rfl, hR2, hE2⟩
  have HD2 := Lib.hid hR2
  have HE2 := Lib.hid (HE1.out.trans' hE2)
  obtain ⟨xa, xn, xc, hxv, hxn, hXN⟩ := hR2.val
  subst hxv
  clear hR2 hE2
  go_wp2_with fail
  refine (l_Ahead _ L _ HD2.out HL.out HOK.out).mono ?_
  rintro e w3 ⟨va, rfl, hO, hE⟩
  have HA := Lib.hid (hO.rd enc_nat)
  have HE3 := Lib.hid (HE2.out.trans' hE)
  have HD3 := Lib.hid (HD2.out.ext hE)
  clear hO hE HE2 HD2
  go_wp2_with fail
  refine (l_Behind _ L _ HD3.out HL.out HOK.out).mono ?_
  rintro e w4 ⟨vb, rfl, hO, hE⟩
  have HB := Lib.hid (hO.rd enc_nat)
  replace HA := Lib.hid (HA.out.ext hE)
  have HE4 := Lib.hid (HE3.out.trans' hE)
  have HD4 := Lib.hid (HD3.out.ext hE)
  clear hO hE HE3 HD3
  obtain ⟨aa, an, ac, hav, han, hAN⟩ := HA.out.val
  obtain ⟨ba, bn, bc, hbv, hbn, hBN⟩ := HB.out.val
  subst hav; subst hbv
  cases hp : progS L with
  | false =>
    have HP := Lib.hid hp
    obtain rfl : an = 0 := by rw [hAN.out, liveA_none hp]; rfl
    obtain rfl : bn = 0 := by rw [hBN.out, liveB_none hp]; rfl
    clear hp
    go_wp2_with fail
    refine (r_Check _ L _ HD4.out HL.out HOK.out).mono ?_
    rintro e w5 ⟨at_, er, rfl, her, hE⟩
    rw [HP.out] at her
    have hne : (er != 0) = true := by simpa using her
    have HE5 := Lib.hid (HE4.out.trans' hE)
    clear hE her
    go_wp2_with fail
    go_returns
    exact ⟨rfl, HE5.out⟩
  | true =>
    have HP := Lib.hid hp
    obtain rfl : xn = an := by rw [hXN.out, hAN.out, liveA_length hp]
    obtain rfl : xn = bn := by rw [hXN.out, hBN.out, liveB_length hp]
    have hnn : ((xn : Int) != (xn : Int)) = false := by simp
    clear hp
    go_wp2_with fail
    refine (r_Check _ L _ HD4.out HL.out HOK.out).mono ?_
    rintro e w5 ⟨at_, er, rfl, her, hE⟩
    rw [HP.out] at her
    obtain rfl : er = 0 := by simpa using her
    have HE5 := Lib.hid (HE4.out.trans' hE)
    have HD5 := Lib.hid (HD4.out.ext hE)
    have HA5 := Lib.hid (HA.out.ext hE)
    have HB5 := Lib.hid (HB.out.ext hE)
    clear hE her HE4 HD4 HA HB
    go_wp2_with fail
    go_loopw [52] (fun q wr => ∃ k : Nat, k ≤ xn ∧ q = .int .i64 k ∧ Hid (Ext w5 wr)) (fun q _ => xn - (intOf q).toNat)
    case atStart => exact ⟨0, Nat.zero_le _, rfl, Lib.hid (Ext.rfl' _)⟩
    case round =>
      obtain ⟨k, hk, rfl, HX⟩ := hrel
      by_cases hlt : (k : Int) < xn
      · go_wp2_with fail
        refine (r16_Ahead _ L k _ (HD5.out.ext HX.out) HL.out HOK.out).mono ?_
        rintro e w6 ⟨v6, rfl, hO6, hE6⟩
        obtain ⟨ta, tn, tc, htv, htn, hTN⟩ := (hO6.rd (enc_int .i64)).val
        subst htv
        have HX6 := Lib.hid (HX.out.trans' hE6)
        have HAH : Hid (aheadV L k = ahN L k) := Lib.hid rfl
        rw [HAH.out] at hO6 hTN
        have HT := Lib.hid (hO6.rd (enc_int .i64))
        have hx3 := ahN_le L k
        have hx4 : tn ≤ 3 := by rw [hTN.out]; exact hx3
        clear hO6 hE6 hx3 HAH HX
        go_wp2_with fail
        go_loopw [10, 59] (fun v10 q wr => ∃ j : Nat, j ≤ tn ∧ q = .int .i64 j ∧ v10 = .int .u16 ((orL (liveA L) ((ahN L k).take j) : Nat) : Int) ∧ Hid (Ext w6 wr)) (fun _ q _ => tn - (intOf q).toNat)
        case atStart => exact ⟨0, Nat.zero_le _, rfl, rfl, Lib.hid (Ext.rfl' _)⟩
        case round =>
          obtain ⟨j, hj, rfl, rfl, HX⟩ := hrel
          by_cases hjt : (j : Int) < tn
          · obtain ⟨t, ht⟩ := at_of_lt (xs := ahN L k) (k := j) (by have := hTN.out; omega)
            obtain ⟨t0, t1⟩ := ahN_at ht
            have t2 : t < xn := by have := hXN.out; omega
            obtain ⟨y, hy⟩ := at_of_lt (xs := liveA L) (k := t.toNat) (by have := hAN.out; omega)
            have ix := fun W => HT.out.run_at (P := Try.prog) el_int.under el_int.size .i64 (j : Int) (by omega) (by omega) W
            have cx := (HT.out.ext HX.out).cell ht (j := 0) rfl
            have iy := fun W => HA5.out.run_at (P := Try.prog) el_u16.under el_u16.size .i64 t (by omega) (by omega) W
            have cy := (HA5.out.ext (HX6.out.trans' HX.out)).cell hy (j := 0) rfl
            simp only [Nat.mul_one, Nat.add_zero, Int.toNat_natCast] at ix cx iy cy
            have hor : bits .or .u16 ((orL (liveA L) ((ahN L k).take j) : Nat) : Int) (y : Int) = ((orL (liveA L) ((ahN L k).take (j + 1)) : Nat) : Int) := by
              rw [or_u16 (orL_lt (fun i x hx => liveA_lt hx) _) (liveA_lt hy), orL_take ht hy]
            clear ht hy
            go_wp2_with fail
            go_roundw
            case rel => exact ⟨j + 1, by omega, by go_num, rfl, HX⟩
            case measure => simp [intOf]; omega
          · have hfull : (ahN L k).take j = ahN L k := List.take_of_length_le (by have := hTN.out; omega)
            rw [hfull]
            clear hfull
            obtain ⟨x0, hx0⟩ := at_of_lt (xs := liveA L) (k := k) (by have := hAN.out; omega)
            obtain ⟨y0, hy0⟩ := at_of_lt (xs := liveB L) (k := k) (by have := hBN.out; omega)
            obtain ⟨hs1, hs2⟩ := live_step HP.out HOK.out hx0 hy0
            rw [← hs2]
            have HX7 := Lib.hid (HX6.out.trans' HX.out)
            have ixA := fun W => HA5.out.run_at (P := Try.prog) el_u16.under el_u16.size .i64 (k : Int) (by omega) (by omega) W
            have ixB := fun W => HB5.out.run_at (P := Try.prog) el_u16.under el_u16.size .i64 (k : Int) (by omega) (by omega) W
            have cA := (HA5.out.ext HX7.out).cell hx0 (j := 0) rfl
            have cB := (HB5.out.ext HX7.out).cell hy0 (j := 0) rfl
            simp only [Nat.mul_one, Nat.add_zero, Int.toNat_natCast] at ixA ixB cA cB
            have hst : bits .or .u16 ((atS readsS L k : Nat) : Int) (bits .andNot .u16 (y0 : Int) ((atS writesS L k : Nat) : Int)) = ((x0 : Nat) : Int) := by
              rw [← hs1]
              exact step_u16 (rdN_lt HOK.out k) (liveB_lt hy0) (wrN_lt HOK.out k)
            clear hx0 hy0 hs1 hs2 HX6 HX
            go_upto_region 18 with fail
            go_cut [94] from 70 to 95 (fun v94 wx => v94 = .bool false ∧ Hid (Ext wr wx))
            case first =>
              have pA := Grow.cell cA
              have pB := Grow.cell cB
              clear cA cB
              refine wp_region_grow (by kernel_rfl) (by kernel_rfl) ?_
              repeat (go_big_quiet_step (first | (go_at_call 32; exact Calls.grow (l_Reads _ L k _ (HD5.out.ext (HX7.out.trans' (Grow.ext _))) HL.out HOK.out)) | (go_at_call 34; exact Calls.grow (l_Writes _ L k _ (HD5.out.ext (HX7.out.trans' (Grow.ext _))) HL.out HOK.out))))
              refine wpQuiet_nil ?_
              rintro _ ⟨⟨wq, hwq⟩, rfl⟩
              go_wp2_with fail
              go_meet
              exact ⟨by simp [hst], Lib.hid hwq⟩
            case rest =>
              obtain ⟨rfl, HE8⟩ := hcut
              have HX8 := Lib.hid (HX7.out.trans' HE8.out)
              clear ixA ixB cA cB hst
              go_wp2_with fail
              go_roundw
              case rel => exact ⟨k + 1, by omega, by go_num, HX8⟩
              case measure => simp [intOf]; omega
      · go_wp2_with fail
        go_returns
        exact ⟨rfl, HE5.out.trans' HX.out⟩
end Go.Proofs.Ytkogkcjiachphaa
