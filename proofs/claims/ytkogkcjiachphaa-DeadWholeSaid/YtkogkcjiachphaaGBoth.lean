/- GraphBoth: the walk, and why it is true. -/
import Derived.Test.YtkogkcjiachphaaGrS
namespace Go.Proofs.Ytkogkcjiachphaa
open Go.RowKit
set_option linter.unusedVariables false
set_option linter.unusedSimpArgs false

theorem take_contains {A : List Int} {k : Nat} {x : Int} (hx : A[k]? = some x) (b : Int) : (A.take (k + 1)).contains b = ((A.take k).contains b || (x == b)) := by
  rw [List.take_add_one, hx]
  simp only [List.contains_eq_mem, List.mem_append, Option.mem_toList, Option.mem_some_iff]
  by_cases h1 : b ∈ A.take k <;> by_cases h2 : x = b <;> simp [h1, h2]
theorem begins_iff {L : List Ins} {i : Int} : beginsS L i = true ↔ progS L = true ∧ 0 ≤ i ∧ i < L.length ∧ (stF false L)[i.toNat]? = some true := by
  unfold beginsS
  simp only [Bool.and_eq_true, decide_eq_true_eq, beq_iff_eq]
theorem mem_aheadV {L : List Ins} {a b : Int} : b ∈ aheadV L a ↔ beginsS L a = true ∧ ∃ x, L[a.toNat]? = some x ∧ b ∈ aheadL L x a.toNat := by
  unfold aheadV
  by_cases h : beginsS L a = true
  · rw [if_pos h]
    cases hx : L[a.toNat]? with
    | none => simp
    | some x => simp [h]
  · rw [if_neg h]
    simp [h]
theorem mem_behind {L : List Ins} {a b : Int} : a ∈ behindL L b ↔ beginsS L b = true ∧ ∃ j : Nat, a = j ∧ ∃ x, (stF false L)[j]? = some true ∧ L[j]? = some x ∧ b ∈ aheadL L x j := by
  unfold behindL
  by_cases h : beginsS L b = true
  · rw [if_pos h]
    unfold behUpto
    simp only [List.mem_map, List.mem_filter, List.mem_range, h, true_and]
    constructor
    · rintro ⟨j, ⟨hj, hb⟩, rfl⟩
      refine ⟨j, rfl, ?_⟩
      unfold isBehind at hb
      split at hb
      · rename_i x hs hx
        exact ⟨x, hs, hx, by simpa using hb⟩
      · cases hb
    · rintro ⟨j, rfl, x, hs, hx, hb⟩
      refine ⟨j, ⟨(List.getElem?_eq_some_iff.1 hx).1, ?_⟩, rfl⟩
      unfold isBehind
      rw [hs, hx]
      simpa using hb
  · rw [if_neg h]
    simp [h]
/-- What is Ahead has it Behind, and the other way about. -/
theorem both_law (L : List Ins) (a b : Int) : (aheadV L a).contains b = (behindL L b).contains a := by
  have : b ∈ aheadV L a ↔ a ∈ behindL L b := by
    rw [mem_aheadV, mem_behind]
    constructor
    · rintro ⟨ha, x, hx, hb⟩
      obtain ⟨hp, h0, h1, hs⟩ := begins_iff.1 ha
      obtain ⟨g0, g1, g2⟩ := ahead_start (ProgF.of hp) hs hx hb
      exact ⟨begins_iff.2 ⟨hp, g0, g1, g2⟩, a.toNat, by omega, x, hs, hx, hb⟩
    · rintro ⟨hb, j, rfl, x, hs, hx, hm⟩
      obtain ⟨hp, h0, h1, _⟩ := begins_iff.1 hb
      have hj := (List.getElem?_eq_some_iff.1 hx).1
      exact ⟨begins_iff.2 ⟨hp, by omega, by omega, by simpa using hs⟩, x, by simpa using hx, by simpa using hm⟩
  by_cases h : b ∈ aheadV L a
  · have h2 := this.1 h
    simp [h, h2]
  · have h2 : ¬ a ∈ behindL L b := fun h3 => h (this.2 h3)
    simp [h, h2]
set_option maxRecDepth 20000 in
set_option maxHeartbeats 2000000 in
theorem both_any (v : Value) (L0 : List Ins) (a b : Int) (w : World) (h : Rd w 5 Ins.enc v L0) (hok0 : InsOk L0) : Calls Try.prog 3 #[v, .int .i64 a, .int .i64 b] w fun e w' => e = .returned (.bool true) ∧ Ext w w' := by
  have HD0 := Lib.hid h
  have hok : InsOk (L0.take 150) := fun x hx => hok0 x (List.mem_of_mem_take hx)
  have hl : (L0.take 150).length ≤ 1000000 := by simp; omega
  have HFEW := Lib.hid (fun W => p_few v L0 W)
  obtain ⟨L, hL⟩ : ∃ L, L0.take 150 = L := ⟨_, rfl⟩
  rw [hL] at hok hl
  have HTK := Lib.hid hL
  have HOK := Lib.hid hok
  have HL := Lib.hid hl
  clear h hok0 hok hl hL
  go_enter Try.func3, Try.ntmps3
  go_wp2_with fail
  refine (p_shown _).mono ?_
  rintro e w1 ⟨rfl, hE1⟩
  have HE1 := Lib.hid hE1
  clear hE1
  go_wp2_with fail
  refine (HFEW.out _ (HD0.out.ext HE1.out)).mono ?_
  rw [HTK.out]
  rintro e w2 ⟨v2, rfl, hR2, hE2⟩
  have HD := Lib.hid hR2
  have HE2 := Lib.hid (HE1.out.trans' hE2)
  obtain ⟨xa, xn, xc, hxv, hxn, hXN⟩ := hR2.val
  subst hxv
  clear hR2 hE2
  go_wp2_with fail
  refine (p_AheadV _ L a _ HD.out HL.out HOK.out).mono ?_
  rintro e w3 ⟨v3, rfl, hO3, hE3⟩
  have hr3 := hO3.rd (enc_int .i64)
  obtain ⟨aa, an, ac, hav, han, hAN⟩ := hr3.val
  subst hav
  have HR3 := Lib.hid hr3
  have HE3 := Lib.hid hE3
  clear hr3 hO3 hE3
  obtain ⟨A, hA⟩ : ∃ A, aheadV L a = A := ⟨_, rfl⟩
  rw [hA] at HR3 hAN
  have HA := Lib.hid hA
  clear hA
  go_wp2_with fail
  go_loopw [22, 9] (fun q f wr => ∃ k : Nat, k ≤ an ∧ q = .int .i64 k ∧ f = .bool ((A.take k).contains b) ∧ Hid (Ext w3 wr)) (fun q _ _ => an - (intOf q).toNat)
  case atStart => exact ⟨0, Nat.zero_le _, rfl, rfl, Lib.hid (Ext.rfl' _)⟩
  case round =>
    obtain ⟨k, hk, rfl, rfl, HI⟩ := hrel
    by_cases hlt : (k : Int) < an
    · obtain ⟨x, hx⟩ := at_of_lt (xs := A) (k := k) (by have := hAN.out; omega)
      have ix := fun W => HR3.out.run_at (P := Try.prog) el_int.under el_int.size .i64 (k : Int) (by omega) (by omega) W
      have cx := (HR3.out.ext HI.out).cell hx (j := 0) rfl
      simp only [Nat.mul_one, Nat.add_zero, Int.toNat_natCast] at ix cx
      have HTC := Lib.hid (take_contains hx b)
      clear hx
      generalize (A.take k).contains b = z at *
      obtain ⟨y, hy⟩ : ∃ y, (x == b) = y := ⟨_, rfl⟩
      have HTY : Hid ((A.take (k + 1)).contains b = (z || y)) := Lib.hid (by rw [HTC.out, hy])
      cases z
      all_goals
        go_wp2_with fail
        go_roundw
        case rel => exact ⟨k + 1, by omega, by go_num, by rw [HTY.out]; rfl, HI⟩
        case measure => simp [intOf]; omega
    · have hfull : A.take k = A := List.take_of_length_le (by have := hAN.out; omega)
      obtain ⟨z, hz⟩ : ∃ z, A.contains b = z := ⟨_, rfl⟩
      rw [hfull, hz]
      have HZ := Lib.hid hz
      clear hz
      have HW3 : Hid (Ext w wr) := Lib.hid ((HE2.out.trans' HE3.out).trans' HI.out)
      have HD3 := Lib.hid ((HD.out.ext HE3.out).ext HI.out)
      clear hfull
      go_wp2_with fail
      refine (p_Behind _ L b _ HD3.out HL.out HOK.out).mono ?_
      rintro e w4 ⟨v4, rfl, hO4, hE4⟩
      have hr4 := hO4.rd (enc_int .i64)
      obtain ⟨ba, bn, bc, hbv, hbn, hBN⟩ := hr4.val
      subst hbv
      have HR4 := Lib.hid hr4
      have HE4 := Lib.hid (HW3.out.trans' hE4)
      clear hr4 hO4 hE4
      have hboth := both_law L a b
      rw [HA.out] at hboth
      obtain ⟨B, hB⟩ : ∃ B, behindL L b = B := ⟨_, rfl⟩
      rw [hB] at HR4 hBN hboth
      have HBOTH := Lib.hid hboth
      clear hB hboth
      go_wp2_with fail
      go_loopw [37, 10] (fun q f wr => ∃ k : Nat, k ≤ bn ∧ q = .int .i64 k ∧ f = .bool ((B.take k).contains a) ∧ Hid (Ext w4 wr)) (fun q _ _ => bn - (intOf q).toNat)
      case atStart => exact ⟨0, Nat.zero_le _, rfl, rfl, Lib.hid (Ext.rfl' _)⟩
      case round =>
        obtain ⟨j, hj, rfl, rfl, HJ⟩ := hrel
        by_cases hlt2 : (j : Int) < bn
        · obtain ⟨x, hx⟩ := at_of_lt (xs := B) (k := j) (by have := hBN.out; omega)
          have ix := fun W => HR4.out.run_at (P := Try.prog) el_int.under el_int.size .i64 (j : Int) (by omega) (by omega) W
          have cx := (HR4.out.ext HJ.out).cell hx (j := 0) rfl
          simp only [Nat.mul_one, Nat.add_zero, Int.toNat_natCast] at ix cx
          have HTC := Lib.hid (take_contains hx a)
          clear hx
          generalize (B.take j).contains a = z at *
          obtain ⟨y, hy⟩ : ∃ y, (x == a) = y := ⟨_, rfl⟩
          have HTY : Hid ((B.take (j + 1)).contains a = (z || y)) := Lib.hid (by rw [HTC.out, hy])
          cases z
          all_goals
            go_wp2_with fail
            go_roundw
            case rel => exact ⟨j + 1, by omega, by go_num, by rw [HTY.out]; rfl, HJ⟩
            case measure => simp [intOf]; omega
        · have hfull : B.take j = B := List.take_of_length_le (by have := hBN.out; omega)
          rw [hfull, ← HBOTH.out, HZ.out]
          have HW4 := Lib.hid (HE4.out.trans' HJ.out)
          clear hfull
          clear HBOTH HZ
          cases z
          all_goals
            go_wp2_with fail
            go_returns
            exact ⟨rfl, HW4.out⟩
end Go.Proofs.Ytkogkcjiachphaa
