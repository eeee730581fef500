/- HelpDraws: what is drawn is at most Most, and one behind the other it is the list. -/
import Derived.Test.YtjloenkjncfacaaShown
import Derived.Test.YtjloenkjncfacaaBase2
namespace Go.Proofs.Ytjloenkjncfacaa
open Go.RowKit
set_option linter.unusedVariables false
set_option linter.unusedSimpArgs false

theorem drawn_le (id x : Int) (xs : List Int) (h0 : 0 ≤ x) (h1 : x ≤ 18446744073709551615) (hd : draws id = true) : drawn id (x :: xs) ≤ most id ∧ (x ≤ most id → drawn id (x :: xs) = x) := by
  have e : drawn id (x :: xs) = x % (most id + 1) := by simp only [drawn, hd, if_true]; exact and_most id x h0 h1 hd
  have hm := most_le id
  rw [e]
  refine ⟨?_, fun h => Int.emod_eq_of_lt h0 (by omega)⟩
  have := Int.emod_lt_of_pos x (show 0 < most id + 1 by omega)
  omega

set_option maxHeartbeats 2000000 in
theorem draws_any (id : Int) (l : Value) (xs : List Int) (w : World) (hl : Sl w .u64 l xs) (hu : U64s xs) :
    Calls Try.prog 3 #[.int .i64 id, l] w fun e w' => e = .returned (.bool true) ∧ Ext w w' := by
  obtain ⟨la, ln, lc, rfl, hln, hLN⟩ := hl.val
  have HL := Lib.hid hl
  have HU := Lib.hid hu
  clear hl hu
  obtain ⟨m, hm0, hm1, hm2, HM⟩ : ∃ m : Nat, (m : Int) ≤ ln ∧ m ≤ 100 ∧ m ≤ ln ∧ Hid ((if (100 : Int) < ln then 100 else (ln : Int)) = m) := ⟨min ln 100, by omega, by omega, by omega, by show _ = _; omega⟩
  have cl := fun W => HL.out.run_cut_h (P := Try.prog) el_u64.under el_u64.size .i64 (m : Int) (by omega) hm0 W
  simp only [Int.toNat_natCast] at cl
  have SL := Lib.hid (HL.out.cut (l := 0) (m := m) (Nat.zero_le _) (by rw [← hLN.out]; omega))
  simp only [Nat.sub_zero, List.drop_zero] at SL
  obtain ⟨xa, xn, xc, hx, hxn, hXN⟩ := SL.out.val
  rw [hx] at SL cl
  clear hx
  obtain ⟨zs, hz⟩ : ∃ zs, zs = xs.take m := ⟨_, rfl⟩
  have HZ : Hid (U64s zs) := by subst hz; exact fun x hx => HU.out x (List.mem_of_mem_take hx)
  have hzl : zs.length ≤ 100 := by subst hz; simp; omega
  rw [← hz] at SL hXN
  clear hz HU
  have hM := HM.out
  go_enter Try.func3, Try.ntmps3
  go_wp2_with fail
  refine (shown _).mono ?_
  rintro e w0 ⟨rfl, he0⟩
  go_wp2_with fail
  refine (psig id _).mono ?_
  rintro e w1 ⟨v1, rfl, hv1, he1⟩
  obtain ⟨a1, n1, c1, rfl, hn1, hN1⟩ := hv1.val
  have HV1 := Lib.hid hv1
  clear hv1
  cases hd : draws id with
  | false =>
    have hhd : helper id = true ∨ helper id = false := by cases helper id <;> simp
    rcases hhd with hh | hh
    all_goals
      go_wp2_with fail
      clear hM
      refine (pdraw id _ zs _ (SL.out.ext (by (repeat (first | exact Ext.rfl' _ | assumption | refine Ext.drewN' ?_ _ | refine Ext.drew' ?_ | refine Ext.alloc' ?_ _ | refine Ext.trans' ?_ (by assumption))))) (by omega)).mono ?_
      rintro e w3 ⟨v3, rfl, hv3, he3⟩
      have HV3 : Hid (Sl w3 .u64 v3 []) := by have h := hv3; simp only [drawnRest, hd] at h; exact h
      clear hv3
      obtain ⟨a3, n3, c3, rfl, hn3, hN3⟩ := HV3.out.val
      obtain rfl : n3 = 0 := hN3.out
      rw [show drawnErr id zs = 1 by simp [drawnErr, hd]]
      go_wp2_with fail
      go_returns
      exact ⟨rfl, by (repeat (first | exact Ext.rfl' _ | assumption | refine Ext.drewN' ?_ _ | refine Ext.drew' ?_ | refine Ext.alloc' ?_ _ | refine Ext.trans' ?_ (by assumption)))⟩
  | true =>
    have hh : helper id = true := by simp [draws, helper] at hd ⊢; omega
    go_wp2_with fail
    clear hM
    go_loopw [56] (fun i wr => ∃ k : Nat, k ≤ xn ∧ i = .int .i64 k ∧ Ext w wr ∧ Ext w1 wr ∧ wr.cell? ⟨w1.heap.size, 3, none⟩ = some (.int .u64 (most id))) (fun i _ => xn - (intOf i).toNat)
    case atStart => exact ⟨0, Nat.zero_le _, rfl, by (repeat (first | exact Ext.rfl' _ | assumption | refine Ext.drewN' ?_ _ | refine Ext.drew' ?_ | refine Ext.alloc' ?_ _ | refine Ext.trans' ?_ (by assumption))), by (repeat (first | exact Ext.rfl' _ | assumption | refine Ext.drewN' ?_ _ | refine Ext.drew' ?_ | refine Ext.alloc' ?_ _ | refine Ext.trans' ?_ (by assumption))), by simp⟩
    case round =>
      obtain ⟨k, hk, rfl, hwr, hwr1, hc3⟩ := hrel
      by_cases hlt : k < xn
      · obtain ⟨x, hx⟩ := at_of_lt (xs := zs) (k := k) (by have := hXN.out; omega)
        have hxm := HZ.out x (List.mem_of_getElem? hx)
        have hx0 := hxm.1
        obtain ⟨HD1, HD2⟩ := drawn_le id x (zs.drop (k + 1)) hxm.1 hxm.2 hd
        have hdr : zs.drop k = x :: zs.drop (k + 1) := by
          obtain ⟨hlt', he'⟩ := List.getElem?_eq_some_iff.1 hx
          rw [← he']; exact List.drop_eq_getElem_cons hlt'
        have ct := fun W => SL.out.run_cut_l (P := Try.prog) el_u64.under el_u64.size .i64 (k : Int) (by omega) (by omega) W
        have ct1 := fun W => SL.out.run_cut_l (P := Try.prog) el_u64.under el_u64.size .i64 ((k : Int) + 1) (by omega) (by omega) W
        have ia := fun W => SL.out.run_at (P := Try.prog) el_u64.under el_u64.size .i64 (k : Int) (by omega) (by omega) W
        have ca := (SL.out.ext hwr).cell hx (j := 0) rfl
        simp only [Nat.mul_one, Nat.add_zero, Int.toNat_natCast, show ((k : Int) + 1).toNat = k + 1 from by omega] at ia ca ct ct1
        have C0 : Hid (Sl w .u64 (cutV (.slice xa xn xc) k xn 1) (x :: zs.drop (k + 1))) := by
          have h := SL.out.cut (l := k) (m := xn) (by omega) (Nat.le_of_eq hXN.out)
          rw [hdr, List.take_of_length_le (by have := hXN.out; simp; omega)] at h
          exact h
        have C1 : Hid (Sl w .u64 (cutV (.slice xa xn xc) (k + 1) xn 1) (zs.drop (k + 1))) := by
          have h := SL.out.cut (l := k + 1) (m := xn) (by omega) (Nat.le_of_eq hXN.out)
          rw [List.take_of_length_le (by have := hXN.out; simp; omega)] at h
          exact h
        obtain ⟨y, hy⟩ : ∃ y, drawn id (x :: zs.drop (k + 1)) = y := ⟨_, rfl⟩
        rw [hy] at HD1 HD2
        have HY := Lib.hid hy
        have HDR := Lib.hid hdr
        have HX := Lib.hid hx
        have H2 := Lib.hid HD2
        clear hy hdr hx HD2 hxm
        go_wp2_with fail
        refine (pdraw id _ (x :: zs.drop (k + 1)) _ (C0.out.ext (by (repeat (first | exact Ext.rfl' _ | assumption | refine Ext.drewN' ?_ _ | refine Ext.drew' ?_ | refine Ext.alloc' ?_ _ | refine Ext.trans' ?_ (by assumption))))) (by simp; omega)).mono ?_
        rintro e w3 ⟨v3, rfl, hv3, he3⟩
        rw [HY.out, show drawnErr id (x :: zs.drop (k + 1)) = 0 by simp [drawnErr, hd]]
        have HV3 : Hid (Sl w3 .u64 v3 (zs.drop (k + 1))) := by have h := hv3; simp only [drawnRest, hd] at h; exact h
        clear hv3
        obtain ⟨a3, n3, c3, rfl, hn3, hN3⟩ := HV3.out.val
        have hc3' := he3.cellOf hc3
        have ca' := he3.cellOf ca
        have hle : decide (most id < y) = false := by simp; omega
        have HNUM : Hid (∀ n, Calls Try.prog 11 #[.slice a3 n3 c3, cutV (.slice xa xn xc) (k + 1) xn 1] (w3.drewN n) fun e w' => e = .returned (.bool true) ∧ ∃ m, w' = (w3.drewN n).drewN m) := by
          intro n
          refine (nums _ _ (zs.drop (k + 1)) (zs.drop (k + 1)) _ (HV3.out.ext (by (repeat (first | exact Ext.rfl' _ | assumption | refine Ext.drewN' ?_ _ | refine Ext.drew' ?_ | refine Ext.alloc' ?_ _ | refine Ext.trans' ?_ (by assumption))))) (C1.out.ext (by (repeat (first | exact Ext.rfl' _ | assumption | refine Ext.drewN' ?_ _ | refine Ext.drew' ?_ | refine Ext.alloc' ?_ _ | refine Ext.trans' ?_ (by assumption)))))).mono ?_
          rintro e w' ⟨rfl, h'⟩
          rw [decide_eq_true rfl]
          exact ⟨rfl, h'⟩
        by_cases hxle : x ≤ most id
        · have hxd : decide (x ≤ most id) = true := by simpa using hxle
          have hyx : (y != x) = false := by simp [H2.out hxle]
          go_wp2_with fail
          go_quiet ((go_at_call 11; exact Calls.quiet_of (HNUM.out _)))
          go_wp2
          go_roundw
          case rel => exact ⟨k + 1, by omega, by go_num, by (repeat (first | exact Ext.rfl' _ | assumption | refine Ext.drewN' ?_ _ | refine Ext.drew' ?_ | refine Ext.alloc' ?_ _ | refine Ext.trans' ?_ (by assumption))), by (repeat (first | exact Ext.rfl' _ | assumption | refine Ext.drewN' ?_ _ | refine Ext.drew' ?_ | refine Ext.alloc' ?_ _ | refine Ext.trans' ?_ (by assumption))), by simpa using hc3'⟩
          case measure => simp [intOf]; omega
        · have hxd : decide (x ≤ most id) = false := by simpa using hxle
          go_wp2_with fail
          go_quiet ((go_at_call 11; exact Calls.quiet_of (HNUM.out _)))
          go_wp2
          go_roundw
          case rel => exact ⟨k + 1, by omega, by go_num, by (repeat (first | exact Ext.rfl' _ | assumption | refine Ext.drewN' ?_ _ | refine Ext.drew' ?_ | refine Ext.alloc' ?_ _ | refine Ext.trans' ?_ (by assumption))), by (repeat (first | exact Ext.rfl' _ | assumption | refine Ext.drewN' ?_ _ | refine Ext.drew' ?_ | refine Ext.alloc' ?_ _ | refine Ext.trans' ?_ (by assumption))), by simpa using hc3'⟩
          case measure => simp [intOf]; omega
      · go_wp2_with fail
        refine (pdraw id _ [] _ (sl_none _ _) (by simp)).mono ?_
        rintro e w3 ⟨v3, rfl, hv3, he3⟩
        have HV3 : Hid (Sl w3 .u64 v3 []) := by have h := hv3; simp only [drawnRest, hd] at h; exact h
        clear hv3
        obtain ⟨a3, n3, c3, rfl, hn3, hN3⟩ := HV3.out.val
        rw [show drawnErr id [] = 100 by simp [drawnErr, hd]]
        go_wp2_with fail
        go_returns
        exact ⟨rfl, by (repeat (first | exact Ext.rfl' _ | assumption | refine Ext.drewN' ?_ _ | refine Ext.drew' ?_ | refine Ext.alloc' ?_ _ | refine Ext.trans' ?_ (by assumption)))⟩
end Go.Proofs.Ytjloenkjncfacaa
