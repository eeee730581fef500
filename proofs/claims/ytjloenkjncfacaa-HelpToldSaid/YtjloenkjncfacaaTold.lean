/- HelpTold: what a helper is told, for every id. -/
import Derived.Test.YtjloenkjncfacaaShown
namespace Go.Proofs.Ytjloenkjncfacaa
open Go.RowKit
set_option linter.unusedVariables false
set_option linter.unusedSimpArgs false

set_option maxHeartbeats 1000000 in
theorem told1 (w : World) : Calls Try.prog 4 #[.int .i64 1] w fun e w' => e = .returned (.bool true) ∧ Ext w w' := by
  go_enter Try.func4, Try.ntmps4
  go_wp2_with fail
  refine (shown _).mono ?_
  rintro e w0 ⟨rfl, he0⟩
  go_wp2_with fail
  refine (psig 1 _).mono ?_
  rintro e w1 ⟨v, rfl, hv, he⟩
  have HV : Hid (Sl w1 .u8 v [1, 2]) := Lib.hid hv
  clear hv
  obtain ⟨sa, sn, sc, rfl, hsn, hSN⟩ := HV.out.val
  obtain rfl : sn = 2 := hSN.out
  rw [show tells 1 = 2 by decide, show draws 1 = false by decide, show most 1 = 0 by decide, show helper 1 = true by decide]
  have i0 := fun W => HV.out.run_at (P := Try.prog) el_u8.under el_u8.size .i64 0 (by omega) (by omega) W
  have c0 := HV.out.cell (i := 0) rfl (j := 0) rfl
  have b0 := World.block_lt_of_cell? w1 _ c0
  have i1 := fun W => HV.out.run_at (P := Try.prog) el_u8.under el_u8.size .i64 1 (by omega) (by omega) W
  have c1 := HV.out.cell (i := 1) rfl (j := 0) rfl
  have b1 := World.block_lt_of_cell? w1 _ c1
  simp only [Nat.mul_one, Nat.add_zero, Int.toNat_zero, Nat.zero_mul, Int.toNat_one, Int.reduceToNat] at i0 c0 b0 i1 c1 b1
  go_wp2
  go_rounds 3
  go_returns
  exact ⟨rfl, by (repeat (first | exact Ext.rfl' _ | assumption | refine Ext.drewN' ?_ _ | refine Ext.drew' ?_ | refine Ext.alloc' ?_ _ | refine Ext.trans' ?_ (by assumption)))⟩

set_option maxHeartbeats 1000000 in
theorem told2 (w : World) : Calls Try.prog 4 #[.int .i64 2] w fun e w' => e = .returned (.bool true) ∧ Ext w w' := by
  go_enter Try.func4, Try.ntmps4
  go_wp2_with fail
  refine (shown _).mono ?_
  rintro e w0 ⟨rfl, he0⟩
  go_wp2_with fail
  refine (psig 2 _).mono ?_
  rintro e w1 ⟨v, rfl, hv, he⟩
  have HV : Hid (Sl w1 .u8 v [1, 2, 3, 4]) := Lib.hid hv
  clear hv
  obtain ⟨sa, sn, sc, rfl, hsn, hSN⟩ := HV.out.val
  obtain rfl : sn = 4 := hSN.out
  rw [show tells 2 = 1 by decide, show draws 2 = false by decide, show most 2 = 18446744073709551615 by decide, show helper 2 = true by decide]
  have i0 := fun W => HV.out.run_at (P := Try.prog) el_u8.under el_u8.size .i64 0 (by omega) (by omega) W
  have c0 := HV.out.cell (i := 0) rfl (j := 0) rfl
  have b0 := World.block_lt_of_cell? w1 _ c0
  have i1 := fun W => HV.out.run_at (P := Try.prog) el_u8.under el_u8.size .i64 1 (by omega) (by omega) W
  have c1 := HV.out.cell (i := 1) rfl (j := 0) rfl
  have b1 := World.block_lt_of_cell? w1 _ c1
  have i2 := fun W => HV.out.run_at (P := Try.prog) el_u8.under el_u8.size .i64 2 (by omega) (by omega) W
  have c2 := HV.out.cell (i := 2) rfl (j := 0) rfl
  have b2 := World.block_lt_of_cell? w1 _ c2
  have i3 := fun W => HV.out.run_at (P := Try.prog) el_u8.under el_u8.size .i64 3 (by omega) (by omega) W
  have c3 := HV.out.cell (i := 3) rfl (j := 0) rfl
  have b3 := World.block_lt_of_cell? w1 _ c3
  simp only [Nat.mul_one, Nat.add_zero, Int.toNat_zero, Nat.zero_mul, Int.toNat_one, Int.reduceToNat] at i0 c0 b0 i1 c1 b1 i2 c2 b2 i3 c3 b3
  go_wp2
  go_rounds 5
  go_returns
  exact ⟨rfl, by (repeat (first | exact Ext.rfl' _ | assumption | refine Ext.drewN' ?_ _ | refine Ext.drew' ?_ | refine Ext.alloc' ?_ _ | refine Ext.trans' ?_ (by assumption)))⟩

set_option maxHeartbeats 1000000 in
theorem told3 (w : World) : Calls Try.prog 4 #[.int .i64 3] w fun e w' => e = .returned (.bool true) ∧ Ext w w' := by
  go_enter Try.func4, Try.ntmps4
  go_wp2_with fail
  refine (shown _).mono ?_
  rintro e w0 ⟨rfl, he0⟩
  go_wp2_with fail
  refine (psig 3 _).mono ?_
  rintro e w1 ⟨v, rfl, hv, he⟩
  have HV : Hid (Sl w1 .u8 v [1, 2]) := Lib.hid hv
  clear hv
  obtain ⟨sa, sn, sc, rfl, hsn, hSN⟩ := HV.out.val
  obtain rfl : sn = 2 := hSN.out
  rw [show tells 3 = 1 by decide, show draws 3 = false by decide, show most 3 = 18446744073709551615 by decide, show helper 3 = true by decide]
  have i0 := fun W => HV.out.run_at (P := Try.prog) el_u8.under el_u8.size .i64 0 (by omega) (by omega) W
  have c0 := HV.out.cell (i := 0) rfl (j := 0) rfl
  have b0 := World.block_lt_of_cell? w1 _ c0
  have i1 := fun W => HV.out.run_at (P := Try.prog) el_u8.under el_u8.size .i64 1 (by omega) (by omega) W
  have c1 := HV.out.cell (i := 1) rfl (j := 0) rfl
  have b1 := World.block_lt_of_cell? w1 _ c1
  simp only [Nat.mul_one, Nat.add_zero, Int.toNat_zero, Nat.zero_mul, Int.toNat_one, Int.reduceToNat] at i0 c0 b0 i1 c1 b1
  go_wp2
  go_rounds 3
  go_returns
  exact ⟨rfl, by (repeat (first | exact Ext.rfl' _ | assumption | refine Ext.drewN' ?_ _ | refine Ext.drew' ?_ | refine Ext.alloc' ?_ _ | refine Ext.trans' ?_ (by assumption)))⟩

set_option maxHeartbeats 1000000 in
theorem told6 (w : World) : Calls Try.prog 4 #[.int .i64 6] w fun e w' => e = .returned (.bool true) ∧ Ext w w' := by
  go_enter Try.func4, Try.ntmps4
  go_wp2_with fail
  refine (shown _).mono ?_
  rintro e w0 ⟨rfl, he0⟩
  go_wp2_with fail
  refine (psig 6 _).mono ?_
  rintro e w1 ⟨v, rfl, hv, he⟩
  have HV : Hid (Sl w1 .u8 v [4, 4]) := Lib.hid hv
  clear hv
  obtain ⟨sa, sn, sc, rfl, hsn, hSN⟩ := HV.out.val
  obtain rfl : sn = 2 := hSN.out
  rw [show tells 6 = 1 by decide, show draws 6 = false by decide, show most 6 = 0 by decide, show helper 6 = true by decide]
  have i0 := fun W => HV.out.run_at (P := Try.prog) el_u8.under el_u8.size .i64 0 (by omega) (by omega) W
  have c0 := HV.out.cell (i := 0) rfl (j := 0) rfl
  have b0 := World.block_lt_of_cell? w1 _ c0
  have i1 := fun W => HV.out.run_at (P := Try.prog) el_u8.under el_u8.size .i64 1 (by omega) (by omega) W
  have c1 := HV.out.cell (i := 1) rfl (j := 0) rfl
  have b1 := World.block_lt_of_cell? w1 _ c1
  simp only [Nat.mul_one, Nat.add_zero, Int.toNat_zero, Nat.zero_mul, Int.toNat_one, Int.reduceToNat] at i0 c0 b0 i1 c1 b1
  go_wp2
  go_rounds 3
  go_returns
  exact ⟨rfl, by (repeat (first | exact Ext.rfl' _ | assumption | refine Ext.drewN' ?_ _ | refine Ext.drew' ?_ | refine Ext.alloc' ?_ _ | refine Ext.trans' ?_ (by assumption)))⟩

set_option maxHeartbeats 1000000 in
theorem told5 (w : World) : Calls Try.prog 4 #[.int .i64 5] w fun e w' => e = .returned (.bool true) ∧ Ext w w' := by
  go_enter Try.func4, Try.ntmps4
  go_wp2_with fail
  refine (shown _).mono ?_
  rintro e w0 ⟨rfl, he0⟩
  go_wp2_with fail
  refine (psig 5 _).mono ?_
  rintro e w1 ⟨v, rfl, hv, he⟩
  have HV : Hid (Sl w1 .u8 v []) := Lib.hid hv
  clear hv
  obtain ⟨sa, sn, sc, rfl, hsn, hSN⟩ := HV.out.val
  obtain rfl : sn = 0 := hSN.out
  rw [show tells 5 = 1 by decide, show draws 5 = true by decide, show most 5 = 18446744073709551615 by decide, show helper 5 = true by decide]
  go_wp2
  go_rounds 1
  go_returns
  exact ⟨rfl, by (repeat (first | exact Ext.rfl' _ | assumption | refine Ext.drewN' ?_ _ | refine Ext.drew' ?_ | refine Ext.alloc' ?_ _ | refine Ext.trans' ?_ (by assumption)))⟩

set_option maxHeartbeats 1000000 in
theorem told7 (w : World) : Calls Try.prog 4 #[.int .i64 7] w fun e w' => e = .returned (.bool true) ∧ Ext w w' := by
  go_enter Try.func4, Try.ntmps4
  go_wp2_with fail
  refine (shown _).mono ?_
  rintro e w0 ⟨rfl, he0⟩
  go_wp2_with fail
  refine (psig 7 _).mono ?_
  rintro e w1 ⟨v, rfl, hv, he⟩
  have HV : Hid (Sl w1 .u8 v []) := Lib.hid hv
  clear hv
  obtain ⟨sa, sn, sc, rfl, hsn, hSN⟩ := HV.out.val
  obtain rfl : sn = 0 := hSN.out
  rw [show tells 7 = 1 by decide, show draws 7 = true by decide, show most 7 = 4294967295 by decide, show helper 7 = true by decide]
  go_wp2
  go_rounds 1
  go_returns
  exact ⟨rfl, by (repeat (first | exact Ext.rfl' _ | assumption | refine Ext.drewN' ?_ _ | refine Ext.drew' ?_ | refine Ext.alloc' ?_ _ | refine Ext.trans' ?_ (by assumption)))⟩

set_option maxHeartbeats 1000000 in
theorem told8 (w : World) : Calls Try.prog 4 #[.int .i64 8] w fun e w' => e = .returned (.bool true) ∧ Ext w w' := by
  go_enter Try.func4, Try.ntmps4
  go_wp2_with fail
  refine (shown _).mono ?_
  rintro e w0 ⟨rfl, he0⟩
  go_wp2_with fail
  refine (psig 8 _).mono ?_
  rintro e w1 ⟨v, rfl, hv, he⟩
  have HV : Hid (Sl w1 .u8 v []) := Lib.hid hv
  clear hv
  obtain ⟨sa, sn, sc, rfl, hsn, hSN⟩ := HV.out.val
  obtain rfl : sn = 0 := hSN.out
  rw [show tells 8 = 1 by decide, show draws 8 = true by decide, show most 8 = 63 by decide, show helper 8 = true by decide]
  go_wp2
  go_rounds 1
  go_returns
  exact ⟨rfl, by (repeat (first | exact Ext.rfl' _ | assumption | refine Ext.drewN' ?_ _ | refine Ext.drew' ?_ | refine Ext.alloc' ?_ _ | refine Ext.trans' ?_ (by assumption)))⟩

set_option maxHeartbeats 1000000 in
theorem toldNo (id : Int) (hh : helper id = false) (ht : tells id = 0) (hd : draws id = false) (hm : most id = 0) (hl : tolds id = []) (w : World) :
    Calls Try.prog 4 #[.int .i64 id] w fun e w' => e = .returned (.bool true) ∧ Ext w w' := by
  go_enter Try.func4, Try.ntmps4
  go_wp2_with fail
  refine (shown _).mono ?_
  rintro e w0 ⟨rfl, he0⟩
  go_wp2_with fail
  refine (psig id _).mono ?_
  rintro e w1 ⟨v, rfl, hv, he⟩
  rw [hl] at hv
  have HV : Hid (Sl w1 .u8 v []) := Lib.hid hv
  clear hv hl
  obtain ⟨sa, sn, sc, rfl, hsn, hSN⟩ := HV.out.val
  obtain rfl : sn = 0 := hSN.out
  go_wp2
  go_returns
  exact ⟨rfl, by (repeat (first | exact Ext.rfl' _ | assumption | refine Ext.drewN' ?_ _ | refine Ext.drew' ?_ | refine Ext.alloc' ?_ _ | refine Ext.trans' ?_ (by assumption)))⟩

theorem told_any (id : Int) (w : World) : Calls Try.prog 4 #[.int .i64 id] w fun e w' => e = .returned (.bool true) ∧ Ext w w' := by
  rcases ids id with h | h | h | h | h | h | h | ⟨h1, h2, h3, h5, h6, h7, h8⟩
  · subst h; exact told1 w
  · subst h; exact told2 w
  · subst h; exact told3 w
  · subst h; exact told5 w
  · subst h; exact told6 w
  · subst h; exact told7 w
  · subst h; exact told8 w
  · have e := h1; have e2 := h2; have e3 := h3; have e5 := h5; have e6 := h6; have e7 := h7; have e8 := h8
    simp only [beq_eq_false_iff_ne, ne_eq] at h1 h2 h3 h5 h6 h7 h8
    exact toldNo id (by simp [helper, *]) (by simp [tells, *]) (by simp [draws, *]) (by simp [most, *]) (by simp [tolds, *]) w
end Go.Proofs.Ytjloenkjncfacaa
