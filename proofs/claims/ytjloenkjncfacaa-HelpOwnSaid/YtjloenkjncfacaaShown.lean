/- The document's examples; two answers of Sig held against each other. -/
import Derived.Test.YtjloenkjncfacaaRight
namespace Go.Proofs.Ytjloenkjncfacaa
open Go.RowKit
set_option linter.unusedVariables false
set_option linter.unusedSimpArgs false

set_option maxHeartbeats 1000000 in
theorem same (v v' : Value) (xs : List Int) (t m : Int) (d : Bool) (w : World) (h : Sl w .u8 v xs) (h' : Sl w .u8 v' xs) :
    Calls Try.prog 14 #[.agg #[v, .int .u8 t, .bool d, .int .u64 m], .agg #[v', .int .u8 t, .bool d, .int .u64 m]] w fun e w' => e = .returned (.bool true) ∧ Ext w w' := by
  obtain ⟨ta, tn, tc, rfl, htn, hTN⟩ := h.val
  obtain ⟨sa, sn, sc, rfl, hsn, hSN⟩ := h'.val
  obtain rfl : sn = tn := hSN.out.trans hTN.out.symm
  have HT := Lib.hid h
  have HS := Lib.hid h'
  clear h h'
  have h1 : (d != d) = false := by simp
  have h2 : (t != t) = false := by simp
  have h3 : (m != m) = false := by simp
  go_enter Try.func14, Try.ntmps14
  go_wp2
  have c1 : (((w.alloc (.cells #[.slice ta sn tc, .int .u8 t, .bool d, .int .u64 m] 27)).alloc (.cells #[.slice sa sn sc, .int .u8 t, .bool d, .int .u64 m] 27)).cell? ⟨w.heap.size, 0, none⟩) = some (.slice ta sn tc) := by simp [go_sem]
  have c2 : (((w.alloc (.cells #[.slice ta sn tc, .int .u8 t, .bool d, .int .u64 m] 27)).alloc (.cells #[.slice sa sn sc, .int .u8 t, .bool d, .int .u64 m] 27)).cell? ⟨w.heap.size + 1, 0, none⟩) = some (.slice sa sn sc) := by simp [go_sem]
  go_loopw [5] (fun i wr => ∃ k : Nat, k ≤ sn ∧ i = .int .i64 k ∧ Ext w wr ∧ wr.cell? ⟨w.heap.size, 0, none⟩ = some (.slice ta sn tc) ∧ wr.cell? ⟨w.heap.size + 1, 0, none⟩ = some (.slice sa sn sc)) (fun i _ => sn - (intOf i).toNat)
  case atStart => exact ⟨0, Nat.zero_le _, rfl, by (repeat (first | exact Ext.rfl' _ | assumption | refine Ext.drewN' ?_ _ | refine Ext.drew' ?_ | refine Ext.alloc' ?_ _ | refine Ext.trans' ?_ (by assumption))), c1, c2⟩
  case round =>
    clear c1 c2
    obtain ⟨k, hk, rfl, hwr, hc1, hc2⟩ := hrel
    by_cases hlt : k < sn
    · obtain ⟨x, hx⟩ := at_of_lt (xs := xs) (k := k) (by have := hTN.out; omega)
      have ia := fun W => HT.out.run_at (P := Try.prog) el_u8.under el_u8.size .i64 (k : Int) (by omega) (by omega) W
      have ib := fun W => HS.out.run_at (P := Try.prog) el_u8.under el_u8.size .i64 (k : Int) (by omega) (by omega) W
      have ca := (HT.out.ext hwr).cell hx (j := 0) rfl
      have cb := (HS.out.ext hwr).cell hx (j := 0) rfl
      simp only [Nat.mul_one, Nat.add_zero, Int.toNat_natCast] at ia ib ca cb
      clear hx
      have he1 : (x != x) = false := by simp
      go_wp2
      go_quiet (fail)
      go_wp2
      go_roundw
      case rel => exact ⟨k + 1, by omega, by go_num, by (repeat (first | exact Ext.rfl' _ | assumption | refine Ext.drewN' ?_ _ | refine Ext.drew' ?_ | refine Ext.alloc' ?_ _ | refine Ext.trans' ?_ (by assumption))), by simpa using hc1, by simpa using hc2⟩
      case measure => simp [intOf]; omega
    · go_wp2
      go_returns
      exact ⟨rfl, by (repeat (first | exact Ext.rfl' _ | assumption | refine Ext.drewN' ?_ _ | refine Ext.drew' ?_ | refine Ext.alloc' ?_ _ | refine Ext.trans' ?_ (by assumption)))⟩

theorem hi63 : draws 8 = true ∧ most 8 = 63 := ⟨rfl, rfl⟩
set_option maxHeartbeats 1000000 in
theorem shown (w : World) : Calls Try.prog 8 #[] w fun e w' => e = .returned (.bool true) ∧ Ext w w' := by
  go_enter Try.func8, Try.ntmps8
  go_wp2_with fail
  refine (pdraw 8 _ [130, 5] _ (sl_top [130, 5] rfl) (by decide)).mono ?_
  rintro e w1 ⟨v, rfl, hv, he⟩
  rw [show drawn 8 [130, 5] = 2 by decide, show drawnErr 8 [130, 5] = 0 by decide]
  have HV : Hid (Sl w1 .u64 v [5]) := Lib.hid hv
  clear hv
  obtain ⟨va, vn, vc, rfl, hvn, hVN⟩ := HV.out.val
  obtain rfl : vn = 1 := hVN.out
  go_wp2_with fail
  refine (pdraw 1 _ [130, 5] _ (sl_top [130, 5] rfl) (by decide)).mono ?_
  rintro e w2 ⟨v2, rfl, hv2, he2⟩
  obtain ⟨ua, un, uc, rfl, hun, hUN⟩ := hv2.val
  have HE2 := Lib.hid hv2
  clear hv2
  rw [show drawn 1 [130, 5] = 0 by decide, show drawnErr 1 [130, 5] = 1 by decide]
  have ia := fun W => HV.out.run_at (P := Try.prog) el_u64.under el_u64.size .i64 0 (by omega) (by omega) W
  have ca := (HV.out.ext (w' := w2) (by (repeat (first | exact Ext.rfl' _ | assumption | refine Ext.drewN' ?_ _ | refine Ext.drew' ?_ | refine Ext.alloc' ?_ _ | refine Ext.trans' ?_ (by assumption))))).cell (i := 0) (x := 5) rfl (j := 0) rfl
  simp only [Nat.mul_one, Nat.add_zero, Int.toNat_zero, Nat.zero_mul] at ia ca
  go_wp2
  go_returns
  exact ⟨rfl, by (repeat (first | exact Ext.rfl' _ | assumption | refine Ext.drewN' ?_ _ | refine Ext.drew' ?_ | refine Ext.alloc' ?_ _ | refine Ext.trans' ?_ (by assumption)))⟩
end Go.Proofs.Ytjloenkjncfacaa
