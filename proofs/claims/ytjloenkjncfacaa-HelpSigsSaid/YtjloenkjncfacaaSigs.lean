/- HelpSigs: the helpers are the document's. -/
import Derived.Test.YtjloenkjncfacaaShown
import Derived.Test.YtjloenkjncfacaaBase2
namespace Go.Proofs.Ytjloenkjncfacaa
open Go.RowKit
set_option linter.unusedVariables false
set_option linter.unusedSimpArgs false

/-- The first of a list, at most so many: how the walk writes min. -/
theorem min_if (n m : Int) : (if m < n then m else n) = min n m := by omega

set_option maxHeartbeats 2000000 in
theorem sigs_any (id : Int) (l told : Value) (xs ys : List Int) (w : World) (hl : Sl w .u64 l xs) (ht : Sl w .u8 told ys) (hu : U64s xs) :
    Calls Try.prog 6 #[.int .i64 id, l, told] w fun e w' => e = .returned (.bool true) ∧ Ext w w' := by
  obtain ⟨la, ln, lc, rfl, hln, hLN⟩ := hl.val
  obtain ⟨ta, tn, tc, rfl, htn, hTN⟩ := ht.val
  have HL := Lib.hid hl
  have HT := Lib.hid ht
  have HU := Lib.hid hu
  clear hl ht hu
  obtain ⟨m, hm0, hm1, hm2, HM⟩ : ∃ m : Nat, (m : Int) ≤ ln ∧ m ≤ 100 ∧ m ≤ ln ∧ Hid ((if (100 : Int) < ln then 100 else (ln : Int)) = m) := ⟨min ln 100, by omega, by omega, by omega, by show _ = _; omega⟩
  obtain ⟨k, hk0, hk1, hk2, HK⟩ : ∃ m : Nat, (m : Int) ≤ tn ∧ m ≤ 20 ∧ m ≤ tn ∧ Hid ((if (20 : Int) < tn then 20 else (tn : Int)) = m) := ⟨min tn 20, by omega, by omega, by omega, by show _ = _; omega⟩
  have cl := fun W => HL.out.run_cut_h (P := Try.prog) el_u64.under el_u64.size .i64 (m : Int) (by omega) hm0 W
  have ct := fun W => HT.out.run_cut_h (P := Try.prog) el_u8.under el_u8.size .i64 (k : Int) (by omega) hk0 W
  simp only [Int.toNat_natCast] at cl ct
  have SL := Lib.hid (HL.out.cut (l := 0) (m := m) (Nat.zero_le _) (by rw [← hLN.out]; omega))
  have ST := Lib.hid (HT.out.cut (l := 0) (m := k) (Nat.zero_le _) (by rw [← hTN.out]; omega))
  simp only [Nat.sub_zero, List.drop_zero] at SL ST
  have hM := HM.out
  have hK := HK.out
  go_enter Try.func6, Try.ntmps6
  go_wp2_with fail
  go_quiet (fail)
  clear hM hK cl ct
  go_wp2_with fail
  refine (psig id _).mono ?_
  rintro e w1 ⟨v1, rfl, hv1, he1⟩
  obtain ⟨a1, n1, c1, rfl, hn1, hN1⟩ := hv1.val
  have HV1 := Lib.hid hv1
  clear hv1
  go_wp2_with fail
  refine (rsig id _).mono ?_
  rintro e w2 ⟨v2, rfl, hv2, he2⟩
  obtain ⟨a2, n2, c2, rfl, hn2, hN2⟩ := hv2.val
  have HV2 := Lib.hid hv2
  clear hv2
  have r1 := he2.row
  have b1 := alloc_lt he2
  go_wp2_with fail
  refine (pdraw id _ (xs.take m) _ (SL.out.ext (by (repeat (first | exact Ext.rfl' _ | assumption | refine Ext.drewN' ?_ _ | refine Ext.drew' ?_ | refine Ext.alloc' ?_ _ | refine Ext.trans' ?_ (by assumption))))) (by simp; omega)).mono ?_
  rintro e w3 ⟨v3, rfl, hv3, he3⟩
  obtain ⟨a3, n3, c3, rfl, hn3, hN3⟩ := hv3.val
  have HV3 := Lib.hid hv3
  clear hv3
  have r2 := he3.row
  have b2 := alloc_lt he3
  have r1' := Ext.rowLater (W' := w3) r1 b1 (by (repeat (first | exact Ext.rfl' _ | assumption | refine Ext.drewN' ?_ _ | refine Ext.drew' ?_ | refine Ext.alloc' ?_ _ | refine Ext.trans' ?_ (by assumption))))
  go_wp2_with fail
  refine (rdraw id _ (xs.take m) _ (SL.out.ext (by (repeat (first | exact Ext.rfl' _ | assumption | refine Ext.drewN' ?_ _ | refine Ext.drew' ?_ | refine Ext.alloc' ?_ _ | refine Ext.trans' ?_ (by assumption))))) (by simp; omega) (fun x hx => HU.out x (List.mem_of_mem_take hx))).mono ?_
  rintro e w4 ⟨v4, rfl, hv4, he4⟩
  obtain ⟨a4, n4, c4, rfl, hn4, hN4⟩ := hv4.val
  have HV4 := Lib.hid hv4
  clear hv4
  have b1' := Nat.lt_of_lt_of_le b1 (show w2.heap.size ≤ w3.heap.size by have := he3.size; simp at this; omega)
  have q1 := Ext.rowLater (W' := w4) r1' b1' he4
  have q2 := Ext.rowLater (W' := w4) r2 b2 he4
  have b1'' := Nat.lt_of_lt_of_le b1' he4.size
  have b2'' := Nat.lt_of_lt_of_le b2 he4.size
  clear r1 r1' r2 b1 b1' b2
  go_wp2_with fail
  refine (shown _).mono ?_
  rintro e w5 ⟨rfl, he5⟩
  have r1 := Ext.rowLater (W' := w5) q1 b1'' he5
  have r2 := Ext.rowLater (W' := w5) q2 b2'' he5
  clear q1 q2
  go_wp2_with fail
  refine (same _ _ (tolds id) _ _ _ _ (HV1.out.ext (by (repeat (first | exact Ext.rfl' _ | assumption | refine Ext.drewN' ?_ _ | refine Ext.drew' ?_ | refine Ext.alloc' ?_ _ | refine Ext.trans' ?_ (by assumption))))) (HV2.out.ext (by (repeat (first | exact Ext.rfl' _ | assumption | refine Ext.drewN' ?_ _ | refine Ext.drew' ?_ | refine Ext.alloc' ?_ _ | refine Ext.trans' ?_ (by assumption)))))).mono ?_
  rintro e w6 ⟨rfl, he6⟩
  have e1 : (helper id == helper id) = true := by simp
  have e2 : (drawn id (xs.take m) == drawn id (xs.take m)) = true := by simp
  have e3 : (drawnErr id (xs.take m) == drawnErr id (xs.take m)) = true := by simp
  have e4 : (right id (ys.take k) == right id (ys.take k)) = true := by simp
  go_wp2_with fail
  refine (nums _ _ (drawnRest id (xs.take m)) (drawnRest id (xs.take m)) _ (HV3.out.ext (by (repeat (first | exact Ext.rfl' _ | assumption | refine Ext.drewN' ?_ _ | refine Ext.drew' ?_ | refine Ext.alloc' ?_ _ | refine Ext.trans' ?_ (by assumption))))) (HV4.out.ext (by (repeat (first | exact Ext.rfl' _ | assumption | refine Ext.drewN' ?_ _ | refine Ext.drew' ?_ | refine Ext.alloc' ?_ _ | refine Ext.trans' ?_ (by assumption)))))).mono ?_
  rintro e w7 ⟨rfl, nq, rfl⟩
  rw [decide_eq_true rfl]
  go_wp2_with fail
  refine (pright id _ (ys.take k) _ (ST.out.ext (by (repeat (first | exact Ext.rfl' _ | assumption | refine Ext.drewN' ?_ _ | refine Ext.drew' ?_ | refine Ext.alloc' ?_ _ | refine Ext.trans' ?_ (by assumption)))))).mono ?_
  rintro e w8 ⟨rfl, he8⟩
  go_wp2_with fail
  refine (rright id _ (ys.take k) _ (ST.out.ext (by (repeat (first | exact Ext.rfl' _ | assumption | refine Ext.drewN' ?_ _ | refine Ext.drew' ?_ | refine Ext.alloc' ?_ _ | refine Ext.trans' ?_ (by assumption)))))).mono ?_
  rintro e w9 ⟨rfl, he9⟩
  go_wp2_with fail
  go_returns
  exact ⟨rfl, by (repeat (first | exact Ext.rfl' _ | assumption | refine Ext.drewN' ?_ _ | refine Ext.drew' ?_ | refine Ext.alloc' ?_ _ | refine Ext.trans' ?_ (by assumption)))⟩
end Go.Proofs.Ytjloenkjncfacaa
