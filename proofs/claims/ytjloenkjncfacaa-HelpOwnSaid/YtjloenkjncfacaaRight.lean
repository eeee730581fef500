/- Whether a helper may be told something; whether two answers are one. -/
import Derived.Test.YtjloenkjncfacaaSame
namespace Go.Proofs.Ytjloenkjncfacaa
open Go.RowKit
set_option linter.unusedVariables false
set_option linter.unusedSimpArgs false

/-- May a helper be told that? -/
def right (id : Int) (xs : List Int) : Bool := helper id && decide (xs.take (tolds id).length = tolds id)
theorem right_no {id : Int} {xs : List Int} (h : helper id = false) : right id xs = false := by simp [right, h]
theorem right_short {id : Int} {xs : List Int} (h : ¬ (tolds id).length ≤ xs.length) : right id xs = false := by
  have : ¬ xs.take (tolds id).length = tolds id := fun e => by
    have := congrArg List.length e
    simp at this; omega
  simp [right, this]
theorem right_yes {id : Int} {xs : List Int} (h : helper id = true) : right id xs = decide (xs.take (tolds id).length = tolds id) := by simp [right, h]

set_option maxHeartbeats 1000000 in
theorem pright (id : Int) (t : Value) (xs : List Int) (w : World) (h : Sl w .u8 t xs) :
    Calls Try.prog 15 #[.int .i64 id, t] w fun e w' => e = .returned (.bool (right id xs)) ∧ Ext w w' := by
  obtain ⟨ta, tn, tc, rfl, htn, hTN⟩ := h.val
  have HT := Lib.hid h
  clear h
  cases hh : helper id with
  | false =>
    go_enter Try.func15, Try.ntmps15
    go_wp2_with (go_at_call 9; refine (psig id _).mono ?_; rintro e w1 ⟨v, rfl, hv, he⟩; obtain ⟨sa, sn, sc, rfl, hsn, hSN⟩ := hv.val; have HV := Lib.hid hv; clear hv; obtain ⟨hc, hf, hz⟩ := he.facts)
    go_quiet (fail)
    go_wp2
    go_returns
    exact ⟨ret_bool (right_no hh).symm, by (repeat (first | exact Ext.rfl' _ | assumption | refine Ext.drewN' ?_ _ | refine Ext.drew' ?_ | refine Ext.alloc' ?_ _ | refine Ext.trans' ?_ (by assumption)))⟩
  | true =>
    go_enter Try.func15, Try.ntmps15
    go_wp2_with (go_at_call 9; refine (psig id _).mono ?_; rintro e w1 ⟨v, rfl, hv, he⟩; obtain ⟨sa, sn, sc, rfl, hsn, hSN⟩ := hv.val; have HV := Lib.hid hv; clear hv; obtain ⟨hc, hf, hz⟩ := he.facts)
    by_cases hlen : (sn : Int) ≤ tn
    · have hle : decide ((sn : Int) ≤ (tn : Int)) = true := by simpa using hlen
      have hcut := fun W => HT.out.run_cut_h (P := Try.prog) el_u8.under el_u8.size .i64 (sn : Int) (by omega) hlen W
      simp only [Int.toNat_natCast] at hcut
      have HC := Lib.hid (HT.out.cut (l := 0) (m := sn) (Nat.zero_le _) (by rw [← hTN.out]; omega))
      go_quiet ((go_at_call 19; refine Calls.quiet_of (equal_u8 _ _ _ _ _ (HC.out.ext (by (repeat (first | exact Ext.rfl' _ | assumption | refine Ext.drewN' ?_ _ | refine Ext.drew' ?_ | refine Ext.alloc' ?_ _ | refine Ext.trans' ?_ (by assumption))))) (HV.out.ext (by (repeat (first | exact Ext.rfl' _ | assumption | refine Ext.drewN' ?_ _ | refine Ext.drew' ?_ | refine Ext.alloc' ?_ _ | refine Ext.trans' ?_ (by assumption))))))))
      go_wp2
      go_returns
      exact ⟨ret_bool (by rw [right_yes hh, ← hSN.out]), by (repeat (first | exact Ext.rfl' _ | assumption | refine Ext.drewN' ?_ _ | refine Ext.drew' ?_ | refine Ext.alloc' ?_ _ | refine Ext.trans' ?_ (by assumption)))⟩
    · have hle : decide ((sn : Int) ≤ (tn : Int)) = false := by simpa using hlen
      go_quiet (fail)
      go_wp2
      go_returns
      exact ⟨ret_bool (right_short (by rw [← hSN.out, ← hTN.out]; omega)).symm, by (repeat (first | exact Ext.rfl' _ | assumption | refine Ext.drewN' ?_ _ | refine Ext.drew' ?_ | refine Ext.alloc' ?_ _ | refine Ext.trans' ?_ (by assumption)))⟩

set_option maxHeartbeats 1000000 in
theorem rright (id : Int) (t : Value) (xs : List Int) (w : World) (h : Sl w .u8 t xs) :
    Calls Try.prog 16 #[.int .i64 id, t] w fun e w' => e = .returned (.bool (right id xs)) ∧ Ext w w' := by
  obtain ⟨ta, tn, tc, rfl, htn, hTN⟩ := h.val
  have HT := Lib.hid h
  clear h
  cases hh : helper id with
  | false =>
    go_enter Try.func16, Try.ntmps16
    go_wp2_with (go_at_call 12; refine (rsig id _).mono ?_; rintro e w1 ⟨v, rfl, hv, he⟩; obtain ⟨sa, sn, sc, rfl, hsn, hSN⟩ := hv.val; have HV := Lib.hid hv; clear hv; obtain ⟨hc, hf, hz⟩ := he.facts)
    go_returns
    exact ⟨ret_bool (right_no hh).symm, by (repeat (first | exact Ext.rfl' _ | assumption | refine Ext.drewN' ?_ _ | refine Ext.drew' ?_ | refine Ext.alloc' ?_ _ | refine Ext.trans' ?_ (by assumption)))⟩
  | true =>
    go_enter Try.func16, Try.ntmps16
    go_wp2_with (go_at_call 12; refine (rsig id _).mono ?_; rintro e w1 ⟨v, rfl, hv, he⟩; obtain ⟨sa, sn, sc, rfl, hsn, hSN⟩ := hv.val; have HV := Lib.hid hv; clear hv; obtain ⟨hc, hf, hz⟩ := he.facts)
    · go_returns
      exact ⟨ret_bool (right_short (by have : tn < sn := by assumption
                                       rw [← hSN.out, ← hTN.out]; omega)).symm, by (repeat (first | exact Ext.rfl' _ | assumption | refine Ext.drewN' ?_ _ | refine Ext.drew' ?_ | refine Ext.alloc' ?_ _ | refine Ext.trans' ?_ (by assumption)))⟩
    · have hlen : ¬ tn < sn := by assumption
      have hc0 : ((w1.alloc (.cells #[.slice sa sn sc, .int .u8 (tells id), .bool (draws id), .int .u64 (most id)] 27)).cell? ⟨w1.heap.size, 0, none⟩) = some (.slice sa sn sc) := by simp
      go_loopw [7] (fun i wr => ∃ k : Nat, k ≤ sn ∧ i = .int .i64 k ∧ Ext w1 wr ∧ wr.cell? ⟨w1.heap.size, 0, none⟩ = some (.slice sa sn sc) ∧ Hid (xs.take k = (tolds id).take k)) (fun i _ => sn - (intOf i).toNat)
      case atStart => exact ⟨0, Nat.zero_le _, rfl, by (repeat (first | exact Ext.rfl' _ | assumption | refine Ext.drewN' ?_ _ | refine Ext.drew' ?_ | refine Ext.alloc' ?_ _ | refine Ext.trans' ?_ (by assumption))), hc0, Lib.hid rfl⟩
      case round =>
        clear hc hf hz hc0
        obtain ⟨k, hk, rfl, hwr, hcl, HK⟩ := hrel
        by_cases hlt : k < sn
        · obtain ⟨x, hx⟩ := at_of_lt (xs := xs) (k := k) (by have := hTN.out; omega)
          obtain ⟨y, hy⟩ := at_of_lt (xs := tolds id) (k := k) (by have := hSN.out; omega)
          have ia := fun W => HT.out.run_at (P := Try.prog) el_u8.under el_u8.size .i64 (k : Int) (by omega) (by omega) W
          have ib := fun W => HV.out.run_at (P := Try.prog) el_u8.under el_u8.size .i64 (k : Int) (by omega) (by omega) W
          have ca := (HT.out.ext (he.trans' hwr)).cell hx (j := 0) rfl
          have cb := (HV.out.ext hwr).cell hy (j := 0) rfl
          simp only [Nat.mul_one, Nat.add_zero, Int.toNat_natCast] at ia ib ca cb
          have HX := Lib.hid hx
          have HY := Lib.hid hy
          clear hx hy
          by_cases e : x = y
          · have he1 : (x != y) = false := by simp [e]
            have HE := Lib.hid e
            clear e
            go_wp2
            go_quiet (fail)
            go_wp2
            go_roundw
            case rel => exact ⟨k + 1, by omega, by go_num, by (repeat (first | exact Ext.rfl' _ | assumption | refine Ext.drewN' ?_ _ | refine Ext.drew' ?_ | refine Ext.alloc' ?_ _ | refine Ext.trans' ?_ (by assumption))), by simpa using hcl, Lib.hid (take_step HK.out HX.out HY.out HE.out)⟩
            case measure => simp [intOf]; omega
          · have he1 : (x != y) = true := by simp [e]
            go_wp2
            go_quiet (fail)
            go_wp2
            go_returns
            exact ⟨ret_bool (by rw [right_yes hh, decide_eq_false]; exact fun h => ne_of_at (by rw [List.getElem?_take_of_lt (by rw [← hSN.out]; exact hlt)]; exact HX.out) HY.out e h), by (repeat (first | exact Ext.rfl' _ | assumption | refine Ext.drewN' ?_ _ | refine Ext.drew' ?_ | refine Ext.alloc' ?_ _ | refine Ext.trans' ?_ (by assumption)))⟩
        · go_wp2
          go_returns
          have e1 : xs.take (tolds id).length = tolds id := by
            have h := HK.out
            have h1 := hSN.out
            rw [show k = (tolds id).length from by omega] at h
            rwa [List.take_of_length_le (Nat.le_refl _)] at h
          exact ⟨ret_bool (by rw [right_yes hh, decide_eq_true e1]), by (repeat (first | exact Ext.rfl' _ | assumption | refine Ext.drewN' ?_ _ | refine Ext.drew' ?_ | refine Ext.alloc' ?_ _ | refine Ext.trans' ?_ (by assumption)))⟩
end Go.Proofs.Ytjloenkjncfacaa
