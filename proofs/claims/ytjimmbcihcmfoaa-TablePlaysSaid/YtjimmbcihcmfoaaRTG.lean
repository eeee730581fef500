/- The document's maps: Right. -/
import Derived.Test.YtjimmbcihcmfoaaRT
import Derived.Test.YtjimmbcihcmfoaaTabE
namespace Go.Proofs.Ytjimmbcihcmfoaa
open Go.RowKit
set_option linter.unusedVariables false
set_option linter.unusedSimpArgs false

theorem may_iff (d : TDef) : mayD d = true ↔ ((d.hash = true ∧ 1 ≤ d.key ∧ d.key ≤ 16) ∨ (d.hash = false ∧ d.key = 4)) ∧ 8 ≤ d.val ∧ d.val ≤ 64 ∧ d.val % 8 = 0 ∧ 1 ≤ d.max ∧ d.max ≤ 16 := by
  unfold mayD
  cases d.hash <;> simp [and_assoc]
theorem right_no {ds : List TDef} {j : Nat} {d : TDef} (hd : ds[j]? = some d) (h : ¬ mayD d = true) : rightL ds = false := by
  unfold rightL
  have : ds.all mayD = false := by
    rw [Bool.eq_false_iff]
    intro h'
    exact h (List.all_eq_true.1 h' d (List.mem_of_getElem? hd))
  rw [this]; simp
set_option maxRecDepth 20000 in
set_option maxHeartbeats 4000000 in
theorem rtab_right (dv : Value) (ds : List TDef) (w : World) (h : Rd w 4 TDef.enc dv ds) : Calls Try.prog 13 #[dv] w (BoolAns (rightL ds) w) := by
  obtain ⟨a, n, c, rfl, hn, hN⟩ := h.val
  have HD := Lib.hid h
  clear h
  go_enter Try.func13, Try.ntmps13
  go_wp2_with fail
  go_loopw [3] (fun q wr => ∃ (j : Nat), j ≤ n ∧ q = .int .i64 j ∧ Ext w wr ∧ Hid (∀ (q : Nat) d, q < j → ds[q]? = some d → mayD d = true)) (fun q _ => n - (intOf q).toNat)
  case atStart => exact ⟨0, Nat.zero_le _, rfl, Ext.rfl' _, Lib.hid (fun q d h => by omega)⟩
  case round =>
    obtain ⟨j, hj, rfl, hwr, HALL⟩ := hrel
    by_cases hlt : (j : Int) < n
    · obtain ⟨d, hd⟩ := at_of_lt (xs := ds) (k := j) (by have := hN.out; omega)
      have ix := fun W => HD.out.run_at (P := Try.prog) el_def.under el_def.size .i64 (j : Int) (by omega) (by omega) W
      simp only [Int.toNat_natCast] at ix
      obtain ⟨c0, c1, c2, c3⟩ := def_cells (HD.out.ext hwr) hd
      have HDJ := Lib.hid hd
      clear hd
      obtain ⟨dh, dk, dl, dm⟩ := d
      have HM := Lib.hid (may_iff ⟨dh, dk, dl, dm⟩)
      simp only at c0 c1 c2 c3 HM
      by_cases h8 : dl < 8
      · have HNO : Hid (rightL ds = false) := Lib.hid (right_no HDJ.out (by rw [HM.out]; omega))
        cases dh
        all_goals
          go_wp2_with fail
          all_goals
            go_returns
            exact ⟨by rw [HNO.out]; rfl, by (repeat (first | exact Ext.rfl' _ | assumption | refine Ext.drewN' ?_ _ | refine Ext.drew' ?_ | refine Ext.alloc' ?_ _ | refine Ext.trans' ?_ (by assumption)))⟩
      have ht : dl.tmod 8 = dl % 8 := Int.tmod_eq_emod_of_nonneg (by omega)
      cases dh
      all_goals
        go_wp2_with fail
        all_goals first
          | (go_returns
             have HNO : rightL ds = false := right_no HDJ.out (by rw [HM.out]; simp; omega)
             exact ⟨by rw [HNO]; rfl, by (repeat (first | exact Ext.rfl' _ | assumption | refine Ext.drewN' ?_ _ | refine Ext.drew' ?_ | refine Ext.alloc' ?_ _ | refine Ext.trans' ?_ (by assumption)))⟩)
          | (go_roundw
             case rel => exact ⟨j + 1, by omega, by go_num, by (repeat (first | exact Ext.rfl' _ | assumption | refine Ext.drewN' ?_ _ | refine Ext.drew' ?_ | refine Ext.alloc' ?_ _ | refine Ext.trans' ?_ (by assumption))), Lib.hid (fun q d hq hd => by
               by_cases e : q = j
               · subst e; rw [HDJ.out] at hd; injection hd with hd; subst hd; rw [HM.out]; simp; omega
               · exact HALL.out q d (by omega) hd)⟩
             case measure => simp [intOf]; omega)
    · have HALL2 : Hid (ds.all mayD = true) := Lib.hid (List.all_eq_true.2 fun d hd => by
        obtain ⟨q, hq⟩ := List.getElem?_of_mem hd
        exact HALL.out q d (by have := (List.getElem?_eq_some_iff.1 hq).1; have := hN.out; omega) hq)
      have HR : Hid (rightL ds = decide ((n : Int) ≤ 8)) := Lib.hid (by unfold rightL; rw [HALL2.out, Bool.and_true]; have := hN.out; subst this; rw [decide_eq_decide]; omega)
      go_wp2_with fail
      go_returns
      refine ⟨?_, hwr⟩
      rw [HR.out]
      rfl
end Go.Proofs.Ytjimmbcihcmfoaa
