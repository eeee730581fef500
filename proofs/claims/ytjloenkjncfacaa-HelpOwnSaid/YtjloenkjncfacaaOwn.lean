/- HelpOwn: what a helper is told is new each time. -/
import Derived.Test.YtjloenkjncfacaaShown
import Derived.Test.YtjloenkjncfacaaBase2
namespace Go.Proofs.Ytjloenkjncfacaa
open Go.RowKit
set_option linter.unusedVariables false
set_option linter.unusedSimpArgs false

theorem tolds_le (id : Int) : (tolds id).length ≤ 4 := by unfold tolds; split; · simp
                                                          split; · simp
                                                          split <;> simp
theorem right_own {id : Int} (hh : helper id = true) (ys : List Int) : right id (tolds id ++ ys) = true := by
  rw [right_yes hh]; simp
set_option maxHeartbeats 2000000 in
theorem own_any (id : Int) (more : Value) (ys : List Int) (w : World) (hm : Sl w .u8 more ys) :
    Calls Try.prog 7 #[.int .i64 id, more] w fun e w' => e = .returned (.bool true) ∧ Ext w w' := by
  obtain ⟨ma, mn, mc, rfl, hmn, hMN⟩ := hm.val
  have HR := Lib.hid hm
  clear hm
  obtain ⟨k, hk0, hk1, hk2, HK⟩ : ∃ m : Nat, (m : Int) ≤ mn ∧ m ≤ 20 ∧ m ≤ mn ∧ Hid ((if (20 : Int) < mn then 20 else (mn : Int)) = m) := ⟨min mn 20, by omega, by omega, by omega, by show _ = _; omega⟩
  have SR := Lib.hid (HR.out.cut (l := 0) (m := k) (Nat.zero_le _) (by rw [← hMN.out]; omega))
  simp only [Nat.sub_zero, List.drop_zero] at SR
  have htl := tolds_le id
  go_enter Try.func7, Try.ntmps7
  go_wp2_with fail
  refine (shown _).mono ?_
  rintro e w0 ⟨rfl, he0⟩
  go_wp2_with fail
  refine (psig_own id _).mono ?_
  rintro e w1 ⟨v1, rfl, hv1, he1⟩
  obtain ⟨a1, n1, c1, rfl, hn1, hN1⟩ := (hv1.rd (enc_int _)).val
  have O1 := Lib.hid hv1
  have R1 := Lib.hid (hv1.rd (enc_int _))
  have L1 : ∀ g, (Value.slice a1 n1 c1).ownBlock = some g → g < w1.heap.size := fun g hg => (hv1.lt hg).2
  have HL1 := Lib.hid L1
  clear hv1 L1
  cases hh : helper id with
  | false =>
    have hl0 : tolds id = [] := by
      simp only [helper, Bool.or_eq_false_iff, beq_eq_false_iff_ne, ne_eq] at hh
      simp [tolds, hh]
    obtain rfl : n1 = 0 := by have := hN1.out; rw [hl0] at this; simpa using this
    clear hl0
    go_wp2_with fail
    refine (pright id _ ys _ (HR.out.ext (by (repeat (first | exact Ext.rfl' _ | assumption | refine Ext.drewN' ?_ _ | refine Ext.drew' ?_ | refine Ext.alloc' ?_ _ | refine Ext.trans' ?_ (by assumption)))))).mono ?_
    rintro e w3 ⟨rfl, he3⟩
    rw [right_no hh]
    have r1 := he3.row
    go_wp2_with fail
    go_returns
    exact ⟨rfl, by (repeat (first | exact Ext.rfl' _ | assumption | refine Ext.drewN' ?_ _ | refine Ext.drew' ?_ | refine Ext.alloc' ?_ _ | refine Ext.trans' ?_ (by assumption)))⟩
  | true =>
    go_wp2_with (at_builtin; refine app_own el_u8 (enc_int .u8) rfl _ _ rfl rfl (Own.made _ (w1.heap.size + 1) _ _ _ ?b0 ?b1) rfl (ys := tolds id) ?b2 ?b3 ?b4 ?b5)
    case b0 => simp
    case b1 => simp
    case b2 => exact R1.out.ext (by (repeat (first | exact Ext.rfl' _ | assumption | refine Ext.drewN' ?_ _ | refine Ext.drew' ?_ | refine Ext.alloc' ?_ _ | refine Ext.trans' ?_ (by assumption))))
    case b3 => simp; omega
    case b4 => simp
    intro tv w2 hown hgrow hbel
    have he2 : Ext (w1.alloc (.cells #[.slice a1 n1 c1, .int .u8 (tells id), .bool (draws id), .int .u64 (most id)] 27)) w2 := by
      have h := hbel (w1.heap.size + 1) _ ((Below.refl (w1.heap.size + 1) _).alloc (by simp) _) (Nat.le_refl _)
      show Below (World.heap _).size _ _
      rw [World.size_alloc]
      exact h
    have O2 : Hid (Own w2 (w1.heap.size + 1) 5 1 (fun x => [Value.int .u8 x]) tv (tolds id)) := Lib.hid (by simpa using hown)
    have r1 := he2.row
    have hz1 := alloc_lt he2
    clear hown hgrow hbel
    obtain ⟨ta, tn, tc, rfl, htn, hTN⟩ := (O2.out.rd (enc_int _)).val
    have s1 : w2.cell? ⟨w1.heap.size, 0, none⟩ = some (.slice a1 n1 c1) := by rw [r1]; rfl
    have O12 := Lib.hid (O1.out.ext (w' := w2) (by (repeat (first | exact Ext.rfl' _ | assumption | refine Ext.drewN' ?_ _ | refine Ext.drew' ?_ | refine Ext.alloc' ?_ _ | refine Ext.trans' ?_ (by assumption)))))
    have heW : Ext w w2 := by (repeat (first | exact Ext.rfl' _ | assumption | refine Ext.drewN' ?_ _ | refine Ext.drew' ?_ | refine Ext.alloc' ?_ _ | refine Ext.trans' ?_ (by assumption)))
    clear r1
    clear he2
    go_wp2_with fail
    go_loopw [40] (fun i wr => ∃ j : Nat, j ≤ n1 ∧ i = .int .i64 j ∧ Ext w wr ∧ wr.cell? ⟨w1.heap.size, 0, none⟩ = some (.slice a1 n1 c1) ∧ w1.heap.size < wr.heap.size ∧ Hid (∃ rs : List Int, rs.length = n1 ∧ Own wr w0.heap.size 5 1 (fun x => [Value.int .u8 x]) (.slice a1 n1 c1) rs) ∧
        Hid (Own wr (w1.heap.size + 1) 5 1 (fun x => [Value.int .u8 x]) (.slice ta tn tc) (tolds id))) (fun i _ => n1 - (intOf i).toNat)
    case atStart => exact ⟨0, Nat.zero_le _, rfl, heW, s1, hz1, Lib.hid ⟨_, hN1.out.symm, O12.out⟩, O2⟩
    case round =>
      clear s1 hz1
      obtain ⟨j, hj, rfl, hwr, hs1, hz1, HR3, OT⟩ := hrel
      obtain ⟨rs, hrs, hO⟩ := HR3.out
      clear HR3
      by_cases hlt : j < n1
      · obtain ⟨r, hr⟩ := at_of_lt (xs := rs) (k := j) (by omega)
        obtain ⟨f1, f2, f3, f4, f5⟩ := hO.at hr
        have ia := fun W => (hO.rd (enc_int _)).run_at (P := Try.prog) el_u8.under el_u8.size .i64 (j : Int) (by omega) (by omega) W
        simp only [Nat.mul_one, Int.toNat_natCast] at ia
        have hg := HL1.out _ f3
        have hbase := (hO.lt f3).1
        have HF := Lib.hid (f5 99)
        have HL3 := Lib.hid hrs
        have OT' := Lib.hid (OT.out.other (a := elt (.slice a1 n1 c1) j) (by omega) (.int .u8 99))
        have s2 : (wr.setCell (elt (.slice a1 n1 c1) j) (.int .u8 99)).cell? ⟨w1.heap.size, 0, none⟩ = some (.slice a1 n1 c1) := by
          rw [World.cell?_setCell_other _ _ _ _ (fun e => by rw [e] at hg; simp at hg)]; exact hs1
        have S2 := Lib.hid s2
        have E2 := Lib.hid (hwr.setCell (p := elt (.slice a1 n1 c1) j) (Nat.le_trans he0.size hbase) (.int .u8 99))
        clear f3 f5 hr hrs hO s2 hbase hg
        go_wp2_with fail
        go_roundw
        case rel => exact ⟨j + 1, by omega, by go_num, E2.out, S2.out, by simpa using hz1, Lib.hid ⟨rs.set j 99, by rw [List.length_set]; exact HL3.out, HF.out.1⟩, OT'⟩
        case measure => simp [intOf]; omega
      · clear hO hrs
        have RT := Lib.hid (OT.out.rd (enc_int _))
        have hM := HK.out
        have htn5 : ¬ (5 : Int) < tn := by have := hTN.out; omega
        go_wp2_with fail
        refine (psig id _).mono ?_
        rintro e w3 ⟨v3, rfl, hv3, he3⟩
        obtain ⟨a3, n3, c3, rfl, hn3, hN3⟩ := hv3.val
        obtain rfl : n3 = tn := hN3.out.trans hTN.out.symm
        clear hv3
        have e1 : ((n3 : Int) != (n3 : Int)) = false := by simp
        have d5 : decide ((5 : Int) < n3) = false := by simpa using htn5
        have ct := fun W => HR.out.run_cut_h (P := Try.prog) el_u8.under el_u8.size .i64 (k : Int) (by omega) hk0 W
        simp only [Int.toNat_natCast] at ct
        go_wp2_with fail
        have SR3 := Lib.hid (SR.out.ext (w' := w3) (by (repeat (first | exact Ext.rfl' _ | assumption | refine Ext.drewN' ?_ _ | refine Ext.drew' ?_ | refine Ext.alloc' ?_ _ | refine Ext.trans' ?_ (by assumption)))))
        have RT3 := Lib.hid (RT.out.ext he3)
        have hE3 : Ext w w3 := by (repeat (first | exact Ext.rfl' _ | assumption | refine Ext.drewN' ?_ _ | refine Ext.drew' ?_ | refine Ext.alloc' ?_ _ | refine Ext.trans' ?_ (by assumption)))
        clear he3 he1 he0 heW hwr O1 O2 O12 OT R1 RT HL1
        have OK1 : ∀ (W : World), Below (w3.heap.size + 1) (w3.alloc (.cells #[.slice a3 n3 c3, .int .u8 (tells id), .bool (draws id), .int .u64 (most id)] 27)) W → W.cell? ⟨w3.heap.size, 0, none⟩ = some (.slice a3 n3 c3) ∧ Ext w3 W := fun W h =>
          ⟨(Below.cell h (p := ⟨w3.heap.size, 0, none⟩) (by simp)).trans (by simp), (Ext.alloc' (Ext.rfl' w3) _).trans (h.mono (by simp))⟩
        have HOK := Lib.hid OK1
        clear OK1
        go_region_held3 (fun w' => w'.cell? ⟨w3.heap.size, 0, none⟩ = some (.slice a3 n3 c3))
          (first | go_keep | exact s5 | exact s6 | exact s7)
          (first
            | (apply app_step el_u8 (enc_int .u8) (xs := []) (ys := tolds id) (base := w3.heap.size + 1); (case hw => rfl); (case ho => rfl); (case hs => rfl); (case hown => exact Own.drew (Own.made _ (w3.heap.size + 1) _ _ _ (by simp) (by simp))); (case hx => rfl); (case hy => exact RT3.out.ext (by (repeat (first | exact Ext.rfl' _ | assumption | refine Ext.drewN' ?_ _ | refine Ext.drew' ?_ | refine Ext.alloc' ?_ _ | refine Ext.trans' ?_ (by assumption))))); (case hbytes => simp; omega); (case hbase => simp); intro v5 w5 hown5 hgrow5 hbel5; have h5 := hbel5 (w3.heap.size + 1) (w3.alloc (.cells #[.slice a3 n3 c3, .int .u8 (tells id), .bool (draws id), .int .u64 (most id)] 27)) (Below.drew ((Below.refl _ _).alloc (by simp) _)) (Nat.le_refl _); obtain ⟨s5, x5⟩ := HOK.out _ h5; have H5 := Lib.hid h5; have O5 := Lib.hid hown5; clear h5 hown5 hgrow5 hbel5)
            | (apply app_step el_u8 (enc_int .u8) (xs := tolds id) (ys := ys.take k) (base := w3.heap.size + 1); (case hw => rfl); (case ho => rfl); (case hs => rfl); (case hown => exact O5.out); (case hx => rfl); (case hy => exact SR3.out.ext (by (repeat (first | exact Ext.rfl' _ | assumption | refine Ext.drewN' ?_ _ | refine Ext.drew' ?_ | refine Ext.alloc' ?_ _ | refine Ext.trans' ?_ (by assumption))))); (case hbytes => simp; omega); (case hbase => have := H5.out.size; simp at this; omega); intro v6 w6 hown6 hgrow6 hbel6; have h6 := hbel6 _ _ H5.out (Nat.le_refl _); obtain ⟨s6, x6⟩ := HOK.out _ h6; have O6 := Lib.hid hown6; clear h6 hown6 hgrow6 hbel6)
            | (go_at_call 15; refine (pright id _ (tolds id ++ ys.take k) _ (O6.out.rd (enc_int _))).mono ?_; rintro e w7 ⟨rfl, he7⟩; rw [right_own hh]; have s7 := he7.cellOf s6))
        all_goals
          clear H5 O5 O6 HOK s5 s6 hM e1 d5 htn5 ct
          by_cases hz : n3 = 0
          · have hz0 : ((n3 : Int) == 0) = true := by simp [hz]
            clear hz
            go_wp2_with fail
            go_returns
            exact ⟨rfl, by (repeat (first | exact Ext.rfl' _ | assumption | refine Ext.drewN' ?_ _ | refine Ext.drew' ?_ | refine Ext.alloc' ?_ _ | refine Ext.trans' ?_ (by assumption)))⟩
          · have hz0 : ((n3 : Int) == 0) = false := by simp [hz]
            have ct := fun W => RT3.out.run_cut_h (P := Try.prog) el_u8.under el_u8.size .i64 ((n3 : Int) - 1) (by omega) (by omega) W
            simp only [show ((n3 : Int) - 1).toNat = n3 - 1 from by omega] at ct
            have RC := Lib.hid (RT3.out.cut (l := 0) (m := n3 - 1) (Nat.zero_le _) (by rw [← hTN.out]; omega))
            have HF : Hid (right id (((tolds id).drop 0).take (n3 - 1 - 0)) = false) := Lib.hid (right_short (by rw [hTN.out] at hz ⊢; simp; omega))
            go_wp2_with fail
            refine (pright id _ _ _ (RC.out.ext (by (repeat (first | exact Ext.rfl' _ | assumption | refine Ext.drewN' ?_ _ | refine Ext.drew' ?_ | refine Ext.alloc' ?_ _ | refine Ext.trans' ?_ (by assumption)))))).mono ?_
            rintro e w8 ⟨rfl, he8⟩
            rw [HF.out]
            go_wp2_with fail
            go_returns
            exact ⟨rfl, by (repeat (first | exact Ext.rfl' _ | assumption | refine Ext.drewN' ?_ _ | refine Ext.drew' ?_ | refine Ext.alloc' ?_ _ | refine Ext.trans' ?_ (by assumption)))⟩
end Go.Proofs.Ytjloenkjncfacaa
