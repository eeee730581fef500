/- HelpLast: what is drawn hangs on the first number alone. -/
import Derived.Test.YtjloenkjncfacaaShown
import Derived.Test.YtjloenkjncfacaaBase2
namespace Go.Proofs.Ytjloenkjncfacaa
open Go.RowKit
set_option linter.unusedVariables false
set_option linter.unusedSimpArgs false

theorem drawn_head (id z : Int) (a b : List Int) : drawn id (z :: a) = drawn id (z :: b) ∧ drawnErr id (z :: a) = drawnErr id (z :: b) := by
  constructor
  · unfold drawn; split <;> rfl
  · simp [drawnErr]

set_option maxHeartbeats 2000000 in
theorem last_any (id : Int) (l more : Value) (xs ys : List Int) (w : World) (hl : Sl w .u64 l xs) (hm : Sl w .u64 more ys) :
    Calls Try.prog 5 #[.int .i64 id, l, more] w fun e w' => e = .returned (.bool true) ∧ Ext w w' := by
  obtain ⟨la, ln, lc, rfl, hln, hLN⟩ := hl.val
  obtain ⟨ma, mn, mc, rfl, hmn, hMN⟩ := hm.val
  have HL := Lib.hid hl
  have HR := Lib.hid hm
  clear hl hm
  obtain ⟨m, hm0, hm1, hm2, HM⟩ : ∃ m : Nat, (m : Int) ≤ ln ∧ m ≤ 100 ∧ m ≤ ln ∧ Hid ((if (100 : Int) < ln then 100 else (ln : Int)) = m) := ⟨min ln 100, by omega, by omega, by omega, by show _ = _; omega⟩
  obtain ⟨k, hk0, hk1, hk2, HK⟩ : ∃ m : Nat, (m : Int) ≤ mn ∧ m ≤ 100 ∧ m ≤ mn ∧ Hid ((if (100 : Int) < mn then 100 else (mn : Int)) = m) := ⟨min mn 100, by omega, by omega, by omega, by show _ = _; omega⟩
  have cl := fun W => HL.out.run_cut_h (P := Try.prog) el_u64.under el_u64.size .i64 (m : Int) (by omega) hm0 W
  have ct := fun W => HR.out.run_cut_h (P := Try.prog) el_u64.under el_u64.size .i64 (k : Int) (by omega) hk0 W
  simp only [Int.toNat_natCast] at cl ct
  have SL := Lib.hid (HL.out.cut (l := 0) (m := m) (Nat.zero_le _) (by rw [← hLN.out]; omega))
  have SR := Lib.hid (HR.out.cut (l := 0) (m := k) (Nat.zero_le _) (by rw [← hMN.out]; omega))
  simp only [Nat.sub_zero, List.drop_zero] at SL SR
  have hM := HM.out
  have hK := HK.out
  go_enter Try.func5, Try.ntmps5
  go_wp2_with fail
  refine (shown _).mono ?_
  rintro e w0 ⟨rfl, he0⟩
  go_wp2_with (at_builtin; refine app_own el_u64 (enc_int .u64) rfl _ _ rfl rfl (Own.made _ w0.heap.size _ _ _ ?b0 ?b1) rfl (ys := xs.take m) ?b2 ?b3 ?b4 ?b5)
  case b0 => rfl
  case b1 => exact Nat.le_refl _
  case b2 => exact SL.out.ext (by (repeat (first | exact Ext.rfl' _ | assumption | refine Ext.drewN' ?_ _ | refine Ext.drew' ?_ | refine Ext.alloc' ?_ _ | refine Ext.trans' ?_ (by assumption))))
  case b3 => simp; omega
  case b4 => simp
  intro xv w1 hown hgrow hbel
  have he1 : Ext w0 w1 := hbel _ _ (by (repeat (first | exact Ext.rfl' _ | assumption | refine Ext.drewN' ?_ _ | refine Ext.drew' ?_ | refine Ext.alloc' ?_ _ | refine Ext.trans' ?_ (by assumption)))) (Nat.le_refl _)
  obtain ⟨zs, hz⟩ : ∃ zs, zs = xs.take m := ⟨_, rfl⟩
  have hzl : zs.length ≤ 100 := by subst hz; simp; omega
  have HZ : Hid (∀ i z, zs[i]? = some z → xs[i]? = some z ∧ i < ln) := by
    subst hz
    intro i z h
    have hi : i < m := by have := (List.getElem?_eq_some_iff.1 h).1; simp at this; omega
    exact ⟨by rwa [List.getElem?_take_of_lt hi] at h, by omega⟩
  have O1 : Hid (Own w1 w0.heap.size 25 1 (fun x => [Value.int .u64 x]) xv zs) := by subst hz; exact Lib.hid (by simpa using hown)
  have R1 := Lib.hid (O1.out.rd (enc_int _))
  clear hgrow hbel hown hM cl hz SL
  obtain ⟨xa, xn, xc, rfl, hxn, hXN⟩ := R1.out.val
  cases zs with
  | nil =>
    obtain rfl : xn = 0 := hXN.out
    go_wp2_with fail
    go_returns
    exact ⟨rfl, by (repeat (first | exact Ext.rfl' _ | assumption | refine Ext.drewN' ?_ _ | refine Ext.drew' ?_ | refine Ext.alloc' ?_ _ | refine Ext.trans' ?_ (by assumption)))⟩
  | cons z zt =>
    have hx0 : (0 : Int) < xn := by have := hXN.out; simp at this; omega
    have hxz : ((xn : Int) == 0) = false := by simp; omega
    have ix := fun W => R1.out.run_at (P := Try.prog) el_u64.under el_u64.size .i64 0 (by omega) (by omega) W
    have cx := R1.out.cell (i := 0) (x := z) rfl (j := 0) rfl
    simp only [Nat.mul_one, Nat.add_zero, Int.toNat_zero, Nat.zero_mul] at ix cx
    go_wp2_with fail
    go_region_held3 (fun w' => w'.cell? (elt (.slice xa xn xc) 0) = some (.int .u64 z)) (first | go_keep | (go_split_ands; exact he2.cellOf (by assumption)))
      ((apply app_step el_u64 (enc_int .u64) (xs := [z]) (ys := ys.take k) (base := w1.heap.size); (case hgd => rfl); (case ho => rfl); (case hs => rfl); (case hown => exact Own.drew (Own.lit (enc_int .u64) (w := w1) [z] rfl rfl (Nat.le_refl _) (by simp [maxLen]))); (case hx => rfl); (case hy => exact SR.out.ext (by (repeat (first | exact Ext.rfl' _ | assumption | refine Ext.drewN' ?_ _ | refine Ext.drew' ?_ | refine Ext.alloc' ?_ _ | refine Ext.trans' ?_ (by assumption))))); (case hbytes => simp; omega); (case hbase => simp); intro yv w2 hown2 hgrow2 hbel2; have he2 : Ext w1 w2 := hbel2 _ _ (by (repeat (first | exact Ext.rfl' _ | assumption | refine Ext.drewN' ?_ _ | refine Ext.drew' ?_ | refine Ext.alloc' ?_ _ | refine Ext.trans' ?_ (by assumption)))) (Nat.le_refl _)))
    all_goals
      have R2 : Hid (Sl w2 .u64 yv (z :: ys.take k)) := Lib.hid (hown2.rd (enc_int _))
      clear hown2 hgrow2 hbel2
      obtain ⟨ya, yn, yc, rfl, hyn, hYN⟩ := R2.out.val
      have hy1 : (0 : Int) < yn := by have := hYN.out; simp at this; omega
      go_wp2_with fail
      refine (pdraw_own id _ (z :: zt) _ (R1.out.ext (by (repeat (first | exact Ext.rfl' _ | assumption | refine Ext.drewN' ?_ _ | refine Ext.drew' ?_ | refine Ext.alloc' ?_ _ | refine Ext.trans' ?_ (by assumption))))) (by omega)).mono ?_
      rintro e w3 ⟨v3, rfl, hv3, he3⟩
      obtain ⟨a3, n3, c3, rfl, hn3, hN3⟩ := (hv3.rd (enc_int _)).val
      have O3 := Lib.hid hv3
      clear hv3
      go_wp2_with fail
      refine (pdraw id _ (z :: ys.take k) _ (R2.out.ext (by (repeat (first | exact Ext.rfl' _ | assumption | refine Ext.drewN' ?_ _ | refine Ext.drew' ?_ | refine Ext.alloc' ?_ _ | refine Ext.trans' ?_ (by assumption))))) (by simp; omega)).mono ?_
      rintro e w4 ⟨v4, rfl, hv4, he4⟩
      obtain ⟨a4, n4, c4, rfl, hn4, hN4⟩ := hv4.val
      clear hv4
      rw [← (drawn_head id z zt (ys.take k)).1, ← (drawn_head id z zt (ys.take k)).2]
      have O4 := Lib.hid (O3.out.ext he4)
      go_wp2_with fail
      go_loopw [59] (fun i wr => ∃ j : Nat, j ≤ n3 ∧ i = .int .i64 j ∧ Ext w2 wr ∧ Hid (∃ rs : List Int, rs.length = n3 ∧ Own wr w2.heap.size 25 1 (fun x => [Value.int .u64 x]) (.slice a3 n3 c3) rs)) (fun i _ => n3 - (intOf i).toNat)
      case atStart => exact ⟨0, Nat.zero_le _, rfl, by (repeat (first | exact Ext.rfl' _ | assumption | refine Ext.drewN' ?_ _ | refine Ext.drew' ?_ | refine Ext.alloc' ?_ _ | refine Ext.trans' ?_ (by assumption))), Lib.hid ⟨_, hN3.out.symm, O4.out⟩⟩
      case round =>
        obtain ⟨j, hj, rfl, hwr, HR3⟩ := hrel
        obtain ⟨rs, hrs, hO⟩ := HR3.out
        clear HR3
        by_cases hlt : j < n3
        · obtain ⟨r, hr⟩ := at_of_lt (xs := rs) (k := j) (by omega)
          obtain ⟨f1, f2, f3, f4, f5⟩ := hO.at hr
          have ia := fun W => (hO.rd (enc_int _)).run_at (P := Try.prog) el_u64.under el_u64.size .i64 (j : Int) (by omega) (by omega) W
          simp only [Nat.mul_one, Int.toNat_natCast] at ia
          have HF := Lib.hid (f5 7)
          have HL3 := Lib.hid hrs
          clear f5 hr hrs hO
          go_wp2_with fail
          go_roundw
          case rel => exact ⟨j + 1, by omega, by go_num, HF.out.2 _ _ hwr (Nat.le_refl _), Lib.hid ⟨rs.set j 7, by rw [List.length_set]; exact HL3.out, HF.out.1⟩⟩
          case measure => simp [intOf]; omega
        · clear hO
          have e1 : (drawn id (z :: zt) == drawn id (z :: zt)) = true := by simp
          have e2 : (drawnErr id (z :: zt) == drawnErr id (z :: zt)) = true := by simp
          have cx1 := hwr.cellOf (he2.cellOf cx)
          have e3 : (z == z) = true := by simp
          have hcase : (drawnErr id (z :: zt) != 0) = true ∨ ((drawnErr id (z :: zt) != 0) = false ∧ ((n3 : Int) == (xn : Int) - 1) = true ∧ ((n4 : Int) == (yn : Int) - 1) = true) := by
            have h3 := hN3.out
            have h4 := hN4.out
            have h5 := hXN.out
            have h6 := hYN.out
            cases hd : draws id with
            | false => left; simp [drawnErr, hd]
            | true =>
              right
              simp only [drawnRest, hd, if_true, List.drop_succ_cons, List.drop_zero, List.length_cons] at h3 h4 h5 h6
              refine ⟨by simp [drawnErr, hd], ?_, ?_⟩
              · rw [beq_iff_eq]; omega
              · rw [beq_iff_eq]; omega
          have hlen2 : ((xn : Int) < 2 ∧ decide ((xn : Int) < 2) = true) ∨ ((2 : Int) ≤ xn ∧ decide ((xn : Int) < 2) = false) := by
            by_cases h : (xn : Int) < 2
            · exact .inl ⟨h, by simpa using h⟩
            · exact .inr ⟨by omega, by simpa using h⟩
          clear hN3 hN4
          rcases hcase with hc | ⟨hc, hc1, hc2⟩
          all_goals
            rcases hlen2 with ⟨hx2, hx3⟩ | ⟨hx2, hx3⟩
            · go_wp2_with fail
              go_quiet (fail)
              go_wp2
              go_returns
              exact ⟨rfl, by (repeat (first | exact Ext.rfl' _ | assumption | refine Ext.drewN' ?_ _ | refine Ext.drew' ?_ | refine Ext.alloc' ?_ _ | refine Ext.trans' ?_ (by assumption)))⟩
            · obtain ⟨z1, hz1⟩ := at_of_lt (xs := z :: zt) (k := 1) (by have := hXN.out; omega)
              obtain ⟨hz2, hz3⟩ := HZ.out 1 z1 hz1
              have i1 := fun W => R1.out.run_at (P := Try.prog) el_u64.under el_u64.size .i64 1 (by omega) (by omega) W
              have c1 := ((R1.out.ext he2).ext hwr).cell hz1 (j := 0) rfl
              have i2 := fun W => HL.out.run_at (P := Try.prog) el_u64.under el_u64.size .i64 1 (by omega) (by omega) W
              have c2 := (HL.out.ext (w' := wr) (by (repeat (first | exact Ext.rfl' _ | assumption | refine Ext.drewN' ?_ _ | refine Ext.drew' ?_ | refine Ext.alloc' ?_ _ | refine Ext.trans' ?_ (by assumption))))).cell hz2 (j := 0) rfl
              have e4 : (z1 == z1) = true := by simp
              simp only [Nat.mul_one, Nat.add_zero, Int.toNat_one, Nat.one_mul] at i1 c1 i2 c2
              clear hz1 hz2
              go_wp2_with fail
              go_quiet (fail)
              go_wp2
              go_returns
              exact ⟨rfl, by (repeat (first | exact Ext.rfl' _ | assumption | refine Ext.drewN' ?_ _ | refine Ext.drew' ?_ | refine Ext.alloc' ?_ _ | refine Ext.trans' ?_ (by assumption)))⟩
end Go.Proofs.Ytjloenkjncfacaa
