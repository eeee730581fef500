/- MemPlays: what its code does. -/
import Derived.Test.YtgllaiadllfliaaTwo
import Derived.Test.YtgllaiadllfliaaAct
import Derived.Test.YtgllaiadllfliaaStr
import Derived.Test.YtgllaiadllfliaaApart
import Derived.Deep.CutBlock
namespace Go.Proofs.Ytgllaiadllfliaa
open Go.RowKit
set_option linter.unusedVariables false
set_option linter.unusedSimpArgs false

set_option maxRecDepth 20000 in
set_option maxHeartbeats 4000000 in
theorem plays_any (v : Value) (L : List Act8) (w : World) (h : Rd w 8 Act8.enc v L) (hok : ∀ x ∈ L, ActOk w x) :
    Calls Try.prog 6 #[v] w (LawAns w) := by
  obtain ⟨va, vn, vc, rfl, hvn, hVN⟩ := h.val
  have HL := Lib.hid h
  have HK := Lib.hid hok
  clear h hok
  go_enter Try.func6, Try.ntmps6
  go_wp2_with fail
  refine (mem_shown w).mono ?_
  rintro e w1 ⟨rfl, he1⟩
  go_wp2_with fail
  refine (mem_new w1).mono ?_
  rintro e w2 ⟨b, r, rfl, hm, hb, hr, he2⟩
  have hE2 : Ext w (w2.alloc (.cells #[.slice none 0 0] 44)) := (he1.trans' he2).alloc' _
  have HMM := Lib.hid hm
  have h12 := he1.trans' he2
  have hlow : ∀ j ∈ [b, r, w2.heap.size], w.heap.size ≤ j ∧ j < (w2.alloc (.cells #[.slice none 0 0] 44)).heap.size := by
    have h1 := he1.size
    have h2 := hm.lt b (by simp [foot])
    have h3 := hm.lt r (by simp [foot])
    have h4 := he2.size
    intro j hj
    simp only [List.mem_cons, List.not_mem_nil, or_false] at hj
    simp
    rcases hj with rfl | rfl | rfl <;> omega
  have HLOW := Lib.hid hlow
  clear hm hb hr hlow he1 he2
  go_wp2_with fail
  refine (few_any _ L _ (HL.out.ext hE2)).mono ?_
  rintro e w3 ⟨fv, L', rfl, hown, hmem, he3⟩
  have H3 := Lib.hid (two_new (W := w) HMM.out ⟨(HLOW.out b (by simp)).1, (HLOW.out r (by simp)).1⟩ h12 he3)
  have HO3 := Lib.hid hown
  have HM3 := Lib.hid hmem
  obtain ⟨fa, fn, fc, rfl, hfn, hFN⟩ := (HO3.out.rd enc_act).val
  have HE : Hid (∀ (w' : World) (N1 N2 : Areas), Two [b, r, w2.heap.size] w3 w.heap.size w' b w2.heap.size N1 N2 → Ext w w') := Lib.hid fun w' N1 N2 k =>
    k.keep.below (hE2.trans' he3) (hE2.trans' he3).size (fun j hj => (HLOW.out j hj).1)
  have HROW : Hid (∀ (w' : World) (N1 N2 : Areas), Two [b, r, w2.heap.size] w3 w.heap.size w' b w2.heap.size N1 N2 → Rd w' 8 Act8.enc (.slice fa fn fc) L') := Lib.hid fun w' N1 N2 k =>
    (HO3.out.keep k.keep (fun j hj hj' => by have h1 := (HO3.out.lt hj).1; have h2 := (HLOW.out j hj').2; omega)).rd enc_act
  have RF := Lib.hid (HO3.out.rd enc_act)
  clear hown hmem HMM h12 he3 hE2
  generalize w2.heap.size = rb at *
  go_wp2_with fail
  go_loopw [31] (fun i wr => ∃ (j : Nat) (M : Areas), j ≤ fn ∧ i = .int .i64 j ∧ Two [b, r, rb] w3 w.heap.size wr b rb M M) (fun i _ => fn - (intOf i).toNat)
  case atStart => exact ⟨0, [], Nat.zero_le _, rfl, H3.out⟩
  case round =>
    obtain ⟨j, M, hj, rfl, hT⟩ := hrel
    have HT := Lib.hid hT
    clear hT H3
    by_cases hlt : (j : Int) < fn
    · obtain ⟨x, hx⟩ := at_of_lt (xs := L') (k := j) (by have := hFN.out; omega)
      have ix := fun W => RF.out.run_at (P := Try.prog) el_act.under el_act.size .i64 (j : Int) (by omega) (by omega) W
      simp only [Int.toNat_natCast] at ix
      obtain ⟨c0, c1, c2, c3, c4, c5, c6, c7⟩ := act_cells (HROW.out _ _ _ HT.out) hx
      rw [Act8.bv] at c5
      have hmx := HM3.out x (List.mem_of_getElem? hx)
      obtain ⟨⟨hk0, hk1⟩, ⟨hn0, hn1⟩, xs, hxs, hxu⟩ := HK.out x hmx.1
      have HXS := Lib.hid hxs
      have HXU := Lib.hid hxu
      have HN1 := Lib.hid hn1
      obtain ⟨wa, hwa⟩ : ∃ wa, wr.alloc (.cells #[.int .u8 x.kind, .int .i64 x.area, .int .i64 x.off, .int .i64 x.size, .int .u64 x.n, .slice x.ba x.bn x.bc, .bool x.blank, .bool x.fixed] 47) = wa := ⟨_, rfl⟩
      obtain ⟨F1, hF1, hT1, hback⟩ := HT.out.step (w' := wa) (by rw [← hwa]; exact (Ext.rfl' wr).alloc' _)
      have hbox : wa.heap[wr.heap.size]? = some (.cells #[.int .u8 x.kind, .int .i64 x.area, .int .i64 x.off, .int .i64 x.size, .int .u64 x.n, .slice x.ba x.bn x.bc, .bool x.blank, .bool x.fixed] 47 (0, 0)) := by rw [← hwa]; exact obj_top _ _ rfl
      have HBOX : Hid (∀ (w' : World) (N1 N2 : Areas), Two F1 wa w.heap.size w' b rb N1 N2 → w'.heap[wr.heap.size]? = some (.cells #[.int .u8 x.kind, .int .i64 x.area, .int .i64 x.off, .int .i64 x.size, .int .u64 x.n, .slice x.ba x.bn x.bc, .bool x.blank, .bool x.fixed] 47 (0, 0))) :=
        Lib.hid fun w' N1 N2 k => k.keep.obj hbox (fun hj => by have := hF1 _ hj; omega)
      have HT1 := Lib.hid hT1
      have HBACK := Lib.hid hback
      have HWA := Lib.hid hwa
      clear hx hmx hxs hxu hn1 hF1 hT1 hback hbox hwa
      go_wp2_with fail
      rw [HWA.out]
      have hb0 := HBOX.out _ _ _ HT1.out
      have b0 := cell_obj (i := 0) hb0
      have b1 := cell_obj (i := 1) hb0
      have b2 := cell_obj (i := 2) hb0
      have b3 := cell_obj (i := 3) hb0
      have b4 := cell_obj (i := 4) hb0
      have b5 := cell_obj (i := 5) hb0
      have b6 := cell_obj (i := 6) hb0
      have b7 := cell_obj (i := 7) hb0
      simp only [List.getElem?_toArray, List.getElem?_cons_zero, List.getElem?_cons_succ] at b0 b1 b2 b3 b4 b5 b6 b7
      clear hb0 c0 c1 c2 c3 c4 c5 c6 c7 ix
      refine (mem_at x.area x.off _).mono ?_
      rintro e w4 ⟨rfl, rfl⟩
      go_wp2_with fail
      refine (ref_at x.area x.off _).mono ?_
      rintro e w4 ⟨rfl, rfl⟩
      obtain ⟨p, hp⟩ : ∃ p, mat x.area x.off = p := ⟨_, rfl⟩
      have hp0 : 0 ≤ p := by rw [← hp]; exact (mat_le _ _).1
      have HP1 : Hid (p ≤ 18446744073709551615) := Lib.hid (by rw [← hp]; exact (mat_le _ _).2)
      rw [hp]
      clear hp
      go_upto_block 2 with fail
      go_cut [9] (fun v9 wx => v9 = .bool true ∧ ∃ M', Two F1 w4 w.heap.size wx b rb M' M')
      case first =>
        have hcase : (x.kind % 5 == 0) = true ∨ ((x.kind % 5 == 0) = false ∧ (x.kind % 5 == 3) = true) ∨ ((x.kind % 5 == 0) = false ∧ (x.kind % 5 == 3) = false ∧ (x.kind % 5 == 4) = true) ∨ ((x.kind % 5 == 0) = false ∧ (x.kind % 5 == 3) = false ∧ (x.kind % 5 == 4) = false) := by
          cases (x.kind % 5 == 0) <;> cases (x.kind % 5 == 3) <;> cases (x.kind % 5 == 4) <;> simp
        rcases hcase with k1 | ⟨k1, k2⟩ | ⟨k1, k2, k3⟩ | ⟨k1, k2, k3⟩
        · go_wp2_with fail
          have hxw := HXS.out.ext (HE.out _ _ _ (HBACK.out _ _ _ HT1.out))
          rw [Act8.bv] at hxw
          have HXW := Lib.hid hxw
          clear hxw
          go_region_held3 (fun w' => w'.cell? ⟨wr.heap.size, 1, none⟩ = some (.int .i64 x.area) ∧ w'.cell? ⟨wr.heap.size, 5, none⟩ = some (.slice x.ba x.bn x.bc) ∧ w'.cell? ⟨wr.heap.size, 6, none⟩ = some (.bool x.blank) ∧ w'.cell? ⟨wr.heap.size, 7, none⟩ = some (.bool x.fixed))
            (first | go_keep | exact s6 | exact s5)
            ((first
              | (go_at_call 11; refine (two_make (HT1.out.go (by (repeat (first | exact Ext.rfl' _ | assumption | refine Ext.drewN' ?_ _ | refine Ext.drew' ?_ | refine Ext.alloc' ?_ _ | refine Ext.trans' ?_ (by assumption))))) x.area _ xs _ _ (HXW.out.ext (by (repeat (first | exact Ext.rfl' _ | assumption | refine Ext.drewN' ?_ _ | refine Ext.drew' ?_ | refine Ext.alloc' ?_ _ | refine Ext.trans' ?_ (by assumption))))) HXU.out).mono ?_; rintro e w5 ⟨rfl, h5⟩; have H5 := Lib.hid h5; have o5 := HBOX.out _ _ _ h5; have s5 : w5.cell? ⟨wr.heap.size, 1, none⟩ = some (.int .i64 x.area) ∧ w5.cell? ⟨wr.heap.size, 5, none⟩ = some (.slice x.ba x.bn x.bc) ∧ w5.cell? ⟨wr.heap.size, 6, none⟩ = some (.bool x.blank) ∧ w5.cell? ⟨wr.heap.size, 7, none⟩ = some (.bool x.fixed) := ⟨cell_obj o5, cell_obj o5, cell_obj o5, cell_obj o5⟩; have hy := HXS.out.ext (HE.out _ _ _ (HBACK.out _ _ _ h5)); rw [Act8.bv] at hy; have HY := Lib.hid hy; clear h5 o5 hy)
              | (go_at_call 18; refine (two_rmake (H5.out.go (by (repeat (first | exact Ext.rfl' _ | assumption | refine Ext.drewN' ?_ _ | refine Ext.drew' ?_ | refine Ext.alloc' ?_ _ | refine Ext.trans' ?_ (by assumption))))) x.area _ xs _ _ (HY.out.ext (by (repeat (first | exact Ext.rfl' _ | assumption | refine Ext.drewN' ?_ _ | refine Ext.drew' ?_ | refine Ext.alloc' ?_ _ | refine Ext.trans' ?_ (by assumption))))) HXU.out).mono ?_; rintro e w6 ⟨rfl, h6⟩; have H6 := Lib.hid h6; have o6 := HBOX.out _ _ _ h6; have s6 : w6.cell? ⟨wr.heap.size, 1, none⟩ = some (.int .i64 x.area) ∧ w6.cell? ⟨wr.heap.size, 5, none⟩ = some (.slice x.ba x.bn x.bc) ∧ w6.cell? ⟨wr.heap.size, 6, none⟩ = some (.bool x.blank) ∧ w6.cell? ⟨wr.heap.size, 7, none⟩ = some (.bool x.fixed) := ⟨cell_obj o6, cell_obj o6, cell_obj o6, cell_obj o6⟩; clear h6 o6)))
          all_goals
            go_wp2_with fail
            go_meet
            exact ⟨by simp, _, H6.out.go (by (repeat (first | exact Ext.rfl' _ | assumption | refine Ext.drewN' ?_ _ | refine Ext.drew' ?_ | refine Ext.alloc' ?_ _ | refine Ext.trans' ?_ (by assumption))))⟩
        · go_wp2_with fail
          refine (two_load HT1.out p x.size hp0 HP1).mono ?_
          rintro e w5 ⟨rfl, h5⟩
          have H5 := Lib.hid h5
          have c3 := cell_obj (i := 3) (HBOX.out _ _ _ h5)
          simp only [List.getElem?_toArray, List.getElem?_cons_zero, List.getElem?_cons_succ] at c3
          clear h5
          go_wp2_with fail
          refine (two_rload H5.out p x.size hp0 HP1).mono ?_
          rintro e w6 ⟨rfl, h6⟩
          have H6 := Lib.hid h6
          clear h6
          go_wp2_with fail
          go_meet
          exact ⟨by simp, _, H6.out⟩
        · go_wp2_with fail
          refine (two_read HT1.out p x.size hp0 HP1).mono ?_
          rintro e w5 ⟨v, rfl, hv, h5, -⟩
          have HV := Lib.hid hv
          have H5 := Lib.hid h5
          have c3 := cell_obj (i := 3) (HBOX.out _ _ _ h5)
          simp only [List.getElem?_toArray, List.getElem?_cons_zero, List.getElem?_cons_succ] at c3
          clear h5 hv
          obtain ⟨qa, qn, qc, rfl, hqn, hQN⟩ := HV.out.val
          go_wp2_with fail
          refine (two_rread H5.out p x.size hp0 HP1).mono ?_
          rintro e w6 ⟨v, rfl, hv, h6, he6⟩
          have HV6 := Lib.hid hv
          have H6 := Lib.hid h6
          obtain ⟨ra, rn, rc, rfl, hrn, hRN⟩ := HV6.out.val
          have s1 := (HV.out.ext he6).run_str (P := Try.prog) Try.underlying28 Try.underlying5 Try.underlying9
          have s2 := HV6.out.run_str (P := Try.prog) Try.underlying28 Try.underlying5 Try.underlying9
          have heq : ∀ z : List Int, (strOfNums z == strOfNums z) = true := fun z => str_eq _
          clear h6 hv
          go_wp2_with fail
          go_meet
          exact ⟨by simp, _, H6.out⟩
        · go_wp2_with fail
          go_region_held3 (fun w' => w'.cell? ⟨wr.heap.size, 3, none⟩ = some (.int .i64 x.size) ∧ w'.cell? ⟨wr.heap.size, 4, none⟩ = some (.int .u64 x.n))
            (first | go_keep | exact s6 | exact s5)
            ((first
              | (go_at_call 12; refine (two_store (HT1.out.go (by (repeat (first | exact Ext.rfl' _ | assumption | refine Ext.drewN' ?_ _ | refine Ext.drew' ?_ | refine Ext.alloc' ?_ _ | refine Ext.trans' ?_ (by assumption))))) p x.size x.n hp0 HP1 hn0).mono ?_; rintro e w5 ⟨rfl, h5⟩; have H5 := Lib.hid h5; have o5 := HBOX.out _ _ _ h5; have s5 : w5.cell? ⟨wr.heap.size, 3, none⟩ = some (.int .i64 x.size) ∧ w5.cell? ⟨wr.heap.size, 4, none⟩ = some (.int .u64 x.n) := ⟨cell_obj o5, cell_obj o5⟩; clear h5 o5)
              | (go_at_call 21; refine (two_rstore (H5.out.go (by (repeat (first | exact Ext.rfl' _ | assumption | refine Ext.drewN' ?_ _ | refine Ext.drew' ?_ | refine Ext.alloc' ?_ _ | refine Ext.trans' ?_ (by assumption))))) p x.size x.n hp0 HP1 hn0 HN1).mono ?_; rintro e w6 ⟨rfl, h6⟩; have H6 := Lib.hid h6; have o6 := HBOX.out _ _ _ h6; have s6 : w6.cell? ⟨wr.heap.size, 3, none⟩ = some (.int .i64 x.size) ∧ w6.cell? ⟨wr.heap.size, 4, none⟩ = some (.int .u64 x.n) := ⟨cell_obj o6, cell_obj o6⟩; clear h6 o6)))
          all_goals
            go_wp2_with fail
            go_meet
            exact ⟨by simp, _, H6.out.go (by (repeat (first | exact Ext.rfl' _ | assumption | refine Ext.drewN' ?_ _ | refine Ext.drew' ?_ | refine Ext.alloc' ?_ _ | refine Ext.trans' ?_ (by assumption))))⟩
      case rest =>
        obtain ⟨rfl, M', hT'⟩ := hcut
        have HT2 := Lib.hid hT'
        have c1 := cell_obj (i := 1) (HBOX.out _ _ _ hT')
        simp only [List.getElem?_toArray, List.getElem?_cons_zero, List.getElem?_cons_succ] at c1
        clear hT'
        go_wp2_with fail
        refine (two_area HT2.out x.area).mono ?_
        rintro e w5 ⟨v, rfl, hv, h5, -⟩
        have HV := Lib.hid hv
        have H5 := Lib.hid h5
        have c1 := cell_obj (i := 1) (HBOX.out _ _ _ h5)
        simp only [List.getElem?_toArray, List.getElem?_cons_zero, List.getElem?_cons_succ] at c1
        clear h5 hv
        obtain ⟨qa, qn, qc, rfl, hqn, hQN⟩ := HV.out.val
        go_wp2_with fail
        refine (two_rarea H5.out x.area).mono ?_
        rintro e w6 ⟨v, rfl, hv, h6, he6⟩
        have HV6 := Lib.hid hv
        have H6 := Lib.hid h6
        obtain ⟨ra, rn, rc, rfl, hrn, hRN⟩ := HV6.out.val
        have s1 := (HV.out.ext he6).run_str (P := Try.prog) Try.underlying28 Try.underlying5 Try.underlying9
        have s2 := HV6.out.run_str (P := Try.prog) Try.underlying28 Try.underlying5 Try.underlying9
        have hne : ∀ z : List Int, (strOfNums z != strOfNums z) = false := fun z => str_ne _
        have hbn : ∀ z : Bool, (z != z) = false := fun z => by cases z <;> rfl
        clear h6 hv
        go_wp2_with fail
        go_roundw
        case rel => exact ⟨j + 1, M', by omega, by go_num, HBACK.out _ _ _ H6.out⟩
        case measure => simp [intOf]; omega
    · go_wp2_with fail
      go_returns
      exact ⟨rfl, HE.out _ _ _ HT.out⟩
end Go.Proofs.Ytgllaiadllfliaa
