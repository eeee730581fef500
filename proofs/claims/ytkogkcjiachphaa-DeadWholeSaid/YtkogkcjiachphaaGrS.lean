/- hacklelaw16: ints, bools, few, shown. (printed by gen/grs.py) -/
import Derived.Test.YtkogkcjiachphaaGrD
import Derived.BigQuiet
namespace Go.Proofs.Ytkogkcjiachphaa
open Go.RowKit
set_option linter.unusedVariables false
set_option linter.unusedSimpArgs false

theorem eq_of_at {α : Type} {xs ys : List α} (hl : xs.length = ys.length) (h : ∀ i, i < xs.length → xs[i]? = ys[i]?) : xs = ys := by
  apply List.ext_getElem?
  intro i
  by_cases hi : i < xs.length
  · exact h i hi
  · rw [List.getElem?_eq_none (by omega), List.getElem?_eq_none (by omega)]
set_option maxHeartbeats 1000000 in
theorem p_ints (v1 v2 : Value) (xs ys : List Int) (w : World) (h1 : Rd w 1 encI v1 xs) (h2 : Rd w 1 encI v2 ys) : Calls Try.prog 19 #[v1, v2] w fun e w' => e = .returned (.bool (decide (xs = ys))) ∧ Ext w w' := by
  obtain ⟨a1, n1, c1, rfl, hn1, hN1⟩ := h1.val
  obtain ⟨a2, n2, c2, rfl, hn2, hN2⟩ := h2.val
  have H1 := Lib.hid h1
  have H2 := Lib.hid h2
  obtain ⟨R, hR⟩ : ∃ R, decide (xs = ys) = R := ⟨_, rfl⟩
  rw [hR]
  have HR := Lib.hid hR
  clear h1 h2 hR
  go_enter Try.func19, Try.ntmps19
  by_cases hl : (n1 : Int) = n2
  · have hb : ((n1 : Int) != n2) = false := by simpa using hl
    have hl' : n1 = n2 := by omega
    subst hl'
    go_wp2_with fail
    go_loopw [13] (fun q wr => ∃ k : Nat, k ≤ n1 ∧ q = .int .i64 k ∧ Hid (Ext w wr ∧ ∀ i, i < k → xs[i]? = ys[i]?)) (fun q _ => n1 - (intOf q).toNat)
    case atStart => exact ⟨0, Nat.zero_le _, rfl, Lib.hid ⟨Ext.rfl' _, fun i hi => absurd hi (Nat.not_lt_zero _)⟩⟩
    case round =>
      obtain ⟨k, hk, rfl, HI⟩ := hrel
      by_cases hlt : (k : Int) < n1
      · obtain ⟨x, hx⟩ := at_of_lt (xs := xs) (k := k) (by have := hN1.out; omega)
        obtain ⟨y, hy⟩ := at_of_lt (xs := ys) (k := k) (by have := hN2.out; omega)
        have ix := fun W => H1.out.run_at (P := Try.prog) el_int.under el_int.size .i64 (k : Int) (by omega) (by omega) W
        have iy := fun W => H2.out.run_at (P := Try.prog) el_int.under el_int.size .i64 (k : Int) (by omega) (by omega) W
        have cx := (H1.out.ext HI.out.1).cell hx (j := 0) rfl
        have cy := (H2.out.ext HI.out.1).cell hy (j := 0) rfl
        simp only [Nat.mul_one, Nat.add_zero, Int.toNat_natCast] at ix iy cx cy
        have HX := Lib.hid hx
        have HY := Lib.hid hy
        clear hx hy
        by_cases hxy : x = y
        · have HXY := Lib.hid hxy
          have hb2 : (x != y) = false := by simpa using hxy
          clear hxy
          skip
          all_goals
            go_wp2_with fail
            go_quiet (fail)
            go_wp2_with fail
            go_roundw
            case rel => exact ⟨k + 1, by omega, by go_num, Lib.hid ⟨by have := HI.out.1; (repeat (first | exact Ext.rfl' _ | assumption | refine Ext.drewN' ?_ _ | refine Ext.drew' ?_ | refine Ext.alloc' ?_ _ | refine Ext.trans' ?_ (by assumption))), all_succ HI.out.2 (by first | rw [HX.out, HY.out, HXY.out] | rw [HX.out, HY.out])⟩⟩
            case measure => simp [intOf]; omega
        · have HXY := Lib.hid hxy
          have hb2 : (x != y) = true := by simpa using hxy
          clear hxy
          have hr : R = false := by
            rw [← HR.out, decide_eq_false_iff_not]
            rintro rfl
            rw [HX.out] at HY
            exact HXY.out (Option.some.inj HY.out)
          have HRF := Lib.hid hr
          clear hr
          skip
          all_goals
            go_wp2_with fail
            go_quiet (fail)
            go_wp2_with fail
            go_returns
            exact ⟨by rw [HRF.out]; rfl, by have := HI.out.1; (repeat (first | exact Ext.rfl' _ | assumption | refine Ext.drewN' ?_ _ | refine Ext.drew' ?_ | refine Ext.alloc' ?_ _ | refine Ext.trans' ?_ (by assumption)))⟩
      · have hr : R = true := by
          rw [← HR.out, decide_eq_true_iff]
          exact eq_of_at (by have := hN1.out; have := hN2.out; omega) (fun i hi => HI.out.2 i (by have := hN1.out; omega))
        have HRF := Lib.hid hr
        clear hr
        go_wp2_with fail
        go_returns
        exact ⟨by rw [HRF.out]; rfl, HI.out.1⟩
  · have hb : ((n1 : Int) != n2) = true := by simpa using hl
    have hr : R = false := by
      rw [← HR.out, decide_eq_false_iff_not]
      rintro rfl
      have := hN1.out
      have := hN2.out
      omega
    have HRF := Lib.hid hr
    clear hr
    go_wp2_with fail
    go_returns
    exact ⟨by rw [HRF.out]; rfl, by (repeat (first | exact Ext.rfl' _ | assumption | refine Ext.drewN' ?_ _ | refine Ext.drew' ?_ | refine Ext.alloc' ?_ _ | refine Ext.trans' ?_ (by assumption)))⟩
set_option maxHeartbeats 1000000 in
theorem p_bools (v1 v2 : Value) (xs ys : List Bool) (w : World) (h1 : Rd w 1 encB v1 xs) (h2 : Rd w 1 encB v2 ys) : Calls Try.prog 22 #[v1, v2] w fun e w' => e = .returned (.bool (decide (xs = ys))) ∧ Ext w w' := by
  obtain ⟨a1, n1, c1, rfl, hn1, hN1⟩ := h1.val
  obtain ⟨a2, n2, c2, rfl, hn2, hN2⟩ := h2.val
  have H1 := Lib.hid h1
  have H2 := Lib.hid h2
  obtain ⟨R, hR⟩ : ∃ R, decide (xs = ys) = R := ⟨_, rfl⟩
  rw [hR]
  have HR := Lib.hid hR
  clear h1 h2 hR
  go_enter Try.func22, Try.ntmps22
  by_cases hl : (n1 : Int) = n2
  · have hb : ((n1 : Int) != n2) = false := by simpa using hl
    have hl' : n1 = n2 := by omega
    subst hl'
    go_wp2_with fail
    go_loopw [13] (fun q wr => ∃ k : Nat, k ≤ n1 ∧ q = .int .i64 k ∧ Hid (Ext w wr ∧ ∀ i, i < k → xs[i]? = ys[i]?)) (fun q _ => n1 - (intOf q).toNat)
    case atStart => exact ⟨0, Nat.zero_le _, rfl, Lib.hid ⟨Ext.rfl' _, fun i hi => absurd hi (Nat.not_lt_zero _)⟩⟩
    case round =>
      obtain ⟨k, hk, rfl, HI⟩ := hrel
      by_cases hlt : (k : Int) < n1
      · obtain ⟨x, hx⟩ := at_of_lt (xs := xs) (k := k) (by have := hN1.out; omega)
        obtain ⟨y, hy⟩ := at_of_lt (xs := ys) (k := k) (by have := hN2.out; omega)
        have ix := fun W => H1.out.run_at (P := Try.prog) el_bool.under el_bool.size .i64 (k : Int) (by omega) (by omega) W
        have iy := fun W => H2.out.run_at (P := Try.prog) el_bool.under el_bool.size .i64 (k : Int) (by omega) (by omega) W
        have cx := (H1.out.ext HI.out.1).cell hx (j := 0) rfl
        have cy := (H2.out.ext HI.out.1).cell hy (j := 0) rfl
        simp only [Nat.mul_one, Nat.add_zero, Int.toNat_natCast] at ix iy cx cy
        have HX := Lib.hid hx
        have HY := Lib.hid hy
        clear hx hy
        by_cases hxy : x = y
        · have HXY := Lib.hid hxy
          have hb2 : (x != y) = false := by simpa using hxy
          clear hxy
          (cases x <;> cases y <;> first | (exfalso; exact absurd HXY.out (by decide)) | skip)
          all_goals
            go_wp2_with fail
            go_quiet (fail)
            go_wp2_with fail
            go_roundw
            case rel => exact ⟨k + 1, by omega, by go_num, Lib.hid ⟨by have := HI.out.1; (repeat (first | exact Ext.rfl' _ | assumption | refine Ext.drewN' ?_ _ | refine Ext.drew' ?_ | refine Ext.alloc' ?_ _ | refine Ext.trans' ?_ (by assumption))), all_succ HI.out.2 (by first | rw [HX.out, HY.out, HXY.out] | rw [HX.out, HY.out])⟩⟩
            case measure => simp [intOf]; omega
        · have HXY := Lib.hid hxy
          have hb2 : (x != y) = true := by simpa using hxy
          clear hxy
          have hr : R = false := by
            rw [← HR.out, decide_eq_false_iff_not]
            rintro rfl
            rw [HX.out] at HY
            exact HXY.out (Option.some.inj HY.out)
          have HRF := Lib.hid hr
          clear hr
          (cases x <;> cases y <;> first | (exfalso; exact absurd HXY.out (by decide)) | skip)
          all_goals
            go_wp2_with fail
            go_quiet (fail)
            go_wp2_with fail
            go_returns
            exact ⟨by rw [HRF.out]; rfl, by have := HI.out.1; (repeat (first | exact Ext.rfl' _ | assumption | refine Ext.drewN' ?_ _ | refine Ext.drew' ?_ | refine Ext.alloc' ?_ _ | refine Ext.trans' ?_ (by assumption)))⟩
      · have hr : R = true := by
          rw [← HR.out, decide_eq_true_iff]
          exact eq_of_at (by have := hN1.out; have := hN2.out; omega) (fun i hi => HI.out.2 i (by have := hN1.out; omega))
        have HRF := Lib.hid hr
        clear hr
        go_wp2_with fail
        go_returns
        exact ⟨by rw [HRF.out]; rfl, HI.out.1⟩
  · have hb : ((n1 : Int) != n2) = true := by simpa using hl
    have hr : R = false := by
      rw [← HR.out, decide_eq_false_iff_not]
      rintro rfl
      have := hN1.out
      have := hN2.out
      omega
    have HRF := Lib.hid hr
    clear hr
    go_wp2_with fail
    go_returns
    exact ⟨by rw [HRF.out]; rfl, by (repeat (first | exact Ext.rfl' _ | assumption | refine Ext.drewN' ?_ _ | refine Ext.drew' ?_ | refine Ext.alloc' ?_ _ | refine Ext.trans' ?_ (by assumption)))⟩
theorem take_cutI {w : World} {a : Option Addr} {n c : Nat} {x : List Ins} (h : Rd w 5 Ins.enc (.slice a n c) x) (m : Nat) (hm : m ≤ n) (hm' : (m = n ∧ n ≤ 150) ∨ m = 150) : Rd w 5 Ins.enc (cutV (.slice a n c) 0 m 5) (x.take 150) := by
  have hn := h.num
  have := h.cut (l := 0) (m := m) (Nat.zero_le _) (by omega)
  rw [List.drop_zero, Nat.sub_zero] at this
  rcases hm' with ⟨rfl, h1⟩ | rfl
  · rwa [hn, List.take_length, ← hn, ← List.take_of_length_le (show x.length ≤ 150 by omega)] at this
  · exact this
set_option maxHeartbeats 1000000 in
theorem p_few (v : Value) (L : List Ins) (w : World) (h : Rd w 5 Ins.enc v L) : Calls Try.prog 13 #[v] w fun e w' => ∃ v', e = .returned v' ∧ Rd w' 5 Ins.enc v' (L.take 150) ∧ Ext w w' := by
  obtain ⟨a, n, c, rfl, hn, hN⟩ := h.val
  have HD := Lib.hid h
  clear h
  go_enter Try.func13, Try.ntmps13
  have h1 : (n : Int) ≤ 150 ∨ (150 : Int) < n := by omega
  rcases h1 with h1 | h1
  · have c1 := fun W => HD.out.run_cut_h (P := Try.prog) el_ins.under el_ins.size .i64 (n : Int) (by omega) (by omega) W
    have E := Lib.hid (take_cutI HD.out n (Nat.le_refl _) (by omega))
    have hm : min (n : Int) 150 = n := by omega
    simp only [Int.toNat_natCast] at c1
    go_wp2_with fail
    go_returns
    exact ⟨_, rfl, E.out, by (repeat (first | exact Ext.rfl' _ | assumption | refine Ext.drewN' ?_ _ | refine Ext.drew' ?_ | refine Ext.alloc' ?_ _ | refine Ext.trans' ?_ (by assumption)))⟩
  · have c1 := fun W => HD.out.run_cut_h (P := Try.prog) el_ins.under el_ins.size .i64 150 (by omega) (by omega) W
    have E := Lib.hid (take_cutI HD.out 150 (by omega) (by omega))
    have hm : min (n : Int) 150 = 150 := by omega
    go_wp2_with fail
    go_returns
    exact ⟨_, rfl, E.out, by (repeat (first | exact Ext.rfl' _ | assumption | refine Ext.drewN' ?_ _ | refine Ext.drew' ?_ | refine Ext.alloc' ?_ _ | refine Ext.trans' ?_ (by assumption)))⟩
/-- The document's example. -/
def L0 : List Ins := [⟨183, 0, 0, 0, 0⟩, ⟨21, 0, 0, 1, 0⟩, ⟨183, 0, 0, 0, 0⟩, ⟨149, 0, 0, 0, 0⟩]
def aheadV (L : List Ins) (i : Int) : List Int := if beginsS L i then (match L[i.toNat]? with | some x => aheadL L x i.toNat | none => []) else []
theorem p_AheadV (v : Value) (L : List Ins) (i : Int) (w : World) (h : Rd w 5 Ins.enc v L) (hl : L.length ≤ 1000000) (hok : InsOk L) : Calls Try.prog 14 #[v, .int .i64 i] w (OwnA (aheadV L i) w) := p_Ahead v L i w h hl hok
def ah0 (k : Nat) : List Int := if k = 0 then [1] else if k = 1 then [2, 3] else if k = 2 then [3] else []
def comesG (A : Nat → List Int) : Nat → Nat → List Int → Bool × List Int
  | 0, _, wh => (false, wh)
  | m + 1, k, wh => if (loopC (comesG A m) (A k) (wh.set k 1)).1 then (true, (loopC (comesG A m) (A k) (wh.set k 1)).2) else (false, ((loopC (comesG A m) (A k) (wh.set k 1)).2).set k 2)
theorem comesF_eq (L : List Ins) (A : Nat → List Int) (h : ∀ k, aheadAt L k = A k) : ∀ m, comesF L m = comesG A m
  | 0 => rfl
  | m + 1 => by
    funext k wh
    unfold comesF comesG
    rw [comesF_eq L A h m, h]
theorem l0_prog : progS L0 = true := by decide +kernel
theorem l0_at (k : Nat) : aheadAt L0 k = ah0 k := by
  unfold aheadAt
  rcases k with _ | _ | _ | _ | k
  · show aheadL L0 _ 0 = _
    rw [ahead_two]; decide +kernel
  · show aheadL L0 _ 1 = _
    rw [ahead_two]; decide +kernel
  · show aheadL L0 _ 2 = _
    rw [ahead_two]; decide +kernel
  · show aheadL L0 _ 3 = _
    rw [ahead_two]; decide +kernel
  · have : L0[k + 4]? = none := by simp [L0]
    rw [this]
    simp [ah0]
theorem l0_ahead : aheadV L0 1 = [2, 3] := by
  unfold aheadV
  rw [show beginsS L0 1 = true by decide +kernel]
  exact l0_at 1
theorem l0_behind : behindL L0 3 = [1, 2] := by
  unfold behindL
  rw [show beginsS L0 3 = true by decide +kernel, if_pos rfl]
  have h : ∀ j, isBehind L0 3 j = (match (stF false L0)[j]? with | some true => (ah0 j).contains 3 | _ => false) := fun j => by
    unfold isBehind
    rw [← l0_at]
    unfold aheadAt
    rcases (stF false L0)[j]? with _ | _ | _
    · rfl
    · rfl
    · cases L0[j]? <;> rfl
  unfold behUpto
  rw [show isBehind L0 3 = _ from funext h]
  decide +kernel
theorem l0_heads : headsL L0 = [true, false, true, true] := by decide +kernel
theorem l0_loops : loopsL L0 = false := by
  unfold loopsL
  rw [comesF_eq L0 ah0 l0_at, l0_prog]
  decide +kernel
theorem l0_ok : InsOk L0 := by
  intro x hx
  simp only [L0, List.mem_cons, List.not_mem_nil, or_false] at hx
  rcases hx with rfl | rfl | rfl | rfl <;> exact ⟨by decide, by decide, by decide, by decide, by decide⟩
theorem rd_ints (w : World) (xs : List Int) (b n : Nat) (hb : b = w.heap.size) (hn : n = xs.length) (hl : xs.length ≤ 1000) : Rd (w.alloc (.cells (xs.flatMap encI).toArray 3)) 1 encI (.slice (some ⟨b, 0, none⟩) n n) xs :=
  (Own.lit (enc_int .i64) (base := 0) (w := w) xs hb hn (Nat.zero_le _) (by simp [maxLen]; omega)).rd (enc_int _)
theorem rd_bools (w : World) (xs : List Bool) (b n : Nat) (hb : b = w.heap.size) (hn : n = xs.length) (hl : xs.length ≤ 1000) : Rd (w.alloc (.cells (xs.flatMap encB).toArray 4)) 1 encB (.slice (some ⟨b, 0, none⟩) n n) xs :=
  (Own.lit enc_bool (base := 0) (w := w) xs hb hn (Nat.zero_le _) (by simp [maxLen]; omega)).rd enc_bool
set_option maxRecDepth 20000 in
set_option maxHeartbeats 2000000 in
theorem p_shown (w : World) : Calls Try.prog 12 #[] w fun e w' => e = .returned (.bool true) ∧ Ext w w' := by
  go_enter Try.func12, Try.ntmps12
  go_upto_region 1 with fail
  go_cut [1] (fun v1 wx => Hid (Rd wx 5 Ins.enc v1 L0 ∧ Ext w wx))
  case first =>
    go_wp2_with fail
    go_meet
    exact Lib.hid ⟨(Own.lit enc_ins (base := 0) (w := w) L0 rfl rfl (Nat.zero_le _) (by simp [maxLen, L0])).rd enc_ins, by (repeat (first | exact Ext.rfl' _ | assumption | refine Ext.drewN' ?_ _ | refine Ext.drew' ?_ | refine Ext.alloc' ?_ _ | refine Ext.trans' ?_ (by assumption)))⟩
  case rest =>
    have hl : L0.length ≤ 1000000 := by decide
    have HL := Lib.hid hl
    have HOK := Lib.hid l0_ok
    obtain ⟨a, n, c, hv, hn, hN⟩ := hcut.out.1.val
    subst hv
    have HD := Lib.hid hcut.out.1
    have HE := Lib.hid hcut.out.2
    clear hcut hl
    go_wp2_with fail
    refine (p_AheadV _ L0 1 _ HD.out HL.out HOK.out).mono ?_
    rw [l0_ahead]
    rintro e w1 ⟨v1, rfl, hO1, hE1⟩
    have HR1 := Lib.hid (hO1.rd (enc_int .i64))
    have HE1 := Lib.hid hE1
    clear hO1 hE1
    go_wp2_with fail
    refine (p_ints v1 _ [2, 3] [2, 3] _ (HR1.out.ext (by (repeat (first | exact Ext.rfl' _ | assumption | refine Ext.drewN' ?_ _ | refine Ext.drew' ?_ | refine Ext.alloc' ?_ _ | refine Ext.trans' ?_ (by assumption))))) (rd_ints w1 [2, 3] _ _ rfl rfl (by decide))).mono ?_
    rw [show decide (([2, 3] : List Int) = [2, 3]) = true by decide]
    rintro e w2 ⟨rfl, hE2⟩
    have HE2 := Lib.hid (Ext.trans' (HE1.out.alloc' _) hE2)
    clear hE2
    go_wp2_with fail
    refine (p_Behind _ L0 3 _ (HD.out.ext HE2.out) HL.out HOK.out).mono ?_
    rw [l0_behind]
    rintro e w3 ⟨v3, rfl, hO3, hE3⟩
    have HR3 := Lib.hid (hO3.rd (enc_int .i64))
    have HE3 := Lib.hid (HE2.out.trans' hE3)
    clear hO3 hE3
    go_wp2_with fail
    refine (p_ints v3 _ [1, 2] [1, 2] _ (HR3.out.ext (by (repeat (first | exact Ext.rfl' _ | assumption | refine Ext.drewN' ?_ _ | refine Ext.drew' ?_ | refine Ext.alloc' ?_ _ | refine Ext.trans' ?_ (by assumption))))) (rd_ints w3 [1, 2] _ _ rfl rfl (by decide))).mono ?_
    rw [show decide (([1, 2] : List Int) = [1, 2]) = true by decide]
    rintro e w4 ⟨rfl, hE4⟩
    have HE4 := Lib.hid (Ext.trans' (HE3.out.alloc' _) hE4)
    clear hE4
    go_wp2_with fail
    refine (p_Heads _ L0 _ (HD.out.ext HE4.out) HL.out HOK.out).mono ?_
    rw [l0_heads]
    rintro e w5 ⟨v5, rfl, hO5, hE5⟩
    have HR5 := Lib.hid (hO5.rd enc_bool)
    have HE5 := Lib.hid (HE4.out.trans' hE5)
    clear hO5 hE5
    go_wp2_with fail
    refine (p_bools v5 _ [true, false, true, true] [true, false, true, true] _ (HR5.out.ext (by (repeat (first | exact Ext.rfl' _ | assumption | refine Ext.drewN' ?_ _ | refine Ext.drew' ?_ | refine Ext.alloc' ?_ _ | refine Ext.trans' ?_ (by assumption))))) (rd_bools w5 [true, false, true, true] _ _ rfl rfl (by decide))).mono ?_
    rw [show decide (([true, false, true, true] : List Bool) = [true, false, true, true]) = true by decide]
    rintro e w6 ⟨rfl, hE6⟩
    have HE6 := Lib.hid (Ext.trans' (HE5.out.alloc' _) hE6)
    clear hE6
    go_wp2_with fail
    refine (p_Loops _ L0 _ (HD.out.ext HE6.out) HL.out HOK.out).mono ?_
    rw [l0_loops]
    rintro e w7 ⟨rfl, hE7⟩
    have HE7 := Lib.hid (HE6.out.trans' hE7)
    clear hE7
    go_wp2_with fail
    go_returns
    exact ⟨rfl, HE.out.trans' HE7.out⟩
end Go.Proofs.Ytkogkcjiachphaa
