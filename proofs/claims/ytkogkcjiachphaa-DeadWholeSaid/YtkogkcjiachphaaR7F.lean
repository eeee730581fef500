/- hackleref07: Next, Starts, to, Target. (printed by gen/r7f.py) -/
import Derived.Test.YtkogkcjiachphaaR7E
import Derived.Test.YtkogkcjiachphaaCoH
namespace Go.Proofs.Ytkogkcjiachphaa
open Go.RowKit
set_option linter.unusedVariables false
set_option linter.unusedSimpArgs false

set_option maxHeartbeats 1000000 in
theorem r_Next (v : Value) (L : List Ins) (k : Nat) (x : Ins) (w : World) (h : Rd w 5 Ins.enc v L) (hl : L.length ≤ 1000000) (hx : L[k]? = some x) : Calls Try.prog 58 #[v, .int .i64 k] w fun e w' => e = .returned (.int .i64 (nextI x k)) ∧ Ext w w' := by
  obtain ⟨a, n, c, rfl, hn, hN⟩ := h.val
  have hk : k < n := by rw [hN.out]; exact (List.getElem?_eq_some_iff.1 hx).1
  have hk2 : n ≤ 1000000 := by rw [hN.out]; exact hl
  obtain ⟨c0, c1, c2, c3, c4⟩ := ins_cells h hx
  have ix := fun W => h.run_at (P := Try.prog) el_ins.under el_ins.size .i64 (k : Int) (by omega) (by omega) W
  simp only [Int.toNat_natCast] at ix
  obtain ⟨z, hz⟩ : ∃ z, (x.op == 24) = z := ⟨_, rfl⟩
  have hn2 : nextI x k = if z = true then k + 2 else k + 1 := by unfold nextI; simp [← hz]
  rw [hn2]
  have HZ := Lib.hid hz
  clear h hx hn2
  have w1 : wrap64 ((k : Int) + 1) = k + 1 := by unfold wrap64; omega
  have w2 : wrap64 ((k : Int) + 2) = k + 2 := by unfold wrap64; omega
  go_enter Try.func58, Try.ntmps58
  cases z
  all_goals
    go_wp2_with fail
    all_goals first | (exfalso; omega) | (go_returns; exact ⟨by first | rfl | (simp; done) | (simp; rfl), Ext.rfl' _⟩)
set_option maxHeartbeats 1000000 in
theorem r_Starts (v : Value) (L : List Ins) (w : World) (h : Rd w 5 Ins.enc v L) (hl : L.length ≤ 1000000) : Calls Try.prog 18 #[v] w (StAns L w) := by
  obtain ⟨a, n, c, rfl, hn, hN⟩ := h.val
  have hk2 : n ≤ 1000000 := by rw [hN.out]; exact hl
  have HL := Lib.hid hl
  have HD := Lib.hid h
  have hmk := run_make_bool n hk2
  clear h
  go_enter Try.func18, Try.ntmps18
  go_upto_region 1 with fail
  go_cut [3] (fun v3 wx => Hid (Own wx w.heap.size 4 1 (fun x => [Value.bool x]) v3 (List.replicate n false)) ∧ Ext w wx)
  case first =>
    go_wp2_with fail
    go_meet
    exact ⟨Lib.hid (own_made_bool _ _ hk2 _ (Nat.le_refl _)), by (repeat (first | exact Ext.rfl' _ | assumption | refine Ext.drewN' ?_ _ | refine Ext.drew' ?_ | refine Ext.alloc' ?_ _ | refine Ext.trans' ?_ (by assumption)))⟩
  case rest =>
    obtain ⟨HO, hE⟩ := hcut
    obtain ⟨a3, n3, c3, rfl, hn3, hN3⟩ := (HO.out.rd enc_bool).val
    obtain rfl : n3 = n := by have := hN3.out; simpa using this
    clear hmk
    go_wp2_with fail
    go_loopw [4] (fun i wr => ∃ k : Nat, i = .int .i64 k ∧ k ≤ n3 + 1 ∧ Ext w wr ∧ Hid (stD L k) ∧ Hid (∃ T : List Bool, T.length = n3 ∧ Own wr w.heap.size 4 1 (fun x => [Value.bool x]) (.slice a3 n3 c3) T ∧ (∀ i, i < k → T[i]? = (stF false L)[i]?) ∧ (∀ i, k ≤ i → i < n3 → T[i]? = some false))) (fun i _ => n3 + 2 - (intOf i).toNat)
    case atStart => exact ⟨0, rfl, by omega, hE, Lib.hid rfl, Lib.hid ⟨List.replicate n3 false, by simp, HO.out, fun i hi => absurd hi (Nat.not_lt_zero _), fun i _ hi => by simp [hi]⟩⟩
    case round =>
      obtain ⟨k, rfl, hk, hwr, HSD, HT⟩ := hrel
      obtain ⟨T, hT, hO, hT1, hT2⟩ := HT.out
      have HT1 := Lib.hid hT1
      have HT2 := Lib.hid hT2
      have HTL := Lib.hid hT
      clear hT hT1 hT2 HT
      by_cases hlt : (k : Int) < n3
      · obtain ⟨x, hx⟩ := at_of_lt (xs := L) (k := k) (by have := hN.out; omega)
        obtain ⟨y, hy⟩ := at_of_lt (xs := T) (k := k) (by have := HTL.out; omega)
        have ix := fun W => (hO.rd enc_bool).run_at (P := Try.prog) el_bool.under el_bool.size .i64 (k : Int) (by omega) (by omega) W
        simp only [Nat.mul_one, Int.toNat_natCast] at ix
        obtain ⟨e1, e2, e3, e4, e5⟩ := hO.at hy
        have HX := Lib.hid hx
        have HO5 := Lib.hid (e5 true)
        clear hx hy e5 hO e3
        go_wp2_with fail
        have hE2 : Ext w _ := HO5.out.2 _ _ hwr (Nat.le_refl _)
        refine (r_Next _ L k x _ (HD.out.ext hE2) HL.out HX.out).mono ?_
        rintro e w5 ⟨rfl, hE5⟩
        have HE5 := Lib.hid hE5
        clear hE5
        go_wp2_with fail
        go_roundw
        case rel =>
          obtain ⟨q1, q2, q3⟩ := st_step HSD.out HX.out
          have hkn : k < n3 := by omega
          refine ⟨nextI x k, rfl, by unfold nextI; split <;> omega, hE2.trans' HE5.out, Lib.hid q2, Lib.hid ⟨T.set k true, by simpa using HTL.out, HO5.out.1.ext HE5.out, fun i hi => ?_, fun i hi hi2 => ?_⟩⟩
          · by_cases h1 : i = k
            · subst h1
              rw [q1, List.getElem?_set_self (by have := HTL.out; omega)]
            · rw [List.getElem?_set_ne (Ne.symm h1)]
              by_cases h2 : i < k
              · exact HT1.out i h2
              · have h3 : x.op = 24 ∧ i = k + 1 := by
                  unfold nextI at hi
                  split at hi
                  · rename_i hop; exact ⟨hop, by omega⟩
                  · omega
                obtain ⟨hop, rfl⟩ := h3
                by_cases h4 : k + 1 < n3
                · rw [HT2.out _ (by omega) h4, q3 hop (by have := hN.out; omega)]
                · rw [List.getElem?_eq_none (by have := HTL.out; omega), List.getElem?_eq_none (by rw [stF_length]; have := hN.out; omega)]
          · have : k < nextI x k := by unfold nextI; split <;> omega
            rw [List.getElem?_set_ne (by omega)]
            exact HT2.out i (by omega) hi2
        case measure =>
          have : k < nextI x k := by unfold nextI; split <;> omega
          simp [intOf]
          omega
      · have hT : T = stF false L := by
          apply List.ext_getElem?
          intro i
          by_cases h1 : i < k
          · exact HT1.out i h1
          · rw [List.getElem?_eq_none (by have := HTL.out; omega), List.getElem?_eq_none (by rw [stF_length]; have := hN.out; omega)]
        subst hT
        have HO := Lib.hid hO
        clear hO
        go_wp2_with fail
        go_returns
        exact ⟨_, rfl, HO.out, hwr⟩
set_option maxHeartbeats 2000000 in
theorem r_to (v : Value) (L : List Ins) (k : Nat) (x : Ins) (w : World) (h : Rd w 5 Ins.enc v L) (hl : L.length ≤ 1000000) (hx : L[k]? = some x) (hok : x.Ok) : Calls Try.prog 60 #[v, .int .i64 k] w (OptA (toS x k) w) := by
  obtain ⟨a, n, c, rfl, hn, hN⟩ := h.val
  have hk : k < n := by rw [hN.out]; exact (List.getElem?_eq_some_iff.1 hx).1
  have hk2 : n ≤ 1000000 := by rw [hN.out]; exact hl
  have ix := fun W => h.run_at (P := Try.prog) el_ins.under el_ins.size .i64 (k : Int) (by omega) (by omega) W
  simp only [Int.toNat_natCast] at ix
  have HD := Lib.hid h
  have HX := Lib.hid hx
  have HOK := Lib.hid hok
  have w0 : wrap64 ((k : Int) + 1) = k + 1 := by unfold wrap64; omega
  have w1 : wrap64 ((k : Int) + 1 + x.off) = k + 1 + x.off := by have := hok.off; unfold wrap64; omega
  have w2 : wrap64 ((k : Int) + 1 + x.imm) = k + 1 + x.imm := by have := hok.imm; unfold wrap64; omega
  unfold toS whatZ
  obtain ⟨y, hy⟩ : ∃ y, (whatS x).getD Wh.zero = y := ⟨_, rfl⟩
  obtain ⟨bb, hbb⟩ : ∃ y, (whatS x).isSome = y := ⟨_, rfl⟩
  obtain ⟨k9, hk9⟩ : ∃ z, (y.kind != 9) = z := ⟨_, rfl⟩
  obtain ⟨k10, hk10⟩ : ∃ z, (y.kind != 10) = z := ⟨_, rfl⟩
  obtain ⟨k6, hk6⟩ : ∃ z, (x.op == 6) = z := ⟨_, rfl⟩
  have b1 : (y.kind = 9) = (k9 = false) := by rw [← hk9]; simp
  have b2 : (y.kind = 10) = (k10 = false) := by rw [← hk10]; simp
  have b3 : (x.op = 6) = (k6 = true) := by rw [← hk6]; simp
  simp only [hy, b1, b2, b3]
  obtain ⟨R, hR⟩ : ∃ R : Option Int, R = if k9 = false ∨ k10 = false then some (k + 1 + if k6 = true then x.imm else x.off) else none := ⟨_, rfl⟩
  rw [← hR]
  have HR := Lib.hid hR
  have w3 : wrap64 x.off = x.off := by have := hok.off; unfold wrap64; omega
  have w4 : wrap64 x.imm = x.imm := by have := hok.imm; unfold wrap64; omega
  clear hR
  have HY := Lib.hid hy
  have HB := Lib.hid hbb
  clear h hx hok hy hbb b1 b2 b3
  obtain ⟨c0, c1, c2, c3, c4⟩ := ins_cells HD.out HX.out
  go_enter Try.func60, Try.ntmps60
  go_upto_region 1 with fail
  go_cut [6, 7] (fun v6 v7 wx => ∃ q, v6 = .pointer (some ⟨q, 0, none⟩) ∧ v7 = .bool bb ∧ Hid (Ext w wx ∧ wx.heap[q]? = some (whObj y) ∧ w.heap.size ≤ q))
  case first =>
    go_wp2_with fail
    refine (r_What x _ HOK.out).mono ?_
    unfold WhatA
    rw [HY.out, HB.out]
    rintro e w5 ⟨rfl, hE⟩
    have HE5 := Lib.hid hE
    clear hE
    go_wp2_with fail
    go_meet
    refine ⟨_, rfl, rfl, Lib.hid ⟨?_, ?_, HE5.out.size⟩⟩
    · have := HE5.out
      (repeat (first | exact Ext.rfl' _ | assumption | refine Ext.drewN' ?_ _ | refine Ext.drew' ?_ | refine Ext.alloc' ?_ _ | refine Ext.trans' ?_ (by assumption)))
    · (repeat (first | (refine obj_top _ _ ?_; simp; done) | refine obj_old _ ?_))
  case rest =>
    obtain ⟨q, rfl, rfl, HW⟩ := hcut
    have q0 := cell_obj (i := 0) HW.out.2.1
    simp only [List.getElem?_toArray, List.getElem?_cons_zero, List.getElem?_cons_succ] at q0
    clear c0 c1 c2 c3 c4
    obtain ⟨c0, c1, c2, c3, c4⟩ := ins_cells (HD.out.ext HW.out.1) HX.out
    cases bb with
    | false =>
      have HRS : Hid (R = none) := Lib.hid (by
        have h1 := HY.out
        have h2 := HB.out
        cases hw : whatS x with
        | some z => rw [hw] at h2; cases h2
        | none =>
          rw [hw] at h1
          have : y.kind = 0 := by rw [← h1]; rfl
          have a1 : k9 = true := by rw [← hk9, this]; rfl
          have a2 : k10 = true := by rw [← hk10, this]; rfl
          rw [HR.out, a1, a2]; rfl)
      go_wp2_with fail
      go_returns
      exact ⟨by rw [HRS.out]; rfl, HW.out.1⟩
    | true =>
      cases k9
      · cases k6
        all_goals
          go_wp2_with fail
          go_returns
          exact ⟨by rw [HR.out]; simp, HW.out.1⟩
      · cases k10
        · cases k6
          all_goals
            go_wp2_with fail
            go_returns
            exact ⟨by rw [HR.out]; simp, HW.out.1⟩
        · go_wp2_with fail
          go_returns
          exact ⟨by rw [HR.out]; simp, HW.out.1⟩
set_option maxHeartbeats 2000000 in
theorem r_Target (v : Value) (L : List Ins) (k : Nat) (x : Ins) (w : World) (h : Rd w 5 Ins.enc v L) (hl : L.length ≤ 1000000) (hx : L[k]? = some x) (hok : x.Ok) : Calls Try.prog 68 #[v, .int .i64 k] w (OptA (targetS L x k) w) := by
  obtain ⟨a, n, c, rfl, hn, hN⟩ := h.val
  have hk : k < n := by rw [hN.out]; exact (List.getElem?_eq_some_iff.1 hx).1
  have hk2 : n ≤ 1000000 := by rw [hN.out]; exact hl
  have HD := Lib.hid h
  have HX := Lib.hid hx
  have HOK := Lib.hid hok
  have HL := Lib.hid hl
  obtain ⟨R, hR⟩ : ∃ R, R = targetS L x k := ⟨_, rfl⟩
  rw [← hR]
  unfold targetS at hR
  rw [← hN.out] at hR
  have HR := Lib.hid hR
  clear h hx hok hl hR
  go_enter Try.func68, Try.ntmps68
  go_wp2_with fail
  refine (r_to _ L k x _ HD.out HL.out HX.out HOK.out).mono ?_
  unfold OptA
  cases ht : toS x k with
  | none =>
    have HT := Lib.hid ht
    clear ht
    rintro e w5 ⟨rfl, hE⟩
    have HE5 := Lib.hid hE
    clear hE
    simp only [Option.getD_none, Option.isSome_none]
    go_wp2_with fail
    go_returns
    exact ⟨by rw [HR.out, HT.out]; rfl, HE5.out⟩
  | some t =>
    have HT := Lib.hid ht
    clear ht
    rintro e w5 ⟨rfl, hE⟩
    have HE5 := Lib.hid hE
    clear hE
    simp only [Option.getD_some, Option.isSome_some]
    by_cases h1 : 0 ≤ t
    · by_cases h2 : t < n
      · go_wp2_with fail
        go_returns
        exact ⟨by rw [HR.out, HT.out]; simp [h1, h2], HE5.out⟩
      · go_wp2_with fail
        go_returns
        have h3 : ¬ (0 ≤ t ∧ t < (n : Int)) := by omega
        exact ⟨by rw [HR.out, HT.out]; simp only []; rw [if_neg h3]; rfl, HE5.out⟩
    · go_wp2_with fail
      go_returns
      have h3 : ¬ (0 ≤ t ∧ t < (n : Int)) := by omega
      exact ⟨by rw [HR.out, HT.out]; simp only []; rw [if_neg h3]; rfl, HE5.out⟩
end Go.Proofs.Ytkogkcjiachphaa
