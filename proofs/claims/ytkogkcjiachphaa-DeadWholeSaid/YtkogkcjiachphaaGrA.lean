/- graph: right, begins, ahead, Ahead. -/
import Derived.Test.YtkogkcjiachphaaCoI
import Derived.Test.YtkogkcjiachphaaSortI
import Derived.Lib.OwnBridge
import Derived.Sort.OwnSorted
namespace Go.Proofs.Ytkogkcjiachphaa
open Go.RowKit
set_option linter.unusedVariables false
set_option linter.unusedSimpArgs false

abbrev encI : Int → List Value := fun x => [Value.int .i64 x]
section
open Go.Sort
theorem ext_grow (W : World) (os : Array Obj) : Ext W (grow W os) := ⟨rfl, rfl, rfl, by simp [grow], fun k hk => heap_grow_old _ _ hk⟩
theorem own_sort {w : World} {base : Nat} {a : Option Addr} {n c : Nat} {zs : List Int} (h : Own w base 3 1 encI (.slice a n c) zs) (hb : base ≤ w.heap.size) (hz : zs.length ≤ 1000000) :
    Calls Try.prog 82 #[.slice a n c] w fun e w' => e = .returned (.tuple #[]) ∧ Own w' base 3 1 encI (.slice a n c) (zs.mergeSort fun x y => decide (x ≤ y)) ∧ ∀ B W, Below B W w → B ≤ base → Below B W w' := by
  rcases h.2 with ⟨e0, h0⟩ | ⟨g, cap, cur, e0, hg, hgb, hn, hm, hs, ht⟩
  · injection e0 with e1 e2 e3
    subst e1; subst e2; subst e3
    have : zs = [] := by simpa using h0
    subst this
    refine (Try.slices_Sort_int_none none 0 w).mono ?_
    rintro e w' ⟨rfl, rfl⟩
    exact ⟨rfl, by simpa using h, fun _ _ hB _ => hB⟩
  · injection e0 with e1 e2 e3
    subst e1; subst e2; subst e3
    have hO : w.ownsRow base 3 1 (.slice (some ⟨g, 0, none⟩) zs.length c) zs.length (zs.map (Value.int .i64)) := by rw [← flat1]; exact h
    obtain ⟨g', cap', e1, hbg, hgl, hncap, hcm, hlen, hH⟩ := Lib.holds_of_ownsRow hO (by simp)
    injection e1 with e1 e2 e3
    injection e1 with e1
    injection e1 with e1
    subst e1; subst e3
    refine (Try.slices_Sort_int g 0 c zs w hH hgl (by omega)).mono ?_
    rintro e w' ⟨rfl, q, os, rfl⟩
    have h1 := Lib.ownsRow_putRow (q := q) (k := zs.length) (ys := zs.mergeSort fun x y => decide (x ≤ y)) hO (List.length_mergeSort zs) (Nat.le_refl _)
    rw [List.take_of_length_le (by rw [List.length_mergeSort]; exact Nat.le_refl _)] at h1
    have h2 : Own (putRow (Value.int .i64) (Sort.ahead w q) g 0 (zs.mergeSort fun x y => decide (x ≤ y)).toArray) base 3 1 encI (.slice (some ⟨g, 0, none⟩) zs.length c) (zs.mergeSort fun x y => decide (x ≤ y)) := by
      show World.ownsRow _ _ _ _ _ _ _
      rw [flat1, List.length_mergeSort]
      exact h1
    exact ⟨rfl, h2.ext (ext_grow _ _), fun B W hB hle => Below.trans (Lib.below_putRow hB (by omega)) (Below.mono (ext_grow _ _) (by have := hB.size; simp [putRow, mapBlock, Sort.ahead]; omega))⟩
theorem own_compact {w : World} {base : Nat} {a : Option Addr} {n c : Nat} {zs : List Int} (h : Own w base 3 1 encI (.slice a n c) zs) (hb : base ≤ w.heap.size) (hz : zs.length ≤ 1000000) :
    Calls Try.prog 83 #[.slice a n c] w fun e w' => ∃ v, e = .returned v ∧ Own w' base 3 1 encI v (Lib.compact zs) ∧ ∀ B W, Below B W w → B ≤ base → Below B W w' := by
  rcases h.2 with ⟨e0, h0⟩ | ⟨g, cap, cur, e0, hg, hgb, hn, hm, hs, ht⟩
  · injection e0 with e1 e2 e3
    subst e1; subst e2; subst e3
    have : zs = [] := by simpa using h0
    subst this
    refine (Try.slices_Compact_int_empty none 0 w).mono ?_
    rintro e w' ⟨rfl, rfl⟩
    exact ⟨_, rfl, h, fun _ _ hB _ => hB⟩
  · injection e0 with e1 e2 e3
    subst e1; subst e2; subst e3
    have hO : w.ownsRow base 3 1 (.slice (some ⟨g, 0, none⟩) zs.length c) zs.length (zs.map (Value.int .i64)) := by rw [← flat1]; exact h
    obtain ⟨g', cap', e1, hbg, hgl, hncap, hcm, hlen, hH⟩ := Lib.holds_of_ownsRow hO (by simp)
    injection e1 with e1 e2 e3
    injection e1 with e1
    injection e1 with e1
    subst e1; subst e3
    refine (Try.slices_Compact_int g 0 c zs w hH (by omega) hncap).mono ?_
    rintro e w' ⟨rfl, q, rfl⟩
    have hle := Lib.compact_length_le zs
    have h1 := Lib.ownsRow_putRow (q := q) (k := (Lib.compact zs).length) (ys := Lib.compact zs ++ List.replicate (zs.length - (Lib.compact zs).length) 0) hO (by simp; omega) hle
    rw [List.take_left] at h1
    refine ⟨_, rfl, ?_, fun B W hB hle => Lib.below_putRow hB (by omega)⟩
    show World.ownsRow _ _ _ _ _ _ _
    rw [flat1]
    exact h1
end
def rawA (L : List Ins) (x : Ins) (k : Nat) : List Int := (if (whatZ x).kind ≠ 12 ∧ (whatZ x).kind ≠ 9 then [((nextI x k : Nat) : Int)] else []) ++ (targetS L x k).toList
/-- Where a program may go on behind an instruction. -/
def aheadL (L : List Ins) (x : Ins) (k : Nat) : List Int := Lib.compact ((rawA L x k).mergeSort fun x y => decide (x ≤ y))
def beginsS (L : List Ins) (i : Int) : Bool := progS L && (decide (0 ≤ i) && (decide (i < L.length) && ((stF false L)[i.toNat]? == some true)))
def OwnA (xs : List Int) (w : World) (e : Ending) (w' : World) : Prop := ∃ v, e = .returned v ∧ Own w' w.heap.size 3 1 encI v xs ∧ Ext w w'
theorem p_right (v : Value) (L : List Ins) (w : World) (h : Rd w 5 Ins.enc v L) (hl : L.length ≤ 1000000) (hok : InsOk L) : Calls Try.prog 54 #[v] w fun e w' => e = .returned (.bool (progS L)) ∧ Ext w w' := by
  have HD := Lib.hid h
  have HOK := Lib.hid hok
  have HL := Lib.hid hl
  clear h hok hl
  go_enter Try.func54, Try.ntmps54
  go_wp2_with fail
  refine (p_Check _ L _ HD.out HL.out HOK.out).mono ?_
  rintro e w5 ⟨i, er, rfl, hp, hE⟩
  have HP := Lib.hid hp
  have HE := Lib.hid hE
  clear hp hE
  go_wp2_with fail
  go_returns
  refine ⟨?_, HE.out⟩
  rw [← HP.out]
  first | rfl | (simp; rfl) | simp
set_option maxRecDepth 20000 in
set_option maxHeartbeats 1000000 in
theorem p_begins (v : Value) (L : List Ins) (i : Int) (w : World) (h : Rd w 5 Ins.enc v L) (hl : L.length ≤ 1000000) (hok : InsOk L) : Calls Try.prog 50 #[v, .int .i64 i] w fun e w' => e = .returned (.bool (beginsS L i)) ∧ Ext w w' := by
  obtain ⟨a, n, c, rfl, hn, hN⟩ := h.val
  have HD := Lib.hid h
  have HOK := Lib.hid hok
  have HL := Lib.hid hl
  obtain ⟨R, hR⟩ : ∃ R, R = beginsS L i := ⟨_, rfl⟩
  rw [← hR]
  unfold beginsS at hR
  obtain ⟨p, hp⟩ : ∃ p, progS L = p := ⟨_, rfl⟩
  rw [hp, ← hN.out] at hR
  have HR := Lib.hid hR
  have HP := Lib.hid hp
  clear h hok hl hR hp
  go_enter Try.func50, Try.ntmps50
  go_wp2_with fail
  refine (p_right _ L _ HD.out HL.out HOK.out).mono ?_
  rw [HP.out]
  rintro e w5 ⟨rfl, hE⟩
  have HE := Lib.hid hE
  clear hE
  cases p with
  | false =>
    go_wp2_with fail
    go_returns
    exact ⟨by rw [HR.out]; rfl, HE.out⟩
  | true =>
    by_cases h0 : 0 ≤ i
    · by_cases h1 : i < n
      · go_wp2_with fail
        refine (p_Starts _ L _ (HD.out.ext HE.out) HL.out).mono ?_
        rintro e w6 ⟨s, rfl, hO, hE6⟩
        have hRd := hO.rd enc_bool
        obtain ⟨sa, sn, sc, rfl, hsn, hSN⟩ := hRd.val
        obtain rfl : sn = n := by rw [hSN.out, stF_length, hN.out]
        obtain ⟨b, hb⟩ := at_of_lt (xs := stF false L) (k := i.toNat) (by have := hSN.out; omega)
        have ix := fun W => hRd.run_at (P := Try.prog) el_bool.under el_bool.size .i64 i (by omega) (by omega) W
        have cb := hRd.cell hb (j := 0) rfl
        simp only [Nat.mul_one, Nat.add_zero] at ix cb
        have HB := Lib.hid hb
        have HE6 := Lib.hid hE6
        clear hb hE6 hO hRd
        go_wp2_with fail
        go_returns
        exact ⟨by rw [HR.out, HB.out, decide_eq_true h0, decide_eq_true h1]; cases b <;> rfl, HE.out.trans' HE6.out⟩
      · go_wp2_with fail
        go_returns
        exact ⟨by rw [HR.out, decide_eq_false (by omega : ¬ i < (n : Int))]; simp, HE.out⟩
    · go_wp2_with fail
      go_returns
      exact ⟨by rw [HR.out, decide_eq_false (by omega : ¬ 0 ≤ i)]; simp, HE.out⟩
def appV (b : Bool) (y : Int) : List Int := if b then [y] else []
theorem rd_one (w : World) (y : Int) : Rd (w.alloc (.cells #[.int .i64 y] 3)) 1 encI (.slice (some ⟨w.heap.size, 0, none⟩) 1 1) [y] :=
  (Own.lit (enc_int .i64) (base := 0) (w := w) [y] rfl rfl (Nat.zero_le _) (by simp [maxLen])).rd (enc_int _)
set_option maxRecDepth 20000 in
set_option maxHeartbeats 4000000 in
theorem p_ahead (v : Value) (L : List Ins) (k : Nat) (x : Ins) (w : World) (h : Rd w 5 Ins.enc v L) (hl : L.length ≤ 1000000) (hx : L[k]? = some x) (hok : x.Ok) : Calls Try.prog 51 #[v, .int .i64 k] w (OwnA (aheadL L x k) w) := by
  obtain ⟨a, n, c, rfl, hn, hN⟩ := h.val
  have hk : k < n := by rw [hN.out]; exact (List.getElem?_eq_some_iff.1 hx).1
  have hk2 : n ≤ 1000000 := by rw [hN.out]; exact hl
  have ix := fun W => h.run_at (P := Try.prog) el_ins.under el_ins.size .i64 (k : Int) (by omega) (by omega) W
  simp only [Int.toNat_natCast] at ix
  have HD := Lib.hid h
  have HX := Lib.hid hx
  have HOK := Lib.hid hok
  have HL := Lib.hid hl
  obtain ⟨RW, hRW⟩ : ∃ R, R = rawA L x k := ⟨_, rfl⟩
  unfold aheadL
  rw [← hRW]
  obtain ⟨y, hy⟩ : ∃ y, (whatS x).getD Wh.zero = y := ⟨_, rfl⟩
  obtain ⟨k12, hk12⟩ : ∃ z, (y.kind != 12) = z := ⟨_, rfl⟩
  obtain ⟨k9, hk9⟩ : ∃ z, (y.kind != 9) = z := ⟨_, rfl⟩
  have hraw : RW = appV (k12 && k9) (nextI x k : Nat) ++ (targetS L x k).toList := by
    rw [hRW, rawA, whatZ, hy, appV, ← hk12, ← hk9]
    simp
  have HRW := Lib.hid hraw
  have HY := Lib.hid hy
  clear h hx hok hl hRW hy hraw
  obtain ⟨c0, c1, c2, c3, c4⟩ := ins_cells HD.out HX.out
  go_enter Try.func51, Try.ntmps51
  go_upto_region 2 with fail
  go_cut [6] (fun v6 wx => ∃ q, v6 = .pointer (some ⟨q, 0, none⟩) ∧ Hid (Ext w wx ∧ wx.heap[q]? = some (whObj y)))
  case first =>
    go_wp2_with fail
    refine (p_What x _ HOK.out).mono ?_
    unfold WhatA
    rw [HY.out]
    rintro e w7 ⟨rfl, hE7⟩
    have HE7 := Lib.hid hE7
    clear hE7
    go_wp2_with fail
    go_meet
    refine ⟨_, rfl, Lib.hid ⟨HE7.out.alloc' _, ?_⟩⟩
    (repeat (first | (refine obj_top _ _ ?_; simp; done) | refine obj_old _ ?_))
  case rest =>
    obtain ⟨q, rfl, HW⟩ := hcut
    have q0 := cell_obj (i := 0) HW.out.2
    simp only [List.getElem?_toArray, List.getElem?_cons_zero, List.getElem?_cons_succ] at q0
    clear c0 c1 c2 c3 c4
    go_upto_region 3 with fail
    go_cut [25] (fun v25 wx => v25 = .bool (k12 && k9) ∧ wx = wc)
    case first =>
      cases k12
      all_goals
        go_wp2_with fail
        go_meet
        exact ⟨rfl, rfl⟩
    case rest =>
     obtain ⟨rfl, rfl⟩ := hcut
     generalize (k12 && k9) = kk at *
     go_upto_if 25 with fail
     go_cut [5] (fun v5 wx => Hid (Own wx w.heap.size 3 1 encI v5 (appV kk (nextI x k : Nat)) ∧ Ext w wx))
     case first =>
      cases kk
      · go_wp2_with fail
        go_meet
        exact Lib.hid ⟨Own.nil _ _ _ _ _, HW.out.1⟩
      · go_wp2_with fail
        refine (p_Next _ L k x _ (HD.out.ext HW.out.1) HL.out HX.out).mono ?_
        rintro e w7 ⟨rfl, hE7⟩
        have HE7 := Lib.hid (HW.out.1.trans' hE7)
        clear hE7
        go_wp2_with (at_builtin; refine app_own el_int (enc_int .i64) rfl _ _ rfl rfl (Own.nil _ w.heap.size _ _ _) rfl (ys := [((nextI x k : Nat) : Int)]) ?q1 ?q2 ?q3 ?q4)
        case q1 => exact rd_one _ _
        case q2 => simp
        case q3 => have := HE7.out.size; simp; omega
        intro v' w8 hown hgrow hmv
        have HO := Lib.hid hown
        have HE8 : Hid (Ext w w8) := Lib.hid (hmv _ _ (HE7.out.alloc' _) (Nat.le_refl _))
        clear hown hgrow hmv
        go_wp2_with fail
        go_meet
        exact Lib.hid ⟨HO.out, HE8.out⟩
     case rest =>
       obtain ⟨ho1, hE1⟩ := hcut.out
       have HO1 := Lib.hid ho1
       have HE1 := Lib.hid hE1
       obtain ⟨ra, rn, rc, hrv, hrn, hRN⟩ := (HO1.out.rd (enc_int .i64)).val
       clear ho1 hE1 hcut q0
       subst hrv
       go_wp2_with fail
       refine (p_Target _ L k x _ (HD.out.ext HE1.out) HL.out HX.out HOK.out).mono ?_
       unfold OptA
       obtain ⟨o, ho⟩ : ∃ o, targetS L x k = o := ⟨_, rfl⟩
       rw [ho]
       rintro e w7 ⟨rfl, hE7⟩
       have HE7 := Lib.hid (HE1.out.trans' hE7)
       have HO7 := Lib.hid (HO1.out.ext hE7)
       have HTO := Lib.hid ho
       clear hE7 ho
       go_upto_if 38 with fail
       go_cut [5] (fun v5 wx => Hid (Own wx w.heap.size 3 1 encI v5 RW ∧ Ext w wx))
       case first =>
         cases o with
         | none =>
           simp only [Option.getD_none, Option.isSome_none]
           go_wp2_with fail
           go_meet
           exact Lib.hid ⟨by rw [HRW.out, HTO.out]; simpa using HO7.out, HE7.out⟩
         | some t =>
           simp only [Option.getD_some, Option.isSome_some]
           go_wp2_with (at_builtin; refine app_own el_int (enc_int .i64) rfl _ _ rfl rfl (HO7.out.alloc _) rfl (ys := [t]) ?p1 ?p2 ?p3 ?p4)
           case p1 => exact rd_one _ _
           case p2 => unfold appV; split <;> simp
           case p3 => have := HE7.out.size; simp; omega
           intro v' w8 hown hgrow hmv
           have HO := Lib.hid hown
           have HE8 : Hid (Ext w w8) := Lib.hid (hmv _ _ (HE7.out.alloc' _) (Nat.le_refl _))
           clear hown hgrow hmv
           go_wp2_with fail
           go_meet
           exact Lib.hid ⟨by rw [HRW.out, HTO.out]; exact HO.out, HE8.out⟩
       case rest =>
         obtain ⟨ho2, hE2⟩ := hcut.out
         have HO2 := Lib.hid ho2
         have HE2 := Lib.hid hE2
         obtain ⟨sa, sn, sc, hsv, hsn, hSN⟩ := (HO2.out.rd (enc_int .i64)).val
         clear ho2 hE2 hcut
         subst hsv
         have hlen : RW.length ≤ 1000000 := by
           rw [HRW.out, HTO.out]
           unfold appV
           cases o <;> split <;> simp
         have HLN := Lib.hid hlen
         clear hlen
         go_wp2_with fail
         refine (own_sort HO2.out HE2.out.size HLN.out).mono ?_
         rintro e w8 ⟨rfl, hO8, hb8⟩
         have HO8 := Lib.hid hO8
         have HE8 : Hid (Ext w w8) := Lib.hid (hb8 _ _ HE2.out (Nat.le_refl _))
         clear hO8 hb8
         go_wp2_with fail
         refine (own_compact HO8.out HE8.out.size (by rw [List.length_mergeSort]; exact HLN.out)).mono ?_
         rintro e w9 ⟨v9, rfl, hO9, hb9⟩
         have HO9 := Lib.hid hO9
         have HE9 : Hid (Ext w w9) := Lib.hid (hb9 _ _ HE8.out (Nat.le_refl _))
         clear hO9 hb9
         go_wp2_with fail
         go_returns
         exact ⟨v9, rfl, HO9.out, HE9.out⟩
theorem p_Ahead (v : Value) (L : List Ins) (i : Int) (w : World) (h : Rd w 5 Ins.enc v L) (hl : L.length ≤ 1000000) (hok : InsOk L) : Calls Try.prog 14 #[v, .int .i64 i] w (OwnA (if beginsS L i then (match L[i.toNat]? with | some x => aheadL L x i.toNat | none => []) else []) w) := by
  have HD := Lib.hid h
  have HOK := Lib.hid hok
  have HL := Lib.hid hl
  clear h hok hl
  cases hb : beginsS L i with
  | false =>
    have HB := Lib.hid hb
    clear hb
    simp only [Bool.false_eq_true, if_false]
    go_enter Try.func14, Try.ntmps14
    go_wp2_with fail
    refine (p_begins _ L i _ HD.out HL.out HOK.out).mono ?_
    rw [HB.out]
    rintro e w5 ⟨rfl, hE⟩
    have HE := Lib.hid hE
    clear hE
    go_wp2_with fail
    go_returns
    exact ⟨_, rfl, Own.nil _ _ _ _ _, HE.out⟩
  | true =>
    have hi : 0 ≤ i ∧ i < L.length := by
      unfold beginsS at hb
      simp only [Bool.and_eq_true, decide_eq_true_eq] at hb
      exact ⟨hb.2.1, hb.2.2.1⟩
    obtain ⟨k, rfl⟩ : ∃ k : Nat, i = k := ⟨i.toNat, by omega⟩
    obtain ⟨x, hx⟩ := at_of_lt (xs := L) (k := k) (by omega)
    simp only [if_true, Int.toNat_natCast, hx]
    have HB := Lib.hid hb
    have HX := Lib.hid hx
    clear hb hx hi
    go_enter Try.func14, Try.ntmps14
    go_wp2_with fail
    refine (p_begins _ L k _ HD.out HL.out HOK.out).mono ?_
    rw [HB.out]
    rintro e w5 ⟨rfl, hE⟩
    have HE := Lib.hid hE
    clear hE
    go_wp2_with fail
    refine (p_ahead _ L k x _ (HD.out.ext HE.out) HL.out HX.out (HOK.out.at HX.out)).mono ?_
    rintro e w6 ⟨v6, rfl, hO, hE6⟩
    have HO := Lib.hid hO
    have HE6 := Lib.hid hE6
    clear hO hE6
    go_wp2_with fail
    go_returns
    exact ⟨_, rfl, HO.out.mono HE.out.size, HE.out.trans' HE6.out⟩
end Go.Proofs.Ytkogkcjiachphaa
