/- code.Check. -/
import Derived.Test.YtlpeljpjgmapgaaGreatCoH
namespace Go.Proofs.YtlpeljpjgmapgaaGreat
open Go.RowKit
set_option linter.unusedVariables false
set_option linter.unusedSimpArgs false

def lastS (L : List Ins) : Nat → Nat
  | 0 => 0
  | k + 1 => if (stF false L)[k]? = some true then k else lastS L k
def ok1 (L : List Ins) (k : Nat) : Bool := match (stF false L)[k]?, L[k]? with | some true, some x => wholeS L x k | _, _ => true
def jumpOk (L : List Ins) (t : Int) : Bool := decide (0 ≤ t) && (decide (t < L.length) && ((stF false L)[t.toNat]? == some true))
def ok2 (L : List Ins) (k : Nat) : Bool := match (stF false L)[k]?, L[k]? with | some true, some x => (match toS x k with | none => true | some t => jumpOk L t) | _, _ => true
def endS (L : List Ins) : Bool := match L[lastS L L.length]? with | some x => (whatZ x).kind == 12 || (whatZ x).kind == 9 | none => false
/-- Is it a program? -/
def progS (L : List Ins) : Bool := decide (1 ≤ L.length) && (decide (L.length ≤ 512) && ((List.range L.length).all (ok1 L) && ((List.range L.length).all (ok2 L) && endS L)))
theorem lastS_lt (L : List Ins) (n : Nat) (hn : 1 ≤ n) : ∀ k, k ≤ n → lastS L k < n
  | 0, _ => hn
  | k + 1, h => by
    unfold lastS
    split
    · omega
    · exact lastS_lt L n hn k (by omega)
def CheckA (L : List Ins) (w : World) (e : Ending) (w' : World) : Prop := ∃ i er : Int, e = .returned (.tuple #[.int .i64 i, .int .i64 er]) ∧ decide (er = 0) = progS L ∧ Ext w w'
theorem prog_not1 {L : List Ins} {k : Nat} (hk : k < L.length) (h : ok1 L k = false) : progS L = false := by
  have : (List.range L.length).all (ok1 L) = false := by
    rw [Bool.eq_false_iff]
    intro h1
    rw [List.all_eq_true] at h1
    have := h1 k (by simpa using hk)
    rw [h] at this; cases this
  simp [progS, this]
theorem prog_not2 {L : List Ins} {k : Nat} (hk : k < L.length) (h : ok2 L k = false) : progS L = false := by
  have : (List.range L.length).all (ok2 L) = false := by
    rw [Bool.eq_false_iff]
    intro h1
    rw [List.all_eq_true] at h1
    have := h1 k (by simpa using hk)
    rw [h] at this; cases this
  simp [progS, this]
theorem prog_end {L : List Ins} (h0 : 1 ≤ L.length) (h5 : L.length ≤ 512) (h1 : ∀ j, j < L.length → ok1 L j = true) (h2 : ∀ j, j < L.length → ok2 L j = true) : progS L = endS L := by
  have a1 : (List.range L.length).all (ok1 L) = true := by rw [List.all_eq_true]; intro j hj; exact h1 j (by simpa using hj)
  have a2 : (List.range L.length).all (ok2 L) = true := by rw [List.all_eq_true]; intro j hj; exact h2 j (by simpa using hj)
  simp [progS, a1, a2, h0, h5]
theorem ok1_skip {L : List Ins} {k : Nat} (h : (stF false L)[k]? = some false) : ok1 L k = true ∧ ok2 L k = true ∧ lastS L (k + 1) = lastS L k := by
  simp [ok1, ok2, lastS, h]
theorem ok1_at {L : List Ins} {k : Nat} {x : Ins} (h : (stF false L)[k]? = some true) (hx : L[k]? = some x) : ok1 L k = wholeS L x k ∧ ok2 L k = (match toS x k with | none => true | some t => jumpOk L t) ∧ lastS L (k + 1) = k := by
  simp [ok1, ok2, lastS, h, hx]
theorem all_succ {P : Nat → Prop} {k : Nat} (h : ∀ j, j < k → P j) (hk : P k) : ∀ j, j < k + 1 → P j := fun j hj => by
  rcases Nat.lt_succ_iff_lt_or_eq.1 hj with h1 | rfl
  · exact h j h1
  · exact hk
set_option maxHeartbeats 4000000 in
set_option maxRecDepth 20000 in
theorem p_Check (v : Value) (L : List Ins) (w : World) (h : Rd w 5 Ins.enc v L) (hl : L.length ≤ 1000000) (hok : InsOk L) : Calls Tryz.prog 21 #[v] w (CheckA L w) := by
  obtain ⟨a, n, c, rfl, hn, hN⟩ := h.val
  have hk2 : n ≤ 1000000 := by rw [hN.out]; exact hl
  have HD := Lib.hid h
  have HOK := Lib.hid hok
  have HL := Lib.hid hl
  clear h hok hl
  go_enter Tryz.func21, Tryz.ntmps21
  by_cases h1 : 1 ≤ n
  · by_cases h5 : n ≤ 512
    · go_wp2_with fail
      refine (p_Starts _ L _ HD.out HL.out).mono ?_
      rintro e w5 ⟨s, rfl, hO, hE⟩
      have hR := hO.rd enc_bool
      obtain ⟨sa, sn, sc, rfl, hsn, hSN⟩ := hR.val
      obtain rfl : sn = n := by rw [hSN.out, stF_length, hN.out]
      have HR := Lib.hid hR
      have HE5 := Lib.hid hE
      clear hO hR hE
      go_wp2_with fail
      go_loopw [26, 5] (fun i e wr => ∃ k : Nat, k ≤ sn ∧ i = .int .i64 k ∧ e = .int .i64 (lastS L k : Nat) ∧ Hid (Ext w wr ∧ Ext w5 wr ∧ ∀ j, j < k → ok1 L j = true)) (fun i _ _ => sn - (intOf i).toNat)
      case atStart => exact ⟨0, Nat.zero_le _, rfl, rfl, Lib.hid ⟨HE5.out, Ext.rfl' _, fun j hj => absurd hj (Nat.not_lt_zero _)⟩⟩
      case round =>
        obtain ⟨k, hk, rfl, rfl, HI⟩ := hrel
        by_cases hlt : (k : Int) < sn
        · obtain ⟨b, hb⟩ := at_of_lt (xs := stF false L) (k := k) (by have := hSN.out; omega)
          obtain ⟨x, hx⟩ := at_of_lt (xs := L) (k := k) (by have := hN.out; omega)
          have ix := fun W => (HR.out.ext HI.out.2.1).run_at (P := Tryz.prog) el_bool.under el_bool.size .i64 (k : Int) (by omega) (by omega) W
          have cb := (HR.out.ext HI.out.2.1).cell hb (j := 0) rfl
          simp only [Nat.mul_one, Nat.add_zero, Int.toNat_natCast] at ix cb
          have HB := Lib.hid hb
          have HX := Lib.hid hx
          clear hb hx
          cases b with
          | false =>
            go_wp2_with fail
            go_roundw
            case rel => exact ⟨k + 1, by omega, by go_num, by rw [(ok1_skip HB.out).2.2], Lib.hid ⟨HI.out.1, HI.out.2.1, all_succ HI.out.2.2 (ok1_skip HB.out).1⟩⟩
            case measure => simp [intOf]; omega
          | true =>
            go_wp2_with fail
            refine (p_whole _ L k x _ (HD.out.ext HI.out.1) HL.out HX.out (HOK.out.at HX.out)).mono ?_
            cases hw : wholeS L x k with
            | false =>
              have HW := Lib.hid hw
              clear hw
              rintro e w6 ⟨rfl, hE6⟩
              have HE6 := Lib.hid hE6
              clear hE6
              go_wp2_with fail
              go_returns
              exact ⟨_, _, rfl, by rw [prog_not1 (k := k) (by have := hN.out; omega) ((ok1_at HB.out HX.out).1.trans HW.out)]; rfl, HI.out.1.trans' HE6.out⟩
            | true =>
              have HW := Lib.hid hw
              clear hw
              rintro e w6 ⟨rfl, hE6⟩
              have HE6 := Lib.hid hE6
              clear hE6
              go_wp2_with fail
              go_roundw
              case rel => exact ⟨k + 1, by omega, by go_num, by rw [(ok1_at HB.out HX.out).2.2], Lib.hid ⟨HI.out.1.trans' HE6.out, HI.out.2.1.trans' HE6.out, all_succ HI.out.2.2 ((ok1_at HB.out HX.out).1.trans HW.out)⟩⟩
              case measure => simp [intOf]; omega
        · obtain rfl : k = sn := by omega
          have HK1 := Lib.hid HI.out.2.2
          have hle := lastS_lt L k h1 k (Nat.le_refl _)
          have HLE := Lib.hid hle
          clear hle
          go_wp2_with fail
          go_loopw [44] (fun i w2 => ∃ m : Nat, m ≤ k ∧ i = .int .i64 m ∧ Hid (Ext w w2 ∧ Ext w5 w2 ∧ ∀ j, j < m → ok2 L j = true)) (fun i _ => k - (intOf i).toNat)
          case atStart => exact ⟨0, Nat.zero_le _, rfl, Lib.hid ⟨HI.out.1, HI.out.2.1, fun j hj => absurd hj (Nat.not_lt_zero _)⟩⟩
          case round =>
            obtain ⟨m, hm, rfl, HJ⟩ := hrel
            by_cases hlt2 : (m : Int) < k
            · obtain ⟨b, hb⟩ := at_of_lt (xs := stF false L) (k := m) (by have := hSN.out; omega)
              obtain ⟨x, hx⟩ := at_of_lt (xs := L) (k := m) (by have := hN.out; omega)
              have ix := fun W => (HR.out.ext HJ.out.2.1).run_at (P := Tryz.prog) el_bool.under el_bool.size .i64 (m : Int) (by omega) (by omega) W
              have cb := (HR.out.ext HJ.out.2.1).cell hb (j := 0) rfl
              simp only [Nat.mul_one, Nat.add_zero, Int.toNat_natCast] at ix cb
              have HB := Lib.hid hb
              have HX := Lib.hid hx
              clear hb hx
              cases b with
              | false =>
                go_wp2_with fail
                go_roundw
                case rel => exact ⟨m + 1, by omega, by go_num, Lib.hid ⟨HJ.out.1, HJ.out.2.1, all_succ HJ.out.2.2 (ok1_skip HB.out).2.1⟩⟩
                case measure => simp [intOf]; omega
              | true =>
                go_wp2_with fail
                refine (p_to _ L m x _ (HD.out.ext HJ.out.1) HL.out HX.out (HOK.out.at HX.out)).mono ?_
                unfold OptA
                cases ht : toS x m with
                | none =>
                  have HT := Lib.hid ht
                  clear ht
                  simp only [Option.getD_none, Option.isSome_none]
                  rintro e w6 ⟨rfl, hE6⟩
                  have HE6 := Lib.hid hE6
                  clear hE6
                  go_wp2_with fail
                  go_roundw
                  case rel => exact ⟨m + 1, by omega, by go_num, Lib.hid ⟨HJ.out.1.trans' HE6.out, HJ.out.2.1.trans' HE6.out, all_succ HJ.out.2.2 (by rw [(ok1_at HB.out HX.out).2.1, HT.out])⟩⟩
                  case measure => simp [intOf]; omega
                | some t =>
                  have HT := Lib.hid ht
                  clear ht
                  simp only [Option.getD_some, Option.isSome_some]
                  rintro e w6 ⟨rfl, hE6⟩
                  have HE6 := Lib.hid hE6
                  clear hE6
                  have hj : ok2 L m = jumpOk L t := by rw [(ok1_at HB.out HX.out).2.1, HT.out]
                  have HJO := Lib.hid hj
                  clear hj
                  by_cases t1 : 0 ≤ t
                  · by_cases t2 : t < k
                    · obtain ⟨b2, hb2⟩ := at_of_lt (xs := stF false L) (k := t.toNat) (by have := hSN.out; omega)
                      have iy := fun W => (HR.out.ext HJ.out.2.1).run_at (P := Tryz.prog) el_bool.under el_bool.size .i64 t (by omega) (by omega) W
                      have cy := ((HR.out.ext HJ.out.2.1).ext HE6.out).cell hb2 (j := 0) rfl
                      simp only [Nat.mul_one, Nat.add_zero] at iy cy
                      have hj2 : jumpOk L t = b2 := by
                        unfold jumpOk
                        rw [hb2, decide_eq_true t1, decide_eq_true (by have := hN.out; omega)]
                        cases b2 <;> rfl
                      have HJ2 := Lib.hid hj2
                      clear hj2 hb2
                      cases b2 with
                      | true =>
                        go_wp2_with fail
                        go_roundw
                        case rel => exact ⟨m + 1, by omega, by go_num, Lib.hid ⟨HJ.out.1.trans' HE6.out, HJ.out.2.1.trans' HE6.out, all_succ HJ.out.2.2 (HJO.out.trans HJ2.out)⟩⟩
                        case measure => simp [intOf]; omega
                      | false =>
                        go_wp2_with fail
                        go_returns
                        exact ⟨_, _, rfl, by rw [prog_not2 (k := m) (by have := hN.out; omega) (HJO.out.trans HJ2.out)]; rfl, HJ.out.1.trans' HE6.out⟩
                    · have hj2 : jumpOk L t = false := by
                        unfold jumpOk
                        rw [decide_eq_false (by have := hN.out; omega : ¬ t < (L.length : Int))]
                        simp
                      have HJ2 := Lib.hid hj2
                      clear hj2
                      go_wp2_with fail
                      go_returns
                      exact ⟨_, _, rfl, by rw [prog_not2 (k := m) (by have := hN.out; omega) (HJO.out.trans HJ2.out)]; rfl, HJ.out.1.trans' HE6.out⟩
                  · have hj2 : jumpOk L t = false := by
                      unfold jumpOk
                      rw [decide_eq_false t1]
                      simp
                    have HJ2 := Lib.hid hj2
                    clear hj2
                    go_wp2_with fail
                    go_returns
                    exact ⟨_, _, rfl, by rw [prog_not2 (k := m) (by have := hN.out; omega) (HJO.out.trans HJ2.out)]; rfl, HJ.out.1.trans' HE6.out⟩
            · obtain rfl : m = k := by omega
              have HP : Hid (progS L = endS L) := Lib.hid (prog_end (by rw [← hN.out]; exact h1) (by rw [← hN.out]; exact h5) (by rw [← hN.out]; exact HK1.out) (by rw [← hN.out]; exact HJ.out.2.2))
              obtain ⟨x, hx⟩ := at_of_lt (xs := L) (k := lastS L m) (by have := hN.out; have := HLE.out; omega)
              have hes : endS L = ((whatZ x).kind == 12 || (whatZ x).kind == 9) := by unfold endS; rw [← hN.out, hx]
              have ix := fun W => (HD.out.ext HJ.out.1).run_at (P := Tryz.prog) el_ins.under el_ins.size .i64 (lastS L m : Nat) (by omega) (by have := HLE.out; omega) W
              simp only [Int.toNat_natCast] at ix
              obtain ⟨c0, c1, c2, c3, c4⟩ := ins_cells (HD.out.ext HJ.out.1) hx
              have HX := Lib.hid hx
              unfold whatZ at hes
              obtain ⟨y, hy⟩ : ∃ y, (whatS x).getD Wh.zero = y := ⟨_, rfl⟩
              rw [hy] at hes
              have HES := Lib.hid hes
              have HY := Lib.hid hy
              clear hx hes hy
              go_upto_region 20 with fail
              go_cut [12] (fun v6 wx => ∃ q, v6 = .pointer (some ⟨q, 0, none⟩) ∧ Hid (Ext w wx ∧ wx.heap[q]? = some (whObj y)))
              case first =>
                go_wp2_with fail
                refine (p_What x _ (HOK.out.at HX.out)).mono ?_
                unfold WhatA
                rw [HY.out]
                rintro e w7 ⟨rfl, hE7⟩
                have HE7 := Lib.hid hE7
                clear hE7
                go_wp2_with fail
                go_meet
                refine ⟨_, rfl, Lib.hid ⟨(HJ.out.1.trans' HE7.out).alloc' _, ?_⟩⟩
                (repeat (first | (refine obj_top _ _ ?_; simp; done) | refine obj_old _ ?_))
              case rest =>
                obtain ⟨q, rfl, HW⟩ := hcut
                have q0 := cell_obj (i := 0) HW.out.2
                simp only [List.getElem?_toArray, List.getElem?_cons_zero, List.getElem?_cons_succ] at q0
                clear c0 c1 c2 c3 c4
                obtain ⟨k12, hk12⟩ : ∃ z, (y.kind != 12) = z := ⟨_, rfl⟩
                obtain ⟨k9, hk9⟩ : ∃ z, (y.kind != 9) = z := ⟨_, rfl⟩
                have b1 : (y.kind == 12) = !k12 := by rw [← hk12]; simp [bne]
                have b2 : (y.kind == 9) = !k9 := by rw [← hk9]; simp [bne]
                have HB1 := Lib.hid b1
                have HB2 := Lib.hid b2
                clear b1 b2
                cases k12
                · go_wp2_with fail
                  go_returns
                  exact ⟨_, _, rfl, by rw [HP.out, HES.out, HB1.out]; rfl, HW.out.1⟩
                · cases k9
                  all_goals
                    go_wp2_with fail
                    go_returns
                    exact ⟨_, _, rfl, by rw [HP.out, HES.out, HB1.out, HB2.out]; rfl, HW.out.1⟩
    · go_wp2_with fail
      go_returns
      exact ⟨_, _, rfl, by rw [progS, decide_eq_false (by rw [← hN.out]; omega : ¬ L.length ≤ 512)]; simp, Ext.rfl' _⟩
  · go_wp2_with fail
    go_returns
    exact ⟨_, _, rfl, by rw [progS, decide_eq_false (by rw [← hN.out]; omega : ¬ 1 ≤ L.length)]; simp, Ext.rfl' _⟩
end Go.Proofs.YtlpeljpjgmapgaaGreat
