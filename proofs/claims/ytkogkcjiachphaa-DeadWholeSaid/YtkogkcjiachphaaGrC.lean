/- graph: Heads. -/
import Derived.Test.YtkogkcjiachphaaGrB
namespace Go.Proofs.Ytkogkcjiachphaa
open Go.RowKit
set_option linter.unusedVariables false
set_option linter.unusedSimpArgs false

abbrev encB : Bool → List Value := fun x => [Value.bool x]
def goesK (x : Ins) : Bool := (whatZ x).kind == 12 || ((whatZ x).kind == 9 || (whatZ x).kind == 10)
def markX (L : List Ins) (x : Ins) (i k : Nat) : Bool := goesK x && ((targetS L x i == some (k : Int)) || nextI x i == k)
def marks (L : List Ins) (i k : Nat) : Bool := match (stF false L)[i]?, L[i]? with | some true, some x => markX L x i k | _, _ => false
def headB (L : List Ins) (m k : Nat) : Bool := (k == 0) || (List.range m).any (fun i => marks L i k)
def headUpto (L : List Ins) (m : Nat) : List Bool := (List.range L.length).map (headB L m)
/-- Where blocks begin. -/
def headsL (L : List Ins) : List Bool := if progS L then headUpto L L.length else []
theorem map_set (n t : Nat) (f : Nat → Bool) : ((List.range n).map f).set t true = (List.range n).map (fun k => f k || k == t) := by
  apply List.ext_getElem?
  intro i
  by_cases hi : i < n
  · by_cases ht : t = i
    · subst ht
      rw [List.getElem?_set_self (by simpa using hi)]
      simp [hi]
    · rw [List.getElem?_set_ne ht]
      have : (i == t) = false := by simpa using fun e => ht e.symm
      simp [hi, this]
  · rw [List.getElem?_eq_none (by simpa using hi), List.getElem?_eq_none (by simpa using hi)]
theorem headB_succ (L : List Ins) (m k : Nat) : headB L (m + 1) k = (headB L m k || marks L m k) := by
  unfold headB
  rw [List.range_succ, List.any_append]
  simp [Bool.or_assoc]
theorem headUpto_skip {L : List Ins} {m : Nat} (h : ∀ k, k < L.length → marks L m k = false) : headUpto L (m + 1) = headUpto L m := by
  unfold headUpto
  apply List.map_congr_left
  intro k hk
  rw [headB_succ, h k (by simpa using hk), Bool.or_false]
theorem headUpto_mark {L : List Ins} {m : Nat} {x : Ins} (h : ∀ k, marks L m k = markX L x m k) (hg : goesK x = true) :
    headUpto L (m + 1) = ((match targetS L x m with | some t => (headUpto L m).set t.toNat true | none => headUpto L m)).set (nextI x m) true := by
  have key : ∀ k, headB L (m + 1) k = ((headB L m k || (targetS L x m == some (k : Int))) || (nextI x m == k)) := fun k => by
    rw [headB_succ, h, markX, hg, Bool.true_and, Bool.or_assoc]
  cases ht : targetS L x m with
  | none =>
    simp only []
    unfold headUpto
    rw [map_set]
    apply List.map_congr_left
    intro k hk
    rw [key, ht]
    have : (none == some (k : Int)) = false := rfl
    rw [this, Bool.or_false]
    congr 1
    rw [Bool.beq_comm]
  | some t =>
    have h0 : 0 ≤ t := by
      unfold targetS at ht
      cases h1 : toS x m with
      | none => rw [h1] at ht; cases ht
      | some u =>
        rw [h1] at ht
        simp only [] at ht
        split at ht
        · injection ht with ht; omega
        · cases ht
    simp only []
    unfold headUpto
    rw [map_set, map_set]
    apply List.map_congr_left
    intro k hk
    rw [key, ht]
    have e : (some t == some (k : Int)) = (k == t.toNat) := by
      by_cases h : t = k
      · subst h; simp
      · have h2 : k ≠ t.toNat := by omega
        have h3 : (some t == some (k : Int)) = false := by simpa using h
        rw [h3]
        simp [h2]
    rw [e]
    congr 1
    rw [Bool.beq_comm]
theorem headUpto_zero {L : List Ins} (h : 1 ≤ L.length) : headUpto L 0 = (List.replicate L.length false).set 0 true := by
  have : List.replicate L.length false = (List.range L.length).map (fun _ => false) := by rw [List.map_const', List.length_range]
  rw [this, map_set]
  unfold headUpto
  apply List.map_congr_left
  intro k _
  simp [headB]
theorem headUpto_length (L : List Ins) (m : Nat) : (headUpto L m).length = L.length := by simp [headUpto]
theorem target_lt {L : List Ins} {x : Ins} {m : Nat} {t : Int} (ht : targetS L x m = some t) : 0 ≤ t ∧ t < L.length := by
  unfold targetS at ht
  cases h1 : toS x m with
  | none => rw [h1] at ht; cases ht
  | some u =>
    rw [h1] at ht
    simp only [] at ht
    split at ht
    · injection ht with ht; omega
    · cases ht
theorem elt_block (g n c k : Nat) : (elt (.slice (some ⟨g, 0, none⟩) n c) k).block = g := by simp only [elt, Addr.add]; split <;> rfl
def OwnB (xs : List Bool) (w : World) (e : Ending) (w' : World) : Prop := ∃ v, e = .returned v ∧ Own w' w.heap.size 4 1 encB v xs ∧ Ext w w'
set_option maxRecDepth 20000 in
set_option maxHeartbeats 8000000 in
theorem p_Heads (v : Value) (L : List Ins) (w : World) (h : Rd w 5 Ins.enc v L) (hl : L.length ≤ 1000000) (hok : InsOk L) : Calls Try.prog 16 #[v] w (OwnB (headsL L) w) := by
  obtain ⟨a, n, c, rfl, hn, hN⟩ := h.val
  have hk2 : n ≤ 1000000 := by rw [hN.out]; exact hl
  have HD := Lib.hid h
  have HOK := Lib.hid hok
  have HL := Lib.hid hl
  have HN := Lib.hid hN.out
  clear h hok hl
  unfold headsL
  cases hb : progS L with
  | false =>
    have HB := Lib.hid hb
    clear hb
    simp only [Bool.false_eq_true, if_false]
    go_enter Try.func16, Try.ntmps16
    go_wp2_with fail
    refine (p_right _ L _ HD.out HL.out HOK.out).mono ?_
    rw [HB.out]
    rintro e w5 ⟨rfl, hE⟩
    have HE := Lib.hid hE
    clear hE
    go_wp2_with fail
    go_returns
    exact ⟨_, rfl, Own.nil _ _ _ _ _, HE.out⟩
  | true =>
    have h1 : 1 ≤ n := by
      unfold progS at hb
      simp only [Bool.and_eq_true, decide_eq_true_eq] at hb
      rw [hN.out]; exact hb.1
    have HB := Lib.hid hb
    clear hb
    have hmk := run_make_bool n hk2
    simp only [if_true]
    go_enter Try.func16, Try.ntmps16
    go_wp2_with fail
    refine (p_right _ L _ HD.out HL.out HOK.out).mono ?_
    rw [HB.out]
    rintro e w5 ⟨rfl, hE⟩
    have HE := Lib.hid hE
    clear hE
    go_upto_region 3 with fail
    go_cut [3] (fun v3 wx => ∃ g, v3 = .slice (some ⟨g, 0, none⟩) n n ∧ g < wx.heap.size ∧ Hid (Own wx w.heap.size 4 1 encB v3 (List.replicate n false) ∧ Ext w wx))
    case first =>
      go_wp2_with fail
      go_meet
      exact ⟨_, rfl, by simp, Lib.hid ⟨own_made_bool _ _ hk2 _ HE.out.size, HE.out.alloc' _⟩⟩
    case rest =>
      obtain ⟨g, rfl, hg, HO⟩ := hcut
      obtain ⟨a3, c3, hv3⟩ : ∃ a3 c3, a3 = some (⟨g, 0, none⟩ : Addr) ∧ c3 = n := ⟨_, _, rfl, rfl⟩
      have hrd := HO.out.1.rd enc_bool
      have i0 := fun W => hrd.run_at (P := Try.prog) el_bool.under el_bool.size .i64 0 (by omega) (by omega) W
      obtain ⟨e1, e2, e3, e4, e5⟩ := HO.out.1.at (k := 0) (x := false) (by rw [List.getElem?_replicate, if_pos (by omega)])
      simp only [Nat.mul_one, Int.toNat_zero] at i0
      have HO0 := Lib.hid (e5 true)
      clear e5 e3 hrd hmk hv3
      go_upto_region 5 with fail
      have hO1 := HO0.out.1
      have hE1 : Ext w _ := HO0.out.2 _ _ HO.out.2 (Nat.le_refl _)
      have hg1 : g < (wc.setCell (elt (.slice (some ⟨g, 0, none⟩) n n) 0) (.bool true)).heap.size := by simpa using hg
      have hz : headUpto L 0 = (List.replicate n false).set 0 true := by rw [HN.out]; exact headUpto_zero (by rw [← HN.out]; exact h1)
      rw [← hz] at hO1
      generalize hF : wc.setCell (elt (.slice (some ⟨g, 0, none⟩) n n) 0) (.bool true) = wF at hO1 hE1 hg1 ⊢
      clear hF hz e1 e2 e4 HO0 HO i0 hg
      have HO1 := Lib.hid hO1
      have HE1 := Lib.hid hE1
      clear hO1 hE1
      go_wp2_with fail
      refine (p_Starts _ L _ (HD.out.ext HE1.out) HL.out).mono ?_
      rintro e w6 ⟨s, rfl, hO, hE6⟩
      obtain ⟨sa, sn, sc, hsv, hsn, hSN⟩ := (hO.rd enc_bool).val
      have HS := Lib.hid hO
      have HE6 := Lib.hid hE6
      clear hO hE6
      subst hsv
      obtain rfl : sn = n := by rw [hSN.out, stF_length, HN.out]
      go_wp2_with fail
      go_loopw [22] (fun q wr => ∃ m : Nat, m ≤ sn ∧ q = .int .i64 m ∧ Hid (Own wr w.heap.size 4 1 encB (.slice (some ⟨g, 0, none⟩) sn sn) (headUpto L m) ∧ Ext w wr ∧ Own wr wF.heap.size 4 1 encB (.slice sa sn sc) (stF false L))) (fun q _ => sn - (intOf q).toNat)
      case atStart => exact ⟨0, Nat.zero_le _, rfl, Lib.hid ⟨HO1.out.ext HE6.out, HE1.out.trans' HE6.out, HS.out⟩⟩
      case round =>
        obtain ⟨m, hm, rfl, HI⟩ := hrel
        by_cases hlt : (m : Int) < sn
        · obtain ⟨b, hb⟩ := at_of_lt (xs := stF false L) (k := m) (by have := hSN.out; omega)
          obtain ⟨x, hx⟩ := at_of_lt (xs := L) (k := m) (by have := HN.out; omega)
          have hrs := HI.out.2.2.rd enc_bool
          have ix := fun W => hrs.run_at (P := Try.prog) el_bool.under el_bool.size .i64 (m : Int) (by omega) (by omega) W
          have cb := hrs.cell hb (j := 0) rfl
          have iy := fun W => HD.out.run_at (P := Try.prog) el_ins.under el_ins.size .i64 (m : Int) (by omega) (by omega) W
          obtain ⟨c0, c1, c2, c3, c4⟩ := ins_cells (HD.out.ext HI.out.2.1) hx
          simp only [Nat.mul_one, Nat.add_zero, Int.toNat_natCast] at ix cb iy
          have HSB := Lib.hid hb
          have HX := Lib.hid hx
          obtain ⟨y, hy⟩ : ∃ y, (whatS x).getD Wh.zero = y := ⟨_, rfl⟩
          obtain ⟨k12, hk12⟩ : ∃ z, (y.kind != 12) = z := ⟨_, rfl⟩
          obtain ⟨k9, hk9⟩ : ∃ z, (y.kind != 9) = z := ⟨_, rfl⟩
          obtain ⟨k10, hk10⟩ : ∃ z, (y.kind != 10) = z := ⟨_, rfl⟩
          have hgo : goesK x = (!k12 || (!k9 || !k10)) := by
            unfold goesK whatZ
            rw [hy, ← hk12, ← hk9, ← hk10]
            simp [bne]
          have HGO := Lib.hid hgo
          have HY := Lib.hid hy
          clear hb hx hrs hgo hy
          go_upto_region 8 with fail
          go_cut [6] (fun v6 wx => ∃ q, v6 = .pointer (some ⟨q, 0, none⟩) ∧ Hid (Ext wr wx ∧ wx.heap[q]? = some (whObj y)))
          case first =>
            go_wp2_with fail
            refine (p_What x _ (HOK.out.at HX.out)).mono ?_
            unfold WhatA
            rw [HY.out]
            rintro e w7 ⟨rfl, hE7⟩
            have HE7 := Lib.hid hE7
            clear hE7
            go_wp2_with fail
            go_meet
            refine ⟨_, rfl, Lib.hid ⟨HE7.out.alloc' _, ?_⟩⟩
            (repeat (first | (refine obj_top _ _ ?_; simp; done) | refine obj_old _ ?_))
          case rest =>
            obtain ⟨q, rfl, HW⟩ := hcut
            have q0 := cell_obj (i := 0) HW.out.2
            simp only [List.getElem?_toArray, List.getElem?_cons_zero, List.getElem?_cons_succ] at q0
            clear c0 c1 c2 c3 c4 ix iy cb
            cases b with
            | false =>
              go_wp2_with fail
              go_roundw
              case rel => exact ⟨m + 1, by omega, by go_num, Lib.hid ⟨by rw [headUpto_skip (fun k _ => by unfold marks; rw [HSB.out])]; exact HI.out.1.ext HW.out.1, HI.out.2.1.trans' HW.out.1, HI.out.2.2.ext HW.out.1⟩⟩
              case measure => simp [intOf]; omega
            | true =>
              have hmk : ∀ k, marks L m k = markX L x m k := fun k => by unfold marks; rw [HSB.out, HX.out]
              have HMK := Lib.hid hmk
              clear hmk
              go_upto_region 9 with fail
              go_cut [51] (fun v51 wx => v51 = .bool (!goesK x) ∧ wx = wc)
              case first =>
                have hg2 := HGO.out
                cases k12
                · go_wp2_with fail
                  go_meet
                  exact ⟨by rw [hg2]; rfl, rfl⟩
                · cases k9
                  · go_wp2_with fail
                    go_meet
                    exact ⟨by rw [hg2]; rfl, rfl⟩
                  · go_wp2_with fail
                    go_meet
                    exact ⟨by rw [hg2]; simp, rfl⟩
              case rest =>
                obtain ⟨rfl, rfl⟩ := hcut
                cases hgx : goesK x with
                | false =>
                  have HGX := Lib.hid hgx
                  clear hgx
                  simp only [Bool.not_false]
                  go_wp2_with fail
                  go_roundw
                  case rel => exact ⟨m + 1, by omega, by go_num, Lib.hid ⟨by rw [headUpto_skip (fun k _ => by rw [HMK.out, markX, HGX.out]; rfl)]; exact HI.out.1.ext HW.out.1, HI.out.2.1.trans' HW.out.1, HI.out.2.2.ext HW.out.1⟩⟩
                  case measure => simp [intOf]; omega
                | true =>
                  have HMM := Lib.hid (headUpto_mark HMK.out hgx)
                  clear hgx
                  simp only [Bool.not_true]
                  go_wp2_with fail
                  refine (p_Target _ L m x _ (HD.out.ext (HI.out.2.1.trans' HW.out.1)) HL.out HX.out (HOK.out.at HX.out)).mono ?_
                  unfold OptA
                  obtain ⟨o, ho⟩ : ∃ o, targetS L x m = o := ⟨_, rfl⟩
                  rw [ho]
                  rintro e w8 ⟨rfl, hE8⟩
                  have HE8 := Lib.hid (HW.out.1.trans' hE8)
                  have HTO := Lib.hid ho
                  clear hE8 ho
                  cases o with
                  | none =>
                    simp only [Option.getD_none, Option.isSome_none]
                    go_wp2_with fail
                    refine (p_Next _ L m x _ (HD.out.ext (HI.out.2.1.trans' HE8.out)) HL.out HX.out).mono ?_
                    rintro e w9 ⟨rfl, hE9⟩
                    have HE9 := Lib.hid hE9
                    clear hE9
                    have HO9 := Lib.hid ((HI.out.1.ext HE8.out).ext HE9.out)
                    have HS9 := Lib.hid ((HI.out.2.2.ext HE8.out).ext HE9.out)
                    have HX9 : Hid (Ext w w9) := Lib.hid (Ext.trans' (HI.out.2.1.trans' HE8.out) HE9.out)
                    by_cases hnx : ((nextI x m : Nat) : Int) < sn
                    · obtain ⟨z, hz⟩ := at_of_lt (xs := headUpto L m) (k := nextI x m) (by have := HN.out; have := headUpto_length L m; simp; omega)
                      have iz := fun W => (HO9.out.rd enc_bool).run_at (P := Try.prog) el_bool.under el_bool.size .i64 ((nextI x m : Nat) : Int) (by omega) (by omega) W
                      simp only [Nat.mul_one, Nat.add_zero, Int.toNat_natCast] at iz
                      obtain ⟨f1, f2, f3, f4, f5⟩ := HO9.out.at hz
                      have HO10 := Lib.hid (f5 true)
                      clear f5 f3 hz
                      go_wp2_with fail
                      go_roundw
                      case rel => exact ⟨m + 1, by omega, by go_num, Lib.hid ⟨by rw [HMM.out, HTO.out]; exact HO10.out.1, HO10.out.2 _ _ HX9.out (Nat.le_refl _), HS9.out.other (by rw [elt_block]; exact hg1) _⟩⟩
                      case measure => simp [intOf]; omega
                    · go_wp2_with fail
                      go_roundw
                      case rel => exact ⟨m + 1, by omega, by go_num, Lib.hid ⟨by rw [HMM.out, HTO.out, List.set_eq_of_length_le (by have := HN.out; have := headUpto_length L m; simp; omega)]; exact HO9.out, HX9.out, HS9.out⟩⟩
                      case measure => simp [intOf]; omega
                  | some t =>
                    simp only [Option.getD_some, Option.isSome_some]
                    obtain ⟨t0, t1⟩ := target_lt HTO.out
                    rw [← HN.out] at t1
                    have HO8 := Lib.hid (HI.out.1.ext HE8.out)
                    obtain ⟨z, hz⟩ := at_of_lt (xs := headUpto L m) (k := t.toNat) (by have := HN.out; have := headUpto_length L m; omega)
                    have it := fun W => (HO8.out.rd enc_bool).run_at (P := Try.prog) el_bool.under el_bool.size .i64 t (by omega) (by omega) W
                    simp only [Nat.mul_one, Nat.add_zero] at it
                    obtain ⟨f1, f2, f3, f4, f5⟩ := HO8.out.at hz
                    have HQ8 := Lib.hid (f5 true)
                    clear f5 f3 hz
                    have HEQ : Hid (Ext w (w8.setCell (elt (.slice (some ⟨g, 0, none⟩) sn sn) t.toNat) (.bool true))) := Lib.hid (HQ8.out.2 _ _ (HI.out.2.1.trans' HE8.out) (Nat.le_refl _))
                    have HSQ := Lib.hid ((HI.out.2.2.ext HE8.out).other (a := elt (.slice (some ⟨g, 0, none⟩) sn sn) t.toNat) (by rw [elt_block]; exact hg1) (.bool true))
                    go_wp2_with fail
                    refine (p_Next _ L m x _ (HD.out.ext HEQ.out) HL.out HX.out).mono ?_
                    rintro e w9 ⟨rfl, hE9⟩
                    have HE9 := Lib.hid hE9
                    clear hE9
                    have HO9 := Lib.hid (HQ8.out.1.ext HE9.out)
                    have HS9 := Lib.hid (HSQ.out.ext HE9.out)
                    have HX9 : Hid (Ext w w9) := Lib.hid (Ext.trans' HEQ.out HE9.out)
                    by_cases hnx : ((nextI x m : Nat) : Int) < sn
                    · obtain ⟨z, hz⟩ := at_of_lt (xs := (headUpto L m).set t.toNat true) (k := nextI x m) (by have := HN.out; have := headUpto_length L m; simp; omega)
                      have iz := fun W => (HO9.out.rd enc_bool).run_at (P := Try.prog) el_bool.under el_bool.size .i64 ((nextI x m : Nat) : Int) (by omega) (by omega) W
                      simp only [Nat.mul_one, Nat.add_zero, Int.toNat_natCast] at iz
                      obtain ⟨f1, f2, f3, f4, f5⟩ := HO9.out.at hz
                      have HO10 := Lib.hid (f5 true)
                      clear f5 f3 hz
                      go_wp2_with fail
                      go_roundw
                      case rel => exact ⟨m + 1, by omega, by go_num, Lib.hid ⟨by rw [HMM.out, HTO.out]; exact HO10.out.1, HO10.out.2 _ _ HX9.out (Nat.le_refl _), HS9.out.other (by rw [elt_block]; exact hg1) _⟩⟩
                      case measure => simp [intOf]; omega
                    · go_wp2_with fail
                      go_roundw
                      case rel => exact ⟨m + 1, by omega, by go_num, Lib.hid ⟨by rw [HMM.out, HTO.out, List.set_eq_of_length_le (by have := HN.out; have := headUpto_length L m; simp; omega)]; exact HO9.out, HX9.out, HS9.out⟩⟩
                      case measure => simp [intOf]; omega
        · obtain rfl : m = sn := by omega
          go_wp2_with fail
          go_returns
          exact ⟨_, rfl, by rw [← HN.out]; exact HI.out.1, HI.out.2.1⟩
end Go.Proofs.Ytkogkcjiachphaa
