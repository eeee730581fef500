/- hackleref16: Heads. -/
import Derived.Test.YtkogkcjiachphaaR16C
namespace Go.Proofs.Ytkogkcjiachphaa
open Go.RowKit
set_option linter.unusedVariables false
set_option linter.unusedSimpArgs false

/-- In a program each jump has a target. -/
theorem goes_ref {L : List Ins} (hp : ProgF L) {m : Nat} {x : Ins} (hs : (stF false L)[m]? = some true) (hx : L[m]? = some x) : goesK x = ((targetS L x m).isSome || (whatZ x).kind == 12) := by
  have h2 := hp.o2 m (st_lt hs)
  rw [(ok1_at hs hx).2.1] at h2
  unfold goesK targetS
  unfold toS at h2 ⊢
  by_cases hk : (whatZ x).kind = 9 ∨ (whatZ x).kind = 10
  · rw [if_pos hk] at h2 ⊢
    simp only [] at h2 ⊢
    unfold jumpOk at h2
    simp only [Bool.and_eq_true, decide_eq_true_eq] at h2
    rw [if_pos ⟨h2.1, h2.2.1⟩]
    rcases hk with e | e <;> simp [e]
  · rw [if_neg hk]
    have h9 : ((whatZ x).kind == 9) = false := by simpa using fun e => hk (.inl e)
    have h10 : ((whatZ x).kind == 10) = false := by simpa using fun e => hk (.inr e)
    rw [h9, h10]
    simp
set_option maxRecDepth 20000 in
set_option maxHeartbeats 8000000 in
theorem r16_Heads (v : Value) (L : List Ins) (w : World) (h : Rd w 5 Ins.enc v L) (hl : L.length ≤ 1000000) (hok : InsOk L) : Calls Try.prog 25 #[v] w (OwnB (headsL L) w) := by
  obtain ⟨a, n, c, rfl, hn, hN⟩ := h.val
  have hk2 : n ≤ 1000000 := by rw [hN.out]; exact hl
  have HD := Lib.hid h
  have HOK := Lib.hid hok
  have HL := Lib.hid hl
  have HN := Lib.hid hN.out
  clear h hok hl
  unfold headsL
  cases hb : progS L with
  | false =>
    have HB := Lib.hid hb
    clear hb
    simp only [Bool.false_eq_true, if_false]
    go_enter Try.func25, Try.ntmps25
    go_wp2_with fail
    refine (r_Check _ L _ HD.out HL.out HOK.out).mono ?_
    rintro e w5 ⟨at_, er, rfl, her, hE⟩
    rw [HB.out] at her
    have hne : (er != 0) = true := by simpa using her
    have HE := Lib.hid hE
    clear her hE
    go_wp2_with fail
    go_returns
    exact ⟨_, rfl, Own.nil _ _ _ _ _, HE.out⟩
  | true =>
    have h1 : 1 ≤ n := by rw [hN.out]; exact (ProgF.of hb).len.1
    have HB := Lib.hid hb
    have HGR := Lib.hid (fun (m : Nat) (x : Ins) => goes_ref (L := L) (m := m) (x := x) (ProgF.of hb))
    clear hb
    have hmk := run_make_bool n hk2
    simp only [if_true]
    go_enter Try.func25, Try.ntmps25
    go_wp2_with fail
    refine (r_Check _ L _ HD.out HL.out HOK.out).mono ?_
    rintro e w5 ⟨at_, er, rfl, her, hE⟩
    rw [HB.out] at her
    obtain rfl : er = 0 := by simpa using her
    have HE := Lib.hid hE
    clear her hE
    go_upto_region 4 with fail
    go_cut [5] from 20 to 22 (fun v3 wx => ∃ g, v3 = .slice (some ⟨g, 0, none⟩) n n ∧ g < wx.heap.size ∧ Hid (Own wx w.heap.size 4 1 encB v3 (List.replicate n false) ∧ Ext w wx))
    case first =>
      go_wp2_with fail
      go_meet
      exact ⟨_, rfl, by simp, Lib.hid ⟨own_made_bool _ _ hk2 _ HE.out.size, HE.out.alloc' _⟩⟩
    case rest =>
      obtain ⟨g, rfl, hg, HO⟩ := hcut
      obtain ⟨a3, c3, hv3⟩ : ∃ a3 c3, a3 = some (⟨g, 0, none⟩ : Addr) ∧ c3 = n := ⟨_, _, rfl, rfl⟩
      have hrd := HO.out.1.rd enc_bool
      have i0 := fun W => hrd.run_at (P := Try.prog) el_bool.under el_bool.size .i64 0 (by omega) (by omega) W
      obtain ⟨e1, e2, e3, e4, e5⟩ := HO.out.1.at (k := 0) (x := false) (by rw [List.getElem?_replicate, if_pos (by omega)])
      simp only [Nat.mul_one, Int.toNat_zero] at i0
      have HO0 := Lib.hid (e5 true)
      clear e5 e3 hrd hmk hv3
      go_upto_region 6 with fail
      have hO1 := HO0.out.1
      have hE1 : Ext w _ := HO0.out.2 _ _ HO.out.2 (Nat.le_refl _)
      have hg1 : g < (wc.setCell (elt (.slice (some ⟨g, 0, none⟩) n n) 0) (.bool true)).heap.size := by simpa using hg
      have hz : headUpto L 0 = (List.replicate n false).set 0 true := by rw [HN.out]; exact headUpto_zero (by rw [← HN.out]; exact h1)
      rw [← hz] at hO1
      generalize hF : wc.setCell (elt (.slice (some ⟨g, 0, none⟩) n n) 0) (.bool true) = wF at hO1 hE1 hg1 ⊢
      clear hF hz e1 e2 e4 HO0 HO i0 hg
      have HO1 := Lib.hid hO1
      have HE1 := Lib.hid hE1
      clear hO1 hE1
      go_wp2_with fail
      refine (r_Starts _ L _ (HD.out.ext HE1.out) HL.out).mono ?_
      rintro e w6 ⟨s, rfl, hO, hE6⟩
      obtain ⟨sa, sn, sc, hsv, hsn, hSN⟩ := (hO.rd enc_bool).val
      have HS := Lib.hid hO
      have HE6 := Lib.hid hE6
      clear hO hE6
      subst hsv
      obtain rfl : sn = n := by rw [hSN.out, stF_length, HN.out]
      go_wp2_with fail
      go_loopw [7] (fun q wr => ∃ m : Nat, m ≤ sn ∧ q = .int .i64 m ∧ Hid (Own wr w.heap.size 4 1 encB (.slice (some ⟨g, 0, none⟩) sn sn) (headUpto L m) ∧ Ext w wr ∧ Own wr wF.heap.size 4 1 encB (.slice sa sn sc) (stF false L))) (fun q _ => sn - (intOf q).toNat)
      case atStart => exact ⟨0, Nat.zero_le _, rfl, Lib.hid ⟨HO1.out.ext HE6.out, HE1.out.trans' HE6.out, HS.out⟩⟩
      case round =>
        obtain ⟨m, hm, rfl, HI⟩ := hrel
        by_cases hlt : (m : Int) < sn
        · obtain ⟨b, hb⟩ := at_of_lt (xs := stF false L) (k := m) (by have := hSN.out; omega)
          obtain ⟨x, hx⟩ := at_of_lt (xs := L) (k := m) (by have := HN.out; omega)
          have hrs := HI.out.2.2.rd enc_bool
          have ix := fun W => hrs.run_at (P := Try.prog) el_bool.under el_bool.size .i64 (m : Int) (by omega) (by omega) W
          have cb := hrs.cell hb (j := 0) rfl
          have iy := fun W => HD.out.run_at (P := Try.prog) el_ins.under el_ins.size .i64 (m : Int) (by omega) (by omega) W
          obtain ⟨c0, c1, c2, c3, c4⟩ := ins_cells (HD.out.ext HI.out.2.1) hx
          simp only [Nat.mul_one, Nat.add_zero, Int.toNat_natCast] at ix cb iy
          have HSB := Lib.hid hb
          have HX := Lib.hid hx
          obtain ⟨y, hy⟩ : ∃ y, (whatS x).getD Wh.zero = y := ⟨_, rfl⟩
          obtain ⟨bb, hbb⟩ : ∃ y, (whatS x).isSome = y := ⟨_, rfl⟩
          obtain ⟨z12, hz12⟩ : ∃ z, (y.kind == 12) = z := ⟨_, rfl⟩
          have HY := Lib.hid hy
          have HBB := Lib.hid hbb
          have HZZ : Hid (((whatZ x).kind == 12) = z12) := Lib.hid (by unfold whatZ; rw [hy]; exact hz12)
          clear hb hx hrs hy hbb
          go_upto_region 10 with fail
          go_cut [8, 9] from 33 to 40 (fun v6 v9 wx => ∃ q, v6 = .pointer (some ⟨q, 0, none⟩) ∧ v9 = .bool bb ∧ Hid (Ext wr wx ∧ wx.heap[q]? = some (whObj y)))
          case first =>
            go_wp2_with fail
            refine (r_What x _ (HOK.out.at HX.out)).mono ?_
            unfold WhatA
            rw [HY.out, HBB.out]
            rintro e w7 ⟨rfl, hE7⟩
            have HE7 := Lib.hid hE7
            clear hE7
            go_wp2_with fail
            go_meet
            refine ⟨_, rfl, rfl, Lib.hid ⟨HE7.out.alloc' _, ?_⟩⟩
            (repeat (first | (refine obj_top _ _ ?_; simp; done) | refine obj_old _ ?_))
          case rest =>
            obtain ⟨q, rfl, rfl, HW⟩ := hcut
            replace cb := HW.out.1.cellOf cb
            clear c0 c1 c2 c3 c4 iy
            cases b with
            | false =>
              go_wp2_with fail
              go_roundw
              case rel => exact ⟨m + 1, by omega, by go_num, Lib.hid ⟨by rw [headUpto_skip (fun k _ => by unfold marks; rw [HSB.out])]; exact HI.out.1.ext HW.out.1, HI.out.2.1.trans' HW.out.1, HI.out.2.2.ext HW.out.1⟩⟩
              case measure => simp [intOf]; omega
            | true =>
              have hmk : ∀ k, marks L m k = markX L x m k := fun k => by unfold marks; rw [HSB.out, HX.out]
              have HMK := Lib.hid hmk
              have hgx := HGR.out m x HSB.out HX.out
              rw [HZZ.out] at hgx
              have HGX := Lib.hid hgx
              clear hmk hgx
              go_wp2_with fail
              refine (r_Target _ L m x _ (HD.out.ext (HI.out.2.1.trans' HW.out.1)) HL.out HX.out (HOK.out.at HX.out)).mono ?_
              unfold OptA
              obtain ⟨o, ho⟩ : ∃ o, targetS L x m = o := ⟨_, rfl⟩
              rw [ho]
              rintro e w8 ⟨rfl, hE8⟩
              have HE8 := Lib.hid (HW.out.1.trans' hE8)
              have HQ8 := Lib.hid (hE8.obj HW.out.2)
              have HTO := Lib.hid ho
              clear hE8 ho ix cb
              cases o with
              | none =>
                simp only [Option.getD_none, Option.isSome_none]
                go_wp2_with fail
                refine (r_Next _ L m x _ (HD.out.ext (HI.out.2.1.trans' HE8.out)) HL.out HX.out).mono ?_
                rintro e w9 ⟨rfl, hE9⟩
                have HE9 := Lib.hid hE9
                have q0 := cell_obj (i := 0) (hE9.obj HQ8.out)
                simp only [List.getElem?_toArray, List.getElem?_cons_zero, List.getElem?_cons_succ] at q0
                clear hE9
                have HO9 := Lib.hid ((HI.out.1.ext HE8.out).ext HE9.out)
                have HS9 := Lib.hid ((HI.out.2.2.ext HE8.out).ext HE9.out)
                have HX9 : Hid (Ext w w9) := Lib.hid (Ext.trans' (HI.out.2.1.trans' HE8.out) HE9.out)
                cases z12 with
                | false =>
                  have hgf : goesK x = false := by rw [HGX.out, HTO.out]; rfl
                  have HGF := Lib.hid hgf
                  clear hgf
                  go_wp2_with fail
                  go_roundw
                  case rel => exact ⟨m + 1, by omega, by go_num, Lib.hid ⟨by rw [headUpto_skip (fun k _ => by rw [HMK.out, markX, HGF.out]; rfl)]; exact HO9.out, HX9.out, HS9.out⟩⟩
                  case measure => simp [intOf]; omega
                | true =>
                  have hgt : goesK x = true := by rw [HGX.out, HTO.out]; rfl
                  have HMM := Lib.hid (headUpto_mark HMK.out hgt)
                  clear hgt
                  by_cases hnx : ((nextI x m : Nat) : Int) < sn
                  · obtain ⟨z, hz⟩ := at_of_lt (xs := headUpto L m) (k := nextI x m) (by have := HN.out; have := headUpto_length L m; simp; omega)
                    have iz := fun W => (HO9.out.rd enc_bool).run_at (P := Try.prog) el_bool.under el_bool.size .i64 ((nextI x m : Nat) : Int) (by omega) (by omega) W
                    simp only [Nat.mul_one, Nat.add_zero, Int.toNat_natCast] at iz
                    obtain ⟨f1, f2, f3, f4, f5⟩ := HO9.out.at hz
                    have HO10 := Lib.hid (f5 true)
                    clear f5 f3 hz
                    go_wp2_with fail
                    go_roundw
                    case rel => exact ⟨m + 1, by omega, by go_num, Lib.hid ⟨by rw [HMM.out, HTO.out]; exact HO10.out.1, HO10.out.2 _ _ HX9.out (Nat.le_refl _), HS9.out.other (by rw [elt_block]; exact hg1) _⟩⟩
                    case measure => simp [intOf]; omega
                  · go_wp2_with fail
                    go_roundw
                    case rel => exact ⟨m + 1, by omega, by go_num, Lib.hid ⟨by rw [HMM.out, HTO.out, List.set_eq_of_length_le (by have := HN.out; have := headUpto_length L m; simp; omega)]; exact HO9.out, HX9.out, HS9.out⟩⟩
                    case measure => simp [intOf]; omega
              | some t =>
                have hgt : goesK x = true := by rw [HGX.out, HTO.out]; rfl
                have HMM := Lib.hid (headUpto_mark HMK.out hgt)
                clear hgt
                simp only [Option.getD_some, Option.isSome_some]
                obtain ⟨t0, t1⟩ := target_lt HTO.out
                rw [← HN.out] at t1
                have HO8 := Lib.hid (HI.out.1.ext HE8.out)
                obtain ⟨z, hz⟩ := at_of_lt (xs := headUpto L m) (k := t.toNat) (by have := HN.out; have := headUpto_length L m; omega)
                have it := fun W => (HO8.out.rd enc_bool).run_at (P := Try.prog) el_bool.under el_bool.size .i64 t (by omega) (by omega) W
                simp only [Nat.mul_one, Nat.add_zero] at it
                obtain ⟨f1, f2, f3, f4, f5⟩ := HO8.out.at hz
                have HQ8 := Lib.hid (f5 true)
                clear f5 f3 hz
                have HEQ : Hid (Ext w (w8.setCell (elt (.slice (some ⟨g, 0, none⟩) sn sn) t.toNat) (.bool true))) := Lib.hid (HQ8.out.2 _ _ (HI.out.2.1.trans' HE8.out) (Nat.le_refl _))
                have HSQ := Lib.hid ((HI.out.2.2.ext HE8.out).other (a := elt (.slice (some ⟨g, 0, none⟩) sn sn) t.toNat) (by rw [elt_block]; exact hg1) (.bool true))
                go_wp2_with fail
                refine (r_Next _ L m x _ (HD.out.ext HEQ.out) HL.out HX.out).mono ?_
                rintro e w9 ⟨rfl, hE9⟩
                have HE9 := Lib.hid hE9
                clear hE9
                have HO9 := Lib.hid (HQ8.out.1.ext HE9.out)
                have HS9 := Lib.hid (HSQ.out.ext HE9.out)
                have HX9 : Hid (Ext w w9) := Lib.hid (Ext.trans' HEQ.out HE9.out)
                by_cases hnx : ((nextI x m : Nat) : Int) < sn
                · obtain ⟨z, hz⟩ := at_of_lt (xs := (headUpto L m).set t.toNat true) (k := nextI x m) (by have := HN.out; have := headUpto_length L m; simp; omega)
                  have iz := fun W => (HO9.out.rd enc_bool).run_at (P := Try.prog) el_bool.under el_bool.size .i64 ((nextI x m : Nat) : Int) (by omega) (by omega) W
                  simp only [Nat.mul_one, Nat.add_zero, Int.toNat_natCast] at iz
                  obtain ⟨f1, f2, f3, f4, f5⟩ := HO9.out.at hz
                  have HO10 := Lib.hid (f5 true)
                  clear f5 f3 hz
                  go_wp2_with fail
                  go_roundw
                  case rel => exact ⟨m + 1, by omega, by go_num, Lib.hid ⟨by rw [HMM.out, HTO.out]; exact HO10.out.1, HO10.out.2 _ _ HX9.out (Nat.le_refl _), HS9.out.other (by rw [elt_block]; exact hg1) _⟩⟩
                  case measure => simp [intOf]; omega
                · go_wp2_with fail
                  go_roundw
                  case rel => exact ⟨m + 1, by omega, by go_num, Lib.hid ⟨by rw [HMM.out, HTO.out, List.set_eq_of_length_le (by have := HN.out; have := headUpto_length L m; simp; omega)]; exact HO9.out, HX9.out, HS9.out⟩⟩
                  case measure => simp [intOf]; omega
        · obtain rfl : m = sn := by omega
          go_wp2_with fail
          go_returns
          exact ⟨_, rfl, by rw [← HN.out]; exact HI.out.1, HI.out.2.1⟩
end Go.Proofs.Ytkogkcjiachphaa
