/- TableApart: what its code does. -/
import Derived.Test.YtjimmbcihcmfoaaTabQ
import Derived.Test.YtjimmbcihcmfoaaTabK
import Derived.Test.YtjimmbcihcmfoaaApL
import Derived.Deep.CutBlock
namespace Go.Proofs.Ytjimmbcihcmfoaa
open Go.RowKit
set_option linter.unusedVariables false
set_option linter.unusedSimpArgs false

/-- The cells of an act, at the head of a block. -/
@[reducible] def actObj (x : Act9) : Obj := .cells #[.int .u8 x.kind, .int .i64 x.map, .slice x.ka x.kn x.kc, .slice x.va x.vn x.vc, .int .u64 x.flags] 43
theorem act_obj_cells {F : List Nat} {w w' : World} {x : Act9} (k : Keep F (w.alloc (actObj x)) w') (hF : ∀ j ∈ F, j < w.heap.size) :
    w'.cell? ⟨w.heap.size, 0, none⟩ = some (.int .u8 x.kind) ∧ w'.cell? ⟨w.heap.size, 1, none⟩ = some (.int .i64 x.map) ∧ w'.cell? ⟨w.heap.size, 2, none⟩ = some (.slice x.ka x.kn x.kc) ∧ w'.cell? ⟨w.heap.size, 3, none⟩ = some (.slice x.va x.vn x.vc) ∧ w'.cell? ⟨w.heap.size, 4, none⟩ = some (.int .u64 x.flags) := by
  have h := k.obj (obj_top w (actObj x) rfl) (fun hj => by have := hF _ hj; omega)
  exact ⟨cell_obj h, cell_obj h, cell_obj h, cell_obj h, cell_obj h⟩
set_option maxRecDepth 20000 in
set_option maxHeartbeats 4000000 in
theorem tapart_any (v0 : Value) (L : List Act9) (w : World) (hL : Rd w 5 Act9.enc v0 L) (hok : ∀ x ∈ L, ActOk w x) :
    Calls Try.prog 6 #[v0] w (LawAns w) := by
  have HL := Lib.hid hL
  have HOK := Lib.hid hok
  clear hL hok
  go_enter Try.func6, Try.ntmps6
  go_wp2_with fail
  refine (tab_shown w).mono ?_
  rintro e w1 ⟨rfl, he1⟩
  go_wp2_with fail
  have hd0 := (Own.lit enc_def (base := 0) (w := w1) (e := 53) apD (b := w1.heap.size) (n := 3) rfl rfl (Nat.zero_le _) (by simp [maxLen])).rd enc_def
  have hd : Rd (w1.alloc (.cells #[.bool true, .int .i64 1, .int .i64 8, .int .i64 3, .bool true, .int .i64 1, .int .i64 8, .int .i64 3, .bool false, .int .i64 4, .int .i64 8, .int .i64 2] 53)) 4 TDef.enc (.slice (some ⟨w1.heap.size, 0, none⟩) 3 3) apD := hd0
  have hw2 : Ext w (w1.alloc (.cells #[.bool true, .int .i64 1, .int .i64 8, .int .i64 3, .bool true, .int .i64 1, .int .i64 8, .int .i64 3, .bool false, .int .i64 4, .int .i64 8, .int .i64 2] 53)) := he1.alloc' _
  clear hd0 he1
  generalize w1.alloc (.cells #[.bool true, .int .i64 1, .int .i64 8, .int .i64 3, .bool true, .int .i64 1, .int .i64 8, .int .i64 3, .bool false, .int .i64 4, .int .i64 8, .int .i64 2] 53) = w2 at *
  generalize w1.heap.size = B at *
  obtain ⟨V, hV, hinv⟩ := ap_new
  have HD := Lib.hid hd
  have HV := Lib.hid hV
  have HI := Lib.hid hinv
  have HW2 := Lib.hid hw2
  clear hd hV hinv hw2
  refine (in_new0 w2).mono ?_
  rintro e w3 ⟨b, rfl, h3⟩
  have H3 := Lib.hid h3
  clear h3
  go_wp2_with fail
  refine (new_lit H3.out (Ext.rfl' _) _ apD HV.out (Lib.hid (FirmN.of_old HD.out H3.out.ext))).mono ?_
  rintro e w4 ⟨ta, rfl, h4⟩
  have H4 := Lib.hid h4
  clear h4
  go_wp2_with fail
  refine (in_new0 w4).mono ?_
  rintro e w5 ⟨b2, rfl, h5⟩
  have H5 := Lib.hid h5
  clear h5
  go_wp2_with fail
  refine (new_lit H5.out (Ext.rfl' _) _ apD HV.out (Lib.hid (FirmN.of_old (HD.out.ext H4.out.ext) H5.out.ext))).mono ?_
  rintro e w6 ⟨tb, rfl, h6⟩
  have HE6 := Lib.hid h6.ext
  obtain ⟨F1, hT1, hF1⟩ := TwoT.mk' H4.out HE6.out h6 (Ext.rfl' w4)
  have HT1 := Lib.hid hT1
  have HF1 := Lib.hid hF1
  have hw6 : Ext w w6 := HW2.out.trans' (H4.out.ext.trans' HE6.out)
  have HW6 := Lib.hid hw6
  have HLL := Lib.hid (HL.out.ext hw6)
  clear h6 hT1 hF1 hw6
  go_wp2_with fail
  refine (few_any _ L w6 HLL.out).mono ?_
  rintro e w7 ⟨fv, L', rfl, hown, hmem, he7⟩
  obtain ⟨F0, hT0, hF0⟩ := HT1.out.fix he7
  have hkeepL : Hid (∀ w', Keep F0 w7 w' → Rd w' 5 Act9.enc fv L') := Lib.hid fun w' k => (hown.keep k (fun j hj hjF => by have := (hown.lt hj).1; have := (hF0 j hjF).1; omega)).rd enc_act
  obtain ⟨fa, fn, fc, rfl, hfn, HFN⟩ := (hown.rd enc_act).val
  have HMEM := Lib.hid hmem
  have HT0 := Lib.hid hT0
  have HF0 : Hid (∀ j ∈ F0, w.heap.size ≤ j) := Lib.hid fun j hj => by
    have h1 := HW2.out.size
    have h2 := hF0 j hj
    rcases h2.2 with h | h
    · exact Nat.le_trans h1 (HF1.out j h).2
    · exact Nat.le_trans HW6.out.size h
  have HW7 := Lib.hid (HW6.out.trans' he7)
  clear hT0 hF0 hmem hown he7
  go_wp2_with fail
  go_loopw [45] (fun i wr => ∃ (j : Nat) (VA VB : Areas × List TM), j ≤ fn ∧ i = .int .i64 j ∧ Hid (ApInv VA VB) ∧ Hid (TwoT F0 w7 wr ta VA tb VB)) (fun i _ => fn - (intOf i).toNat)
  case atStart => exact ⟨0, V, V, Nat.zero_le _, rfl, HI, HT0⟩
  case round =>
    obtain ⟨j, VA, VB, hj, rfl, HAP, HTW⟩ := hrel
    by_cases hlt : (j : Int) < fn
    · obtain ⟨x, hx⟩ := at_of_lt (xs := L') (k := j) (by have := HFN.out; omega)
      have hR := hkeepL.out _ HTW.out.keep
      have ix := fun W => hR.run_at (P := Try.prog) el_act.under el_act.size .i64 (j : Int) (by omega) (by omega) W
      simp only [Int.toNat_natCast] at ix
      obtain ⟨c0, c1, c2, c3, c4⟩ := act_cells hR hx
      rw [Act9.kv] at c2
      rw [Act9.vv] at c3
      obtain ⟨hxm, -, -⟩ := HMEM.out x (List.mem_of_getElem? hx)
      obtain ⟨hk0, hfl, ⟨ks, hks, hku⟩, ⟨vs, hvs, hvu⟩⟩ := HOK.out x hxm
      obtain ⟨F, hT, hF⟩ := HTW.out.fix ((Ext.rfl' wr).alloc' (actObj x))
      have hEw : Ext w (wr.alloc (actObj x)) := (HTW.out.ext HW7.out HF0.out).alloc' _
      have hFw : ∀ j ∈ F, w.heap.size ≤ j := fun j hj => by
        rcases (hF j hj).2 with h | h
        · exact HF0.out j h
        · exact Nat.le_trans HW7.out.size h
      have HFl : Hid (x.flags % 3 ≤ 18446744073709551615) := Lib.hid (by omega)
      have hfl0 : 0 ≤ x.flags % 3 := by omega
      have HST : Hid (Holds F (wr.alloc (actObj x)) fun w' => Sl w' .u8 x.vv vs) := Lib.hid (Holds.old hvs hEw hFw)
      have HKS : Hid (Holds F (wr.alloc (actObj x)) fun w' => Sl w' .u8 x.kv ks) := Lib.hid (Holds.old hks hEw hFw)
      have HKP : Hid (Keep F0 w7 (wr.alloc (actObj x))) := Lib.hid (HTW.out.keep.trans (Keep.of_ext ((Ext.rfl' wr).alloc' _)))
      have HFF : Hid (∀ j ∈ F, j ∈ F0 ∨ w7.heap.size ≤ j) := Lib.hid fun j hj => (hF j hj).2
      have HFlt : Hid (∀ j ∈ F, j < wr.heap.size) := Lib.hid fun j hj => (hF j hj).1
      have HT := Lib.hid hT
      have ek : (x.kind.tmod 5) = x.kind % 5 := Int.tmod_eq_emod_of_nonneg hk0.1
      have ef : (x.flags.tmod 3) = x.flags % 3 := Int.tmod_eq_emod_of_nonneg hfl.1
      have HX := Lib.hid hx
      rw [Act9.vv] at HST
      rw [Act9.kv] at HKS
      clear hR hxm hks hvs hT hF hEw hFw hx
      by_cases hdel : x.kind % 5 = 2
      · have d1 : (x.kind % 5 == 2) = true := by simpa using hdel
        clear hdel
        go_wp2_with fail
        refine (two_drop HT.out x.map _ ks (HKS.out _ HT.out.keep)).mono ?_
        rintro e w8 ⟨rfl, h8⟩
        obtain ⟨g0, g1, g2, g3, g4⟩ := act_obj_cells h8.keep HFlt.out
        have H8 := Lib.hid h8
        clear h8
        by_cases hm : x.map = 0
        · have d2 : (x.map == 0) = true := by simpa using hm
          have hap := ap_left HAP.out true ks hvu (x.flags % 3)
          rw [← hm] at hap
          have HA := Lib.hid hap
          clear hm hap
          go_wp2_with fail
          go_roundw
          case rel => exact ⟨j + 1, _, VB, by omega, by go_num, HA, Lib.hid (H8.out.back HKP.out HFF.out)⟩
          case measure => simp [intOf]; omega
        · have d2 : (x.map == 0) = false := by simpa using hm
          have HA := Lib.hid (ap_both HAP.out true hm ks hvu (x.flags % 3))
          clear hm
          go_wp2_with fail
          refine (two_drop H8.out.swap x.map _ ks (HKS.out _ H8.out.keep)).mono ?_
          rintro e w9 ⟨rfl, h9⟩
          have H9 := Lib.hid h9.swap
          clear h9
          go_wp2_with fail
          go_roundw
          case rel => exact ⟨j + 1, _, _, by omega, by go_num, HA, Lib.hid (H9.out.back HKP.out HFF.out)⟩
          case measure => simp [intOf]; omega
      · have d1 : (x.kind % 5 == 2) = false := by simpa using hdel
        clear hdel
        go_wp2_with fail
        refine (two_put HT.out x.map _ _ ks vs (x.flags % 3) (HKS.out _ HT.out.keep) hvu hfl0 HFl HST).mono ?_
        rintro e w8 ⟨rfl, h8⟩
        obtain ⟨g0, g1, g2, g3, g4⟩ := act_obj_cells h8.keep HFlt.out
        have H8 := Lib.hid h8
        clear h8
        by_cases hm : x.map = 0
        · have d2 : (x.map == 0) = true := by simpa using hm
          have hap := ap_left HAP.out false ks hvu (x.flags % 3)
          rw [← hm] at hap
          have HA := Lib.hid hap
          clear hm hap
          go_wp2_with fail
          go_roundw
          case rel => exact ⟨j + 1, _, VB, by omega, by go_num, HA, Lib.hid (H8.out.back HKP.out HFF.out)⟩
          case measure => simp [intOf]; omega
        · have d2 : (x.map == 0) = false := by simpa using hm
          have HA := Lib.hid (ap_both HAP.out false hm ks hvu (x.flags % 3))
          clear hm
          go_wp2_with fail
          refine (two_put H8.out.swap x.map _ _ ks vs (x.flags % 3) (HKS.out _ H8.out.keep) hvu hfl0 HFl HST).mono ?_
          rintro e w9 ⟨rfl, h9⟩
          have H9 := Lib.hid h9.swap
          clear h9
          go_wp2_with fail
          go_roundw
          case rel => exact ⟨j + 1, _, _, by omega, by go_num, HA, Lib.hid (H9.out.back HKP.out HFF.out)⟩
          case measure => simp [intOf]; omega
    · obtain ⟨i1, i2, i0⟩ := ap_items HAP.out
      have HI1 := Lib.hid i1
      have HI2 := Lib.hid i2
      have HI0 := Lib.hid i0
      have HE := Lib.hid (HTW.out.ext HW7.out HF0.out)
      have SA := Lib.hid HAP.out.wa.small
      have SB := Lib.hid HAP.out.wb.small
      clear i1 i2 i0
      go_wp2_with fail
      refine (two_items HTW.out 1 SA).mono ?_
      rintro e w8 ⟨v8, rfl, h8, he8⟩
      have H8 := Lib.hid h8
      have HE8 := Lib.hid he8
      clear h8 he8
      go_wp2_with fail
      refine (two_items (HTW.out.go HE8.out).swap 1 SB).mono ?_
      rintro e w9 ⟨v9, rfl, h9, he9⟩
      rw [← HI1.out] at h9
      have H9 := Lib.hid h9
      have HE9 := Lib.hid (HE8.out.trans' he9)
      have H89 := Lib.hid (H8.out.ext he9)
      clear h9 he9
      go_wp2_with fail
      refine (same_true _ _ _ w9 H89.out H9.out).mono ?_
      rintro e w10 ⟨rfl, he10⟩
      have HE10 := Lib.hid (HE9.out.trans' he10)
      clear he10
      go_wp2_with fail
      refine (two_items (HTW.out.go HE10.out) 2 SA).mono ?_
      rintro e w11 ⟨v11, rfl, h11, he11⟩
      have H11 := Lib.hid h11
      have HE11 := Lib.hid (HE10.out.trans' he11)
      clear h11 he11
      go_wp2_with fail
      refine (two_items (HTW.out.go HE11.out).swap 2 SB).mono ?_
      rintro e w12 ⟨v12, rfl, h12, he12⟩
      rw [← HI2.out] at h12
      have H12 := Lib.hid h12
      have HE12 := Lib.hid (HE11.out.trans' he12)
      have H112 := Lib.hid (H11.out.ext he12)
      clear h12 he12
      go_wp2_with fail
      refine (same_true _ _ _ w12 H112.out H12.out).mono ?_
      rintro e w13 ⟨rfl, he13⟩
      have HE13 := Lib.hid (HE12.out.trans' he13)
      clear he13
      go_wp2_with fail
      refine (two_items (HTW.out.go HE13.out).swap 0 SB).mono ?_
      rintro e w14 ⟨v14, rfl, h14, he14⟩
      rw [HI0.out] at h14
      obtain ⟨I, hI, -, hIm⟩ := h14
      obtain ⟨a, n, c, rfl, hn, hN⟩ := hI.val
      obtain rfl : n = 0 := by have := congrArg List.length hIm; simp at this; have := hN.out; simp_all
      have HE14 := Lib.hid (HE13.out.trans' he14)
      clear he14 hI hIm
      go_wp2_with fail
      go_returns
      exact ⟨rfl, HE.out.trans' HE14.out⟩
end Go.Proofs.Ytjimmbcihcmfoaa
