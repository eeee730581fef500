/- TablePlays: what its code does. -/
import Derived.Test.YtjimmbcihcmfoaaDoes
import Derived.Deep.CutBlock
namespace Go.Proofs.Ytjimmbcihcmfoaa
open Go.RowKit
set_option linter.unusedVariables false
set_option linter.unusedSimpArgs false

theorem str_ne9 (z : ByteArray) : (z != z) = false := by
  have : (z == z) = true := beq_self_eq_true z
  simp only [bne, this, Bool.not_true]
/-- Both are made, and lie apart. -/
theorem both_new {W w4 w5 w6 : World} {b r t1 rb t2 base2 : Nat} {S1 : Tabs} {S2 : RTabs} (hE : Ext W w4) (hf : ∀ k ∈ foot b r ([] : List Rec), W.heap.size ≤ k) (hrb : rb < w4.heap.size ∧ W.heap.size ≤ rb ∧ rb ∉ foot b r ([] : List Rec))
    (h1 : TabAt w5 base2 t1 S1) (hb : S1.b = b) (hf1 : ∀ j ∈ tfoot t1 S1, j ∈ foot b r ([] : List Rec) ∨ w4.heap.size ≤ j) (hk : Keep (rfoot rb (.slice none 0 0) ([] : List RR)) w5 w6)
    (h2 : RTabAt w6 base2 t2 S2) (hrb2 : S2.rb = rb) (hf2 : ∀ j ∈ rtfoot t2 S2, j ∈ rfoot rb (.slice none 0 0) ([] : List RR) ∨ w5.heap.size ≤ j) (h45 : w4.heap.size ≤ w5.heap.size) :
    ∃ F, TwoR F w6 w6 b t1 rb t2 (tview S1) (rview S2) ∧ ∀ j ∈ F, j < w6.heap.size ∧ W.heap.size ≤ j := by
  have hs := hE.size
  have e0 : ∀ j, j ∈ rfoot rb (.slice none 0 0) ([] : List RR) ↔ j = rb := fun j => by simp [rfoot, Value.ownBlock]
  have hn1 : ∀ j ∈ tfoot t1 S1, j ≠ rb := fun j hj e => by
    subst e
    rcases hf1 j hj with h | h
    · exact hrb.2.2 h
    · omega
  have h1' := h1.keep hk (fun j hj hj' => hn1 j hj ((e0 j).1 hj'))
  refine ⟨tfoot t1 S1 ++ rtfoot t2 S2, ⟨Keep.rfl' _ _, base2, S1, base2, S2, h1', rfl, hb, h2, rfl, hrb2, fun j hj => .inl (List.mem_append_left _ hj), fun j hj => .inl (List.mem_append_right _ hj), fun j hj hj2 => ?_⟩, fun j hj => ?_⟩
  · rcases hf2 j hj2 with h | h
    · exact hn1 j hj ((e0 j).1 h)
    · have := h1.lt j hj; omega
  · rcases List.mem_append.1 hj with hj | hj
    · refine ⟨h1'.lt j hj, ?_⟩
      rcases hf1 j hj with h | h
      · exact hf j h
      · omega
    · refine ⟨(h2.lt j hj).2, ?_⟩
      rcases hf2 j hj with h | h
      · rw [(e0 j).1 h]; exact hrb.2.1
      · omega
set_option maxRecDepth 20000 in
set_option maxHeartbeats 8000000 in
theorem tplays_any (dv lv : Value) (ds : List TDef) (L : List Act9) (w : World) (hd : Rd w 4 TDef.enc dv ds) (hL : Rd w 5 Act9.enc lv L) (hok : ∀ x ∈ L, ActOk w x) :
    Calls Try.prog 3 #[dv, lv] w (LawAns w) := by
  have HL := Lib.hid hL
  have HOK := Lib.hid hok
  have HD := Lib.hid hd
  obtain ⟨da, dn, dc, rfl, hdn, hDN⟩ := hd.val
  clear hL hok hd
  go_enter Try.func3, Try.ntmps3
  go_wp2_with fail
  refine (tab_shown w).mono ?_
  rintro e w1 ⟨rfl, he1⟩
  go_wp2_with fail
  refine (mem_new w1).mono ?_
  rintro e w3 ⟨b, r, rfl, hm, hb, hr, he3⟩
  have HM := Lib.hid hm
  have HE3 := Lib.hid (he1.trans' he3)
  clear hm he3
  obtain ⟨xn, hmin, hxd⟩ : ∃ xn : Nat, min (dn : Int) 10 = (xn : Int) ∧ xn ≤ dn ∧ xn ≤ 10 := ⟨min dn 10, by omega, by omega⟩
  have hxd1 := hxd.1
  have ct := fun W => HD.out.run_cut_h (P := Try.prog) el_def.under el_def.size .i64 (xn : Int) (by omega) (by omega) W
  have rc := HD.out.cut (l := 0) (m := xn) (Nat.zero_le _) (by have := hDN.out; omega)
  simp only [Int.toNat_natCast] at ct
  obtain ⟨xa, xn2, xc, hcv, hxn2, hXN⟩ := rc.val
  rw [hcv] at ct rc
  obtain ⟨xs, hxs⟩ : ∃ xs, (ds.drop 0).take (xn - 0) = xs := ⟨_, rfl⟩
  rw [hxs] at rc hXN
  have HX := Lib.hid rc
  have hxl : xn2 = xn := by have h2 := hDN.out; have h1 := hXN.out; rw [← hxs] at h1; simp at h1; omega
  have HMIN := Lib.hid hmin
  have HX10 : Hid (xn2 ≤ 10) := Lib.hid (by omega)
  clear hcv rc hxs hxl hxd
  go_wp2_with fail
  have hbox : (w3.alloc (.cells #[.slice none 0 0] 30)).heap[w3.heap.size]? = some (.cells #[.slice none 0 0] 30 (0, 0)) := obj_top _ _ rfl
  have hE4 : Ext w (w3.alloc (.cells #[.slice none 0 0] 30)) := HE3.out.alloc' _
  have HM4 := Lib.hid (HM.out.ext ((Ext.rfl' w3).alloc' (.cells #[.slice none 0 0] 30)))
  have hrb : w3.heap.size < (w3.alloc (.cells #[.slice none 0 0] 30)).heap.size ∧ w.heap.size ≤ w3.heap.size ∧ w3.heap.size ∉ foot b r ([] : List Rec) := ⟨by simp, HE3.out.size, fun hj => by have := HM.out.lt _ hj; omega⟩
  have hft : ∀ k ∈ foot b r ([] : List Rec), w.heap.size ≤ k := fun k hk => by
    have := he1.size
    simp only [foot, List.flatMap_nil, List.mem_cons, List.not_mem_nil, or_false] at hk
    rcases hk with rfl | rfl <;> omega
  have HBOX := Lib.hid hbox
  have HE4 := Lib.hid hE4
  have HRB := Lib.hid hrb
  have HFT := Lib.hid hft
  have hbase : w.heap.size ≤ (w3.alloc (.cells #[.slice none 0 0] 30)).heap.size := hE4.size
  clear hbox hE4 hrb hft hb hr
  generalize w3.alloc (.cells #[.slice none 0 0] 30) = w4 at *
  generalize w3.heap.size = rb at *
  refine (tab_new w.heap.size b r [] _ xs w4 HM4.out hbase (Lib.hid fun u k => keep_old HX.out HE4.out k HFT.out)).mono ?_
  rintro e w5 ⟨hk5, h5⟩
  have HK5 := Lib.hid hk5
  have hb5 := hk5.obj HBOX.out HRB.out.2.2
  have hE5 : Ext w w5 := hk5.below HE4.out HE4.out.size HFT.out
  have hR5 : RefAt w5 w.heap.size rb (.slice none 0 0) [] := ⟨hb5, HRB.out.2.1, Own.nil _ _ _ _ _, fun x hx => by simp at hx, fun x hx => by simp at hx, by simp [Value.ownBlock], fun x hx => by simp at hx, by simp⟩
  have HR5 := Lib.hid hR5
  have HE5 := Lib.hid hE5
  have hrbf : ∀ j ∈ rfoot rb (.slice none 0 0) ([] : List RR), w.heap.size ≤ j := fun j hj => by simp [rfoot, Value.ownBlock] at hj; subst hj; exact HRB.out.2.1
  have HRBF := Lib.hid hrbf
  clear hk5 hb5 hE5 hR5 hrbf
  rcases h5 with ⟨hn, rfl⟩ | ⟨t1, S1, hs1, rfl, hT1, hSb1, hf1⟩
  · obtain ⟨hright, hrn⟩ := new_none hn
    have HRI := Lib.hid hright
    have HRN := Lib.hid hrn
    clear hn hright hrn
    go_wp2_with fail
    refine (rtab_new w.heap.size rb (.slice none 0 0) [] _ xs w5 HR5.out HE5.out.size (Lib.hid fun u k => keep_old HX.out HE5.out k HRBF.out)).mono ?_
    rintro e w6 ⟨hk6, h6⟩
    have hE6 : Ext w w6 := hk6.below HE5.out HE5.out.size HRBF.out
    rcases h6 with ⟨-, rfl⟩ | ⟨t2, S2, hs2, -, -⟩
    · have HE6 := Lib.hid hE6
      clear hk6 hE6
      go_wp2_with fail
      refine (tab_right _ xs _ (HX.out.ext HE6.out)).mono ?_
      rintro e w7 ⟨rfl, he7⟩
      have HE7 := Lib.hid (HE6.out.trans' he7)
      clear he7
      go_wp2_with fail
      refine (rtab_right _ xs _ (HX.out.ext HE7.out)).mono ?_
      rintro e w8 ⟨rfl, he8⟩
      have HE8 := Lib.hid (HE7.out.trans' he8)
      rw [HRI.out]
      clear he8
      go_wp2_with fail
      go_returns
      exact ⟨rfl, HE8.out⟩
    · rw [show viewR ([] : List RR) = [] from rfl, HRN.out] at hs2; cases hs2
  · have hr0 : rightL xs = true := by
      have h := hs1
      unfold tnew at h
      split at h
      · assumption
      · cases h
    obtain ⟨hrn, hrel⟩ := new_rel hs1
    have HREL := Lib.hid hrel
    have HRN := Lib.hid hrn
    have HRI := Lib.hid hr0
    have hx8 : xn2 ≤ 8 := by
      have h1 := hXN.out
      simp only [rightL, Bool.and_eq_true, decide_eq_true_eq] at hr0
      omega
    have HT1 := Lib.hid hT1
    have HF1 := Lib.hid hf1
    have HSB1 := Lib.hid hSb1
    clear hr0 hrel hrn hT1 hf1 hs1 hSb1
    go_wp2_with fail
    refine (rtab_new w.heap.size rb (.slice none 0 0) [] _ xs w5 HR5.out HE5.out.size (Lib.hid fun u k => keep_old HX.out HE5.out k HRBF.out)).mono ?_
    rintro e w6 ⟨hk6, h6⟩
    have hE6 : Ext w w6 := hk6.below HE5.out HE5.out.size HRBF.out
    have HE6 := Lib.hid hE6
    rcases h6 with ⟨hs2, -⟩ | ⟨t2, S2, hs2, rfl, hT2, hSb2, hf2⟩
    · rw [show viewR ([] : List RR) = [] from rfl, HRN.out] at hs2; cases hs2
    rw [show viewR ([] : List RR) = [] from rfl, HRN.out] at hs2
    injection hs2 with hs2
    obtain ⟨F, hTW, hF⟩ := both_new HE4.out HFT.out ⟨HRB.out.1, HRB.out.2.1, HRB.out.2.2⟩ HT1.out HSB1.out HF1.out hk6 hT2 hSb2 hf2 HK5.out.size
    rw [← hs2] at hTW
    have HTW := Lib.hid hTW
    have HF := Lib.hid hF
    clear hk6 hE6 hT2 hSb2 hf2 hTW hF hs2
    go_wp2_with fail
    refine (tab_right _ xs _ (HX.out.ext HE6.out)).mono ?_
    rintro e w7 ⟨rfl, he7⟩
    have HE67 := Lib.hid he7
    have HE7 := Lib.hid (HE6.out.trans' he7)
    clear he7
    go_wp2_with fail
    refine (rtab_right _ xs _ (HX.out.ext HE7.out)).mono ?_
    rintro e w8 ⟨rfl, he8⟩
    have HE68 := Lib.hid (HE67.out.trans' he8)
    have HE8 := Lib.hid (HE7.out.trans' he8)
    rw [HRI.out]
    clear he8
    go_wp2_with fail
    refine (few_any _ L w8 (HL.out.ext HE8.out)).mono ?_
    rintro e w9 ⟨fv, L', rfl, hown, hmem, he9⟩
    obtain ⟨F0, hT0, hF0⟩ := HTW.out.fix (HE68.out.trans' he9)
    have hkeepL : Hid (∀ w', Keep F0 w9 w' → Rd w' 5 Act9.enc fv L') := Lib.hid fun w' k => (hown.keep k (fun j hj hjF => by have h1 := (hown.lt hj).1; have h2 := (hF0 j hjF).1; have h3 := HE68.out.size; omega)).rd enc_act
    obtain ⟨fa, fn, fc, rfl, hfn, HFN⟩ := (hown.rd enc_act).val
    have HMEM := Lib.hid hmem
    have HAL := Lib.hid (show Alike F0 w9 w9 b t1 rb t2 from ⟨_, _, hT0, HREL.out⟩)
    have HF0 : Hid (∀ j ∈ F0, w.heap.size ≤ j) := Lib.hid fun j hj => by
      have h2 := hF0 j hj
      rcases h2.2 with h | h
      · exact (HF.out j h).2
      · exact Nat.le_trans HE6.out.size h
    have HW9 := Lib.hid (HE8.out.trans' he9)
    clear hT0 hF0 hmem hown he9
    go_wp2_with fail
    go_loopw [64] (fun i wr => ∃ (j : Nat), j ≤ fn ∧ i = .int .i64 j ∧ Hid (Alike F0 w9 wr b t1 rb t2)) (fun i _ => fn - (intOf i).toNat)
    case atStart => exact ⟨0, Nat.zero_le _, rfl, HAL⟩
    case round =>
      obtain ⟨j, hj, rfl, HA⟩ := hrel
      obtain ⟨V, V', hT, hr⟩ := HA.out
      have HTV := Lib.hid hT
      have HRV := Lib.hid hr
      clear hT hr
      by_cases hlt : (j : Int) < fn
      · obtain ⟨x, hx⟩ := at_of_lt (xs := L') (k := j) (by have := HFN.out; omega)
        have hR := hkeepL.out _ HTV.out.keep
        have ix := fun W => hR.run_at (P := Try.prog) el_act.under el_act.size .i64 (j : Int) (by omega) (by omega) W
        simp only [Int.toNat_natCast] at ix
        obtain ⟨c0, c1, c2, c3, c4⟩ := act_cells hR hx
        rw [Act9.kv] at c2
        rw [Act9.vv] at c3
        obtain ⟨hxm, -, -⟩ := HMEM.out x (List.mem_of_getElem? hx)
        obtain ⟨hk0, hfl, ⟨ks, hks, hku⟩, ⟨vs, hvs, hvu⟩⟩ := HOK.out x hxm
        have HFl : Hid (x.flags ≤ 18446744073709551615) := Lib.hid hfl.2
        have hfl0 := hfl.1
        have HST : Hid (Holds F0 w9 fun w' => Sl w' .u8 x.vv vs) := Lib.hid (Holds.old hvs HW9.out HF0.out)
        have HKS : Hid (Holds F0 w9 fun w' => Sl w' .u8 x.kv ks) := Lib.hid (Holds.old hks HW9.out HF0.out)
        have HHU := Lib.hid hvu
        clear hR hxm hks hvs hx hfl hvu hku
        go_wp2_with fail
        refine (does_any (HTV.out.go ((Ext.rfl' _).alloc' _)) HRV.out x ks vs hk0 hfl0 HFl HHU.out HST HKS).mono ?_
        rintro e w10 ⟨rfl, h10⟩
        have H10 := Lib.hid h10
        clear h10
        go_wp2_with fail
        go_roundw
        case rel => exact ⟨j + 1, by omega, by go_num, H10⟩
        case measure => simp [intOf]; omega
      · go_wp2_with fail
        go_loopw [15] (fun i wq => ∃ (q : Nat), q ≤ xn2 + 2 ∧ i = .int .i64 ((q : Int) - 1) ∧ Hid (Ext wr wq)) (fun i _ => xn2 + 2 - ((intOf i) + 1).toNat)
        case atStart => exact ⟨0, by omega, by simp, Lib.hid (Ext.rfl' _)⟩
        case round =>
          obtain ⟨q, hq, rfl, HEQ⟩ := hrel
          by_cases hle : (q : Int) - 1 ≤ xn2
          · have HTQ := Lib.hid (HTV.out.go HEQ.out)
            go_wp2_with fail
            refine (twor_items HTQ.out ((q : Int) - 1) (Lib.hid HRV.out.small.1)).mono ?_
            rintro e w11 ⟨v11, rfl, h11, he11⟩
            have H11 := Lib.hid h11
            have HE11 := Lib.hid he11
            clear h11 he11
            go_wp2_with fail
            refine (twor_ritems (HTQ.out.go HE11.out) ((q : Int) - 1) (Lib.hid HRV.out.small.2)).mono ?_
            rintro e w12 ⟨v12, rfl, h12, he12⟩
            rw [items_rel HRV.out] at h12
            have H12 := Lib.hid h12
            have H112 := Lib.hid (H11.out.ext he12)
            have HE12 := Lib.hid (HE11.out.trans' he12)
            clear h12 he12
            go_wp2_with fail
            refine (same_true _ _ _ w12 H112.out H12.out).mono ?_
            rintro e w13 ⟨rfl, he13⟩
            have HE13 := Lib.hid (HE12.out.trans' he13)
            clear he13
            obtain ⟨mx, hmx, hmx8⟩ : ∃ mx : Nat, max ((q : Int) - 1) 0 = (mx : Int) ∧ mx ≤ 8 := ⟨(max ((q : Int) - 1) 0).toNat, by omega, by omega⟩
            go_wp2_with fail
            refine (tab_area mx 0 _ (by omega) (by omega) (by decide) (by decide)).mono ?_
            rintro e w14 ⟨rfl, rfl⟩
            go_wp2_with fail
            refine (twor_area (HTQ.out.go HE13.out) (tarea mx 0)).mono ?_
            rintro e w15 ⟨v15, rfl, h15, he15⟩
            obtain ⟨qa, qn, qc, rfl, hqn, hQN⟩ := h15.val
            have H15 := Lib.hid h15
            have HE15 := Lib.hid (HE13.out.trans' he15)
            clear h15 he15
            go_wp2_with fail
            refine (rtab_area mx 0 _ (by omega) (by omega) (by decide) (by decide)).mono ?_
            rintro e w16 ⟨rfl, rfl⟩
            go_wp2_with fail
            refine (twor_rarea (HTQ.out.go HE15.out) (tarea mx 0)).mono ?_
            rintro e w17 ⟨v17, rfl, h17, he17⟩
            rw [HRV.out.mem] at h17 ⊢
            obtain ⟨ra, rn, rc, rfl, hrn, hRN⟩ := h17.val
            have s1 := (H15.out.ext he17).run_str (P := Try.prog) Try.underlying40 Try.underlying5 Try.underlying9
            have s2 := h17.run_str (P := Try.prog) Try.underlying40 Try.underlying5 Try.underlying9
            have hne : ∀ z : List Int, (strOfNums z != strOfNums z) = false := fun z => str_ne9 _
            have hbn : ∀ z : Bool, (z != z) = false := fun z => by cases z <;> rfl
            have HE17 := Lib.hid (HE15.out.trans' he17)
            clear h17 he17
            go_wp2_with fail
            go_roundw
            case rel => exact ⟨q + 1, by omega, by go_num, Lib.hid (HEQ.out.trans' HE17.out)⟩
            case measure => simp [intOf]; omega
          · have HE := Lib.hid (HTV.out.ext HW9.out HF0.out)
            go_wp2_with fail
            go_returns
            exact ⟨rfl, HE.out.trans' HEQ.out⟩
end Go.Proofs.Ytjimmbcihcmfoaa
