/- The document's maps: New. -/
import Derived.Test.YtjimmbcihcmfoaaRTH
import Derived.Test.YtjimmbcihcmfoaaRTE
namespace Go.Proofs.Ytjimmbcihcmfoaa
open Go.RowKit
set_option linter.unusedVariables false
set_option linter.unusedSimpArgs false

def RNewT (base b : Nat) (lv : Value) (L : List RR) (ds : List TDef) (w : World) (e : Ending) (w' : World) : Prop :=
  Keep (rfoot b lv L) w w' ∧ ((rnew (viewR L) ds = none ∧ e = .returned (.tuple #[.pointer none, .int .i64 1])) ∨
    ∃ tb S, rnew (viewR L) ds = some (rview S) ∧ e = .returned (.tuple #[.pointer (some ⟨tb, 0, none⟩), .int .i64 0]) ∧ RTabAt w' base tb S ∧ S.rb = b ∧ ∀ j ∈ rtfoot tb S, j ∈ rfoot b lv L ∨ w.heap.size ≤ j)
/-- A map's box. -/
abbrev rmObj (d : TDef) (v : Value) (k : Nat) : Obj := .cells #[.bool d.hash, .int .i64 d.key, .int .i64 d.val, .int .i64 d.max, v, .int .i64 (k : Nat)] 87 (0, 0)
theorem rm_lit (w : World) (x : RM) (q : Nat) (hq : q = w.heap.size) : Rd (w.alloc (.cells (([x] : List RM).flatMap RM.enc).toArray 87)) 6 RM.enc (.slice (some ⟨q, 0, none⟩) 1 1) [x] :=
  (Own.lit enc_rm (base := 0) (w := w) (e := 87) [x] hq rfl (Nat.zero_le _) (by simp [maxLen])).rd enc_rm
theorem tb_not {w : World} {base tb : Nat} {S : RTabs} {a : Option Addr} {n c : Nat} (h : RTabAt w base tb S) (hm : S.mv = .slice a n c) : tb ∉ (Value.slice a n c).ownBlock.toList := by
  rw [← hm]
  exact fun hj => (List.nodup_cons.1 h.apart).1 (List.mem_append_left _ hj)
theorem tb_obj {w wr w5 : World} {base tb : Nat} {S : RTabs} {v : Value} (h : RTabAt w base tb S) (hm : S.mv = v) (hg : wr.grownBy w5 v.ownBlock) (he : Ext w wr) : w5.heap[tb]? = some (.cells #[.pointer (some ⟨S.rb, 0, none⟩), v] 84 (0, 0)) := by
  subst hm
  exact (grown_keep hg).obj (he.obj h.head) (fun hj => (List.nodup_cons.1 h.apart).1 (List.mem_append_left _ hj))
theorem RTabAt.push2 {w wr w5 : World} {base tb : Nat} {S : RTabs} {lv v : Value} {x : RM} (h : RTabAt w base tb S) (hm : S.mv = v) (hg : wr.grownBy w5 v.ownBlock) (hmv : Moved wr v lv) (he : Ext w wr) (hx : Own w base 90 2 encKS x.lv x.T.slots) (hxf : ∀ j, x.lv.ownBlock = some j → j ∉ rtfoot tb S)
    (hmade : x.T.made ≤ 1024 ∧ ∀ p ∈ x.T.slots, p.2 ≤ 1024) (hl : Own w5 base 87 6 RM.enc lv (S.R ++ [x])) (hfew : S.R.length < 8) :
    RTabAt (w5.setCell ⟨tb, 1, none⟩ lv) base tb { S with mv := lv, R := S.R ++ [x] } ∧ Keep (rtfoot tb S) w (w5.setCell ⟨tb, 1, none⟩ lv) ∧ ∀ j ∈ rtfoot tb { S with mv := lv, R := S.R ++ [x] }, j ∈ rtfoot tb S ∨ x.lv.ownBlock = some j ∨ w.heap.size ≤ j := by
  subst hm
  exact h.push he hx hxf hmade (grown_keep hg) hmv hl hfew
set_option maxRecDepth 20000 in
set_option maxHeartbeats 8000000 in
theorem rtab_new (base b : Nat) (lv : Value) (L : List RR) (dv : Value) (ds : List TDef) (w : World) (hm : RefAt w base b lv L) (hbase : base ≤ w.heap.size) (HD : Hid (∀ w', Keep (rfoot b lv L) w w' → Rd w' 4 TDef.enc dv ds)) :
    Calls Try.prog 11 #[.pointer (some ⟨b, 0, none⟩), dv] w (RNewT base b lv L ds w) := by
  have hd := HD.out w (Keep.rfl' _ _)
  obtain ⟨da, dn, dc, rfl, hdn, hDN⟩ := hd.val
  have HMM := Lib.hid hm
  have HDD := Lib.hid hd
  clear hm hd
  go_enter Try.func11, Try.ntmps11
  go_wp2_with fail
  refine (rtab_right _ ds _ HDD.out).mono ?_
  rintro e w1 ⟨rfl, he1⟩
  cases hr : rightL ds with
  | false =>
    have HR := Lib.hid hr
    clear hr
    simp only
    go_wp2_with fail
    go_returns
    exact ⟨Keep.of_ext he1, .inl ⟨by simp only [rnew, HR.out]; rfl, rfl⟩⟩
  | true =>
    have HR := Lib.hid hr
    have hn8 : dn ≤ 8 := by
      have := hDN.out
      simp only [rightL, Bool.and_eq_true, decide_eq_true_eq] at hr
      omega
    have HMAY : Hid (∀ d ∈ ds, mayD d = true) := Lib.hid (by
      simp only [rightL, Bool.and_eq_true, List.all_eq_true] at hr
      exact hr.2)
    clear hr
    go_wp2_with fail
    have hT0 : RTabAt (w1.alloc (.cells #[.pointer (some ⟨b, 0, none⟩), .slice none 0 0] 84)) base w1.heap.size ⟨b, lv, L, .slice none 0 0, []⟩ := by
      have hs := he1.size
      refine ⟨obj_top _ _ rfl, by omega, Own.nil _ _ _ _ _, fun x hx => by simp at hx, (HMM.out.ext he1).ext ((Ext.rfl' w1).alloc' _), ?_, by simp, fun x hx => by simp at hx⟩
      simp only [rtfoot, Value.ownBlock, Option.toList_none, List.nil_append, List.flatMap_nil]
      rw [List.nodup_cons]
      exact ⟨fun hj => by have := (HMM.out.lt _ hj).2; omega, HMM.out.apart⟩
    have HT0 := Lib.hid hT0
    have hwt : Ext w (w1.alloc (.cells #[.pointer (some ⟨b, 0, none⟩), .slice none 0 0] 84)) := he1.alloc' _
    have hs1 := he1.size
    obtain ⟨tb, htb⟩ : ∃ tb, w1.heap.size = tb := ⟨_, rfl⟩
    rw [htb] at HT0 ⊢
    have htw : w.heap.size ≤ tb := by omega
    clear hT0 he1 hs1
    go_loopw [7] (fun i wr => ∃ (j : Nat) (S : RTabs), j ≤ dn ∧ i = .int .i64 j ∧ S.rb = b ∧ RTabAt wr base tb S ∧ rnews (viewR L) ds j = some (rview S) ∧ S.R.length = j ∧ Keep (rfoot b lv L) w wr ∧ (∀ q ∈ rtfoot tb S, q ∈ rfoot b lv L ∨ w.heap.size ≤ q)) (fun i _ => dn - (intOf i).toNat)
    case atStart =>
      refine ⟨0, _, Nat.zero_le _, rfl, rfl, HT0.out, rfl, rfl, Keep.of_ext hwt, fun q hq => ?_⟩
      simp only [rtfoot, Value.ownBlock, Option.toList_none, List.nil_append, List.flatMap_nil, List.mem_cons] at hq
      rcases hq with rfl | hq
      · exact .inr htw
      · exact .inl hq
    case round =>
      obtain ⟨j, S, hj, rfl, hSb, hT, hnews, hlen, hK, hfr⟩ := hrel
      have HT := Lib.hid hT
      have HNEWS := Lib.hid hnews
      have HLEN := Lib.hid hlen
      have HKK := Lib.hid hK
      have HFR := Lib.hid hfr
      have HSB := Lib.hid hSb
      clear hT hnews hlen hfr HT0 hSb
      by_cases hlt : (j : Int) < dn
      case neg =>
        have hjn : j = ds.length := by have := hDN.out; omega
        have HJ := Lib.hid hjn
        clear hjn hK
        go_wp2_with fail
        go_returns
        refine ⟨HKK.out, .inr ⟨tb, S, ?_, rfl, HT.out, HSB.out, HFR.out⟩⟩
        simp only [rnew, HR.out, if_true]
        rw [← HJ.out]; exact HNEWS.out
      case pos =>
        obtain ⟨d, hd⟩ := at_of_lt (xs := ds) (k := j) (by have := hDN.out; omega)
        have ix := fun W => HDD.out.run_at (P := Try.prog) el_def.under el_def.size .i64 (j : Int) (by omega) (by omega) W
        simp only [Int.toNat_natCast] at ix
        obtain ⟨c0, c1, c2, c3⟩ := def_cells (HD.out wr hK) hd
        have HDJ := Lib.hid hd
        have hN1 : rnews (viewR L) ds (j + 1) = rnew1 (rview S) d := by rw [rnews, HNEWS.out, hd]; rfl
        have HN1 := Lib.hid hN1
        have hmay := (may_iff d).1 (HMAY.out d (List.mem_of_getElem? hd))
        have hm16 := hmay.2.2.2.2.2
        have hm1 := hmay.2.2.2.2.1
        have hv0 := hmay.2.1
        have hv1 := hmay.2.2.1
        have HDC : Hid (∀ u, Keep (rfoot b lv L) w u → u.cell? (elt (.slice da dn dc) (j * 4)) = some (.bool d.hash) ∧ u.cell? ⟨(elt (.slice da dn dc) (j * 4)).block, (elt (.slice da dn dc) (j * 4)).off + 2, none⟩ = some (.int .i64 d.val) ∧ u.cell? ⟨(elt (.slice da dn dc) (j * 4)).block, (elt (.slice da dn dc) (j * 4)).off + 3, none⟩ = some (.int .i64 d.max)) := Lib.hid fun u k => by
          obtain ⟨e0, e1, e2, e3⟩ := def_cells (HD.out u k) HDJ.out
          exact ⟨e0, e2, e3⟩
        have hbox : (wr.alloc (.cells #[.bool d.hash, .int .i64 d.key, .int .i64 d.val, .int .i64 d.max, .slice none 0 0, .int .i64 0] 87)).heap[wr.heap.size]? = some (rmObj d (.slice none 0 0) 0) := obj_top _ _ rfl
        have hE1 : Ext wr (wr.alloc (.cells #[.bool d.hash, .int .i64 d.key, .int .i64 d.val, .int .i64 d.max, .slice none 0 0, .int .i64 0] 87)) := (Ext.rfl' wr).alloc' _
        have HXB : Hid (∀ q ∈ rtfoot tb S, q < wr.heap.size) := Lib.hid fun q hq => (HT.out.lt q hq).2
        have hxw : w.heap.size ≤ wr.heap.size := HKK.out.size
        have HBOX := Lib.hid hbox
        have HT1 := Lib.hid (HT.out.ext hE1)
        have HK1 := Lib.hid (HKK.out.trans (Keep.of_ext hE1))
        clear hd hN1 hmay hK hbox
        go_wp2_with fail
        generalize wr.alloc (.cells #[.bool d.hash, .int .i64 d.key, .int .i64 d.val, .int .i64 d.max, .slice none 0 0, .int .i64 0] 87) = w2 at *
        generalize hZZ : wr.heap.size = Z at *
        clear c0 c1 c2 c3
        obtain ⟨K, hKd⟩ : ∃ K : Nat, (if d.hash then 0 else d.max.toNat) = K := ⟨_, rfl⟩
        have HKD := Lib.hid hKd
        have hZ2 : Z < w2.heap.size := heap_lt HBOX.out
        obtain ⟨vn, hvn⟩ : ∃ vn : Nat, (vn : Int) = d.val := ⟨d.val.toNat, by omega⟩
        have hv64 : vn ≤ 64 := by omega
        have hms : ∀ u : World, (Instr.makeSlice 40 (.int .i64 d.val) (.int .i64 d.val)).run Try.prog u = .ok (.slice (some ⟨u.heap.size, 0, none⟩) vn vn) (u.alloc (.cells (madeCells #[.int .u8 0] vn) 5)) := fun u => by rw [← hvn]; exact run_make_u8 vn (by omega) u
        have HVT : Hid (d.val.toNat = vn) := Lib.hid (by omega)
        have HD1 : Hid (d.max.toNat = d.max) := Lib.hid (by omega)
        have hfew : j < 8 := by omega
        clear hKd hvn
        go_loopw [9] (fun q wq => ∃ (k : Nat) (lv2 : Value) (L2 : List RR) (xl : Value), q = .int .i64 k ∧ k ≤ K ∧ Hid (RTabAt wq base tb { S with lv := lv2, L := L2 }) ∧ Hid (rfill (viewR S.L) j vn k = some (viewR L2)) ∧ Hid (Own wq base 90 2 encKS xl (nums k)) ∧ Hid (wq.heap[Z]? = some (rmObj d xl k)) ∧
          Hid (∀ q, xl.ownBlock = some q → w.heap.size ≤ q ∧ q ≠ Z ∧ q ∉ rtfoot tb { S with lv := lv2, L := L2 }) ∧ Hid (Keep (rfoot b lv L) w wq) ∧ Hid (∀ q ∈ rtfoot tb { S with lv := lv2, L := L2 }, (q ∈ rfoot b lv L ∨ w.heap.size ≤ q) ∧ q ≠ Z)) (fun q _ => K - (intOf q).toNat)
        case atStart =>
          exact ⟨0, S.lv, S.L, .slice none 0 0, rfl, Nat.zero_le _, HT1, Lib.hid rfl, Lib.hid (by simp only [nums, List.range_zero, List.map_nil]; exact Own.nil _ _ _ _ _), HBOX, Lib.hid (fun q hq => by simp [Value.ownBlock] at hq), HK1, Lib.hid (fun q hq => ⟨HFR.out q hq, fun e => by have := HXB.out q hq; omega⟩)⟩
        case round =>
          obtain ⟨k, lv2, L2, xl, rfl, hk, HT2, HF2, HO2, HB2, HX2, HK2, HFR2⟩ := hrel
          obtain ⟨e0, e2, e3⟩ := HDC.out wr HK2.out
          have hmk16 : (K : Int) ≤ 16 := by have h1 := HKD.out; have h2 := HD1.out; split at h1 <;> omega
          by_cases hkK : k < K
          case pos =>
            have hh : d.hash = false := by have h1 := HKD.out; cases hd : d.hash with | false => rfl | true => (rw [hd] at h1; simp at h1; omega)
            have hkm : (k : Int) < d.max := by have h1 := HKD.out; have h2 := HD1.out; simp only [hh, Bool.false_eq_true, if_false] at h1; omega
            have HH := Lib.hid hh
            rw [hh] at e0
            clear hh
            have hb2 : S.rb = b := HSB.out
            go_wp2_with fail
            have HSX : Hid (∀ u, Ext wr u → u.cell? ⟨(elt (.slice da dn dc) (j * 4)).block, (elt (.slice da dn dc) (j * 4)).off + 2, none⟩ = some (.int .i64 d.val)) := Lib.hid fun u k => (HDC.out u (HK2.out.trans (Keep.of_ext k))).2.1
            have HBB : Hid (base ≤ wr.heap.size) := Lib.hid (by have := HK2.out.size; omega)
            go_region_held3 (fun w' => w'.cell? ⟨(elt (.slice da dn dc) (j * 4)).block, (elt (.slice da dn dc) (j * 4)).off + 2, none⟩ = some (.int .i64 d.val))
              (first | exact s5 | (refine HSX.out _ ?_; (repeat (first | exact Ext.rfl' _ | assumption | refine Ext.drewN' ?_ _ | refine Ext.drew' ?_ | refine Ext.alloc' ?_ _ | refine Ext.trans' ?_ (by assumption)))))
              ((first
                | (go_at_call 22; refine (rtab_area j k _ (by omega) (by omega) (by omega) (by omega)).mono ?_; rintro e w4 ⟨rfl, rfl⟩)
                | (go_at_call 32; (try rw [← HSB.out]); refine (ref_make base S.rb lv2 L2 (tarea j k) _ (List.replicate vn 0) false false _ (HT2.out.mem.ext (by (repeat (first | exact Ext.rfl' _ | assumption | refine Ext.drewN' ?_ _ | refine Ext.drew' ?_ | refine Ext.alloc' ?_ _ | refine Ext.trans' ?_ (by assumption))))) (Nat.le_trans HBB.out (show Ext wr _ by (repeat (first | exact Ext.rfl' _ | assumption | refine Ext.drewN' ?_ _ | refine Ext.drew' ?_ | refine Ext.alloc' ?_ _ | refine Ext.trans' ?_ (by assumption)))).size) (by first | exact sl_made _ vn (by omega) | exact (sl_made wr.drew vn (by omega)).ext (by (repeat (first | exact Ext.rfl' _ | assumption | refine Ext.drewN' ?_ _ | refine Ext.drew' ?_ | refine Ext.alloc' ?_ _ | refine Ext.trans' ?_ (by assumption))))) (rep_u8 vn)).mono ?_; rintro e w5 ⟨rfl, hk5, lv5, L5, hm5, hv5, hf5⟩; have hk5' : Keep (rfoot S.rb lv2 L2) wr w5 := (Keep.of_ext (show Ext wr _ by (repeat (first | exact Ext.rfl' _ | assumption | refine Ext.drewN' ?_ _ | refine Ext.drew' ?_ | refine Ext.alloc' ?_ _ | refine Ext.trans' ?_ (by assumption))))).trans hk5; have hk6 : Keep (rfoot b lv L) w w5 := HK2.out.through hk5' (fun q hq => (HFR2.out q (rfoot_sub tb { S with lv := lv2, L := L2 } q hq)).1); have hst := HT2.out.memStep hk5' hm5 (fun q hq => (hf5 q hq).imp id (fun h => Nat.le_trans (show Ext wr _ by (repeat (first | exact Ext.rfl' _ | assumption | refine Ext.drewN' ?_ _ | refine Ext.drew' ?_ | refine Ext.alloc' ?_ _ | refine Ext.trans' ?_ (by assumption)))).size h)); have s5 := (HDC.out w5 hk6).2.1; have HK5 := Lib.hid hk5'; have HK6 := Lib.hid hk6; have HT5 := Lib.hid hst.1; have HF5 := Lib.hid hst.2; have HV5 := Lib.hid hv5; clear hk5 hm5 hv5 hf5 hk5' hst hk6)))
            all_goals
              have hrs : rfill (viewR S.L) j vn (k + 1) = if (mmake (viewR L2) (tarea j k) (List.replicate vn 0) false false).2 = 0 then some (mmake (viewR L2) (tarea j k) (List.replicate vn 0) false false).1 else none := by rw [rfill, HF2.out]; rfl
              have HRS := Lib.hid hrs
              clear hrs s5 e0 e2 e3
              by_cases hmk : (mmake (viewR L2) (tarea j k) (List.replicate vn 0) false false).2 = 0
              case neg =>
                have HMK := Lib.hid hmk
                have d6 : ((mmake (viewR L2) (tarea j k) (List.replicate vn 0) false false).2 != 0) = true := by simpa using hmk
                clear hmk
                go_wp2_with fail
                go_returns
                refine ⟨HK6.out, .inl ⟨?_, rfl⟩⟩
                have h1 : rfill (viewR S.L) j vn d.max.toNat = none := rfill_le (by omega : k + 1 ≤ d.max.toNat) (by rw [HRS.out, if_neg HMK.out])
                have h2 : rnews (viewR L) ds (j + 1) = none := by
                  rw [HN1.out]
                  simp only [rnew1, HH.out, Bool.false_eq_true, if_false, HVT.out, rview, List.length_map, HLEN.out]
                  rw [h1]; rfl
                simp only [rnew, HR.out, if_true]
                exact rnew_le (by have := hDN.out; omega) h2
              case pos =>
                have HMK := Lib.hid hmk
                have d6 : ((mmake (viewR L2) (tarea j k) (List.replicate vn 0) false false).2 != 0) = false := by simpa using hmk
                clear hmk
                have hbx := HK5.out.obj HB2.out (fun hj => (HFR2.out Z (rfoot_sub tb { S with lv := lv2, L := L2 } Z hj)).2 rfl)
                have HBX := Lib.hid hbx
                have hown5 := HO2.out.keep HK5.out (fun q hq hj => (HX2.out q hq).2.2 (rfoot_sub tb { S with lv := lv2, L := L2 } q hj))
                obtain ⟨xa, xn, xc, rfl, hxn, hXN⟩ := (hown5.rd enc_ks).val
                have z4 := cell_obj (i := 4) hbx
                have z5 := cell_obj (i := 5) hbx
                have f4 := frozen_obj (i := 4) hbx
                simp only [List.getElem?_toArray, List.getElem?_cons_zero, List.getElem?_cons_succ] at z4 z5
                have hk255 : IntKind.u8.wrap k = k := by rw [IntKind.wrap_u8]; omega
                have hlit : ∀ u : World, Own (u.alloc (.cells #[.int .u8 k, .int .u8 0, .int .u8 0, .int .u8 0] 5)) 0 5 1 (fun x => [Value.int .u8 x]) (.slice (some ⟨u.heap.size, 0, none⟩) 4 4) [(k : Int), 0, 0, 0] := fun u => Own.lit (enc_int .u8) (w := u) [(k : Int), 0, 0, 0] rfl rfl (Nat.zero_le _) (by simp [maxLen])
                have st := fun u => ((hlit u).rd (enc_int _)).run_str (P := Try.prog) Try.underlying40 Try.underlying5 Try.underlying9
                have hnk : strOfNums [(k : Int), 0, 0, 0] = numKey k := by unfold numKey; rw [Int.emod_eq_of_lt (by omega) (by omega)]
                simp only [hnk] at st
                have HO5 := Lib.hid hown5
                have HBB5 : Hid (base ≤ w5.heap.size) := Lib.hid (by have := HBB.out; have := HK5.out.size; omega)
                have hnl : (nums k).length ≤ 16 := by simp only [nums, List.length_map, List.length_range]; omega
                clear hbx hown5 hlit hnk
                generalize hnkk : numKey (k : Int) = nk at *
                have HNK := Lib.hid hnkk
                clear hnkk
                go_wp2_with (at_builtin; refine app_own2 el_rk enc_ks rfl _ _ rfl rfl ((HO5.out.ext (by (repeat (first | exact Ext.rfl' _ | assumption | refine Ext.drewN' ?_ _ | refine Ext.drew' ?_ | refine Ext.alloc' ?_ _ | refine Ext.trans' ?_ (by assumption))))).alloc _) rfl (ys := [(nk, k)]) (key_lit _ nk k _ (by simp)) (by simp; omega) (by have := HBB5.out; simp; omega) ?_)
                intro v7 w7 hown7 hg7 hmv7
                obtain ⟨ya, yn, yc, rfl, hyn, hYN⟩ := (hown7.rd enc_ks).val
                have hk7 : Keep (Value.slice xa xn xc).ownBlock.toList w5 w7 := (Keep.of_ext (show Ext w5 _ by (repeat (first | exact Ext.rfl' _ | assumption | refine Ext.drewN' ?_ _ | refine Ext.drew' ?_ | refine Ext.alloc' ?_ _ | refine Ext.trans' ?_ (by assumption))))).trans (grown_keep hg7)
                have hxo : ∀ q ∈ (Value.slice xa xn xc).ownBlock.toList, w.heap.size ≤ q ∧ q ≠ Z ∧ q ∉ rtfoot tb { S with lv := lv5, L := L5 } := fun q hq => by
                  have h1 := HX2.out q (by simpa using hq)
                  refine ⟨h1.1, h1.2.1, fun hj => ?_⟩
                  rcases HF5.out q hj with h | h
                  · exact h1.2.2 h
                  · have := (HO2.out.lt (by simpa using hq)).2; omega
                have HXO := Lib.hid hxo
                have hbx7 := hk7.obj HBX.out (fun hj => (hxo Z hj).2.1 rfl)
                have HBX7 := Lib.hid hbx7
                have z4 := cell_obj (i := 4) hbx7
                have z5 := cell_obj (i := 5) hbx7
                have f4 := frozen_obj (i := 4) hbx7
                have f5 := frozen_obj (i := 5) hbx7
                simp only [List.getElem?_toArray, List.getElem?_cons_zero, List.getElem?_cons_succ] at z4 z5
                have HK7 := Lib.hid hk7
                have HO7 := Lib.hid hown7
                have hmv8 : ∀ q, (Value.slice ya yn yc).ownBlock = some q → (Value.slice xa xn xc).ownBlock = some q ∨ w5.heap.size ≤ q := fun q hq => (hmv7 q hq).imp id (fun h => by simp at h; omega)
                have HMV7 := Lib.hid hmv8
                have HRL : Hid (∀ q ∈ rtfoot tb { S with lv := lv5, L := L5 }, q < w5.heap.size ∧ (q ∈ rfoot b lv L ∨ w.heap.size ≤ q) ∧ q ≠ Z) := Lib.hid fun q hq => by
                  refine ⟨(HT5.out.lt q hq).2, ?_⟩
                  rcases HF5.out q hq with h | h
                  · exact HFR2.out q h
                  · have := HK2.out.size
                    have := heap_lt HB2.out
                    exact ⟨.inr (by omega), by omega⟩
                have HW5 : Hid (w.heap.size ≤ w5.heap.size ∧ Z < w5.heap.size) := Lib.hid ⟨HK6.out.size, heap_lt HBX.out⟩
                clear hk7 hxo hbx7 hown7 hg7 hmv7 hmv8 st hms ix
                go_wp2_with fail
                go_roundw
                case rel =>
                  have o1 := heap_setCell_same w7 Z 4 _ _ (.slice ya yn yc) HBX7.out
                  have o2 := heap_setCell_same _ Z 5 _ _ (.int .i64 ((k : Int) + 1)) o1
                  have kZ : Keep [Z] w7 ((w7.setCell ⟨Z, 4, none⟩ (.slice ya yn yc)).setCell ⟨Z, 5, none⟩ (.int .i64 ((k : Int) + 1))) := ((Keep.rfl' [Z] w7).setCell (by simp) _).setCell (by simp) _
                  have hrow : ∀ q, (Value.slice ya yn yc).ownBlock = some q → w.heap.size ≤ q ∧ q ≠ Z ∧ q ∉ rtfoot tb { S with lv := lv5, L := L5 } := fun q hq => by
                    rcases HMV7.out q hq with h | h
                    · exact HXO.out q (by simpa using h)
                    · have h5 := HW5.out
                      exact ⟨by omega, by omega, fun hj => by have := (HRL.out q hj).1; omega⟩
                  have k57 : Keep ((Value.slice xa xn xc).ownBlock.toList ++ [Z]) w5 ((w7.setCell ⟨Z, 4, none⟩ (.slice ya yn yc)).setCell ⟨Z, 5, none⟩ (.int .i64 ((k : Int) + 1))) := (HK7.out.mono fun q hq => .inl (List.mem_append_left _ hq)).trans (kZ.mono fun q hq => .inl (List.mem_append_right _ hq))
                  refine ⟨k + 1, lv5, L5, .slice ya yn yc, by go_num, by omega, Lib.hid (HT5.out.keep k57 fun q hq hj => ?_), Lib.hid (by rw [HRS.out, if_pos HMK.out, HV5.out]), Lib.hid ?_, Lib.hid ?_, Lib.hid hrow, Lib.hid (HK6.out.through k57 fun q hq => ?_), Lib.hid fun q hq => (HRL.out q hq).2⟩
                  · rcases List.mem_append.1 hj with hj | hj
                    · exact (HXO.out q hj).2.2 hq
                    · rw [List.mem_singleton] at hj; exact (HRL.out q hq).2.2 hj
                  · rw [nums_succ, HNK.out]
                    exact HO7.out.keep kZ (fun q hq hj => by rw [List.mem_singleton] at hj; exact (hrow q hq).2.1 hj)
                  · have e : ((k + 1 : Nat) : Int) = (k : Int) + 1 := by omega
                    simp only [rmObj, e]
                    simpa using o2
                  · rcases List.mem_append.1 hq with hq | hq
                    · exact .inr (HXO.out q hq).1
                    · rw [List.mem_singleton] at hq; exact .inr (by omega)
                case measure => simp [intOf]; omega
          case neg =>
            have hkK2 : k = K := by omega
            subst hkK2
            have z0 := cell_obj (i := 0) HB2.out
            have z1 := cell_obj (i := 1) HB2.out
            have z2 := cell_obj (i := 2) HB2.out
            have z3 := cell_obj (i := 3) HB2.out
            have z4 := cell_obj (i := 4) HB2.out
            have z5 := cell_obj (i := 5) HB2.out
            simp only [List.getElem?_toArray, List.getElem?_cons_zero, List.getElem?_cons_succ] at z0 z1 z2 z3 z4 z5
            obtain ⟨xa, xc, rfl, -⟩ := HO2.out.rd enc_ks
            obtain ⟨ma, mn, mc, hmv, hmn, hMN⟩ := (HT2.out.maps.rd enc_rm).val
            simp only at hmv
            have HMV := Lib.hid hmv
            have cb := cell_obj (i := 1) HT2.out.head
            simp only [List.getElem?_toArray, List.getElem?_cons_zero, List.getElem?_cons_succ] at cb
            rw [hmv] at cb
            have cb' : ∀ o, (wr.alloc o).cell? ⟨tb, 1, none⟩ = some (.slice ma mn mc) := fun o => ((Ext.rfl' wr).alloc' o).cellOf cb
            have OMV : Hid (Own wr base 87 6 RM.enc (.slice ma mn mc) S.R) := Lib.hid (by rw [← hmv]; exact HT2.out.maps)
            have HBB : Hid (base ≤ wr.heap.size) := Lib.hid (by have := HK2.out.size; omega)
            have HLN8 : Hid (S.R.length ≤ 8) := Lib.hid (by have := HLEN.out; omega)
            clear hmv hms
            have hcond : (d.hash = true ∧ (k : Int) < d.max) ∨ (d.hash = false ∧ ¬ (k : Int) < d.max) := by
              have h1 := HKD.out; have h2 := HD1.out
              cases hd : d.hash with
              | true => rw [hd] at h1; simp at h1; exact .inl ⟨rfl, by omega⟩
              | false => rw [hd] at h1; simp at h1; exact .inr ⟨rfl, by omega⟩
            rcases hcond with ⟨hh, hm⟩ | ⟨hh, hm⟩
            all_goals
              have HH := Lib.hid hh
              rw [hh] at e0
              clear hh
              go_wp2_with fail
              go_region_law
                ((apply app_step2 el_rm enc_rm (xs := S.R) (ys := [⟨xa, xc, ⟨d.hash, d.key, d.val, d.max, nums k, k⟩⟩]) (base := base); (case hw => rfl); (case ho => rfl); (case hs => rfl); (case hown => exact OMV.out.ext (by (repeat (first | exact Ext.rfl' _ | assumption | refine Ext.drewN' ?_ _ | refine Ext.drew' ?_ | refine Ext.alloc' ?_ _ | refine Ext.trans' ?_ (by assumption))))); (case hx => rfl); (case hy => exact rm_lit _ ⟨xa, xc, ⟨d.hash, d.key, d.val, d.max, nums k, k⟩⟩ _ (by simp)); (case hbytes => have := HLN8.out; simp; omega); (case hbase => exact Nat.le_trans HBB.out (show Ext wr _ by (repeat (first | exact Ext.rfl' _ | assumption | refine Ext.drewN' ?_ _ | refine Ext.drew' ?_ | refine Ext.alloc' ?_ _ | refine Ext.trans' ?_ (by assumption)))).size); intro v5 w5 hown5 hg5 hm5; obtain ⟨la, ln, lc, rfl, hln, hLN⟩ := (hown5.rd enc_rm).val; have hp := HT2.out.push2 (lv := .slice la ln lc) (x := ⟨xa, xc, ⟨d.hash, d.key, d.val, d.max, nums k, k⟩⟩) (v := .slice ma mn mc) HMV.out hg5 hm5 (by (repeat (first | exact Ext.rfl' _ | assumption | refine Ext.drewN' ?_ _ | refine Ext.drew' ?_ | refine Ext.alloc' ?_ _ | refine Ext.trans' ?_ (by assumption)))) HO2.out (fun q hq => (HX2.out q hq).2.2) ⟨show k ≤ 1024 by omega, fun p hp => by have := (nums_mem hp).1; omega⟩ hown5 (by show S.R.length < 8; rw [HLEN.out]; exact hfew); have otb := tb_obj HT2.out HMV.out hg5 (by (repeat (first | exact Ext.rfl' _ | assumption | refine Ext.drewN' ?_ _ | refine Ext.drew' ?_ | refine Ext.alloc' ?_ _ | refine Ext.trans' ?_ (by assumption)))); have t1 := cell_obj (i := 1) otb; have t2 := frozen_obj (i := 1) otb; simp only [List.getElem?_toArray, List.getElem?_cons_zero, List.getElem?_cons_succ] at t1; have HP1 := Lib.hid hp.1; have HP2 := Lib.hid hp.2.1; have HP3 := Lib.hid hp.2.2; clear hown5 hg5 hm5 hp otb))
              all_goals
                go_wp2_with fail
                go_roundw
                case rel =>
                  refine ⟨j + 1, { S with lv := lv2, L := L2, mv := .slice la ln lc, R := S.R ++ [⟨xa, xc, ⟨d.hash, d.key, d.val, d.max, nums k, k⟩⟩] }, by omega, by go_num, HSB.out, HP1.out, ?_, by simp [HLEN.out], HK2.out.through HP2.out (fun q hq => (HFR2.out q hq).1), fun q hq => ?_⟩
                  · rw [HN1.out]
                    have hKK := HKD.out
                    have h1 := HD1.out
                    have hf := HF2.out
                    unfold rnew1
                    cases hd : d.hash with
                    | true =>
                      rw [hd] at hKK
                      simp only [if_true] at hKK
                      subst hKK
                      simp only [rfill] at hf
                      injection hf with hf
                      simp only [if_true, rview, hf, List.map_append, List.map_cons, List.map_nil, TDef.tm, nums, List.range_zero, hd]
                    | false =>
                      rw [hd] at hKK
                      simp only [Bool.false_eq_true, if_false] at hKK
                      subst hKK
                      simp only [Bool.false_eq_true, if_false, rview, HVT.out, List.length_map, HLEN.out, hf, Option.map_some, List.map_append, List.map_cons, List.map_nil, TDef.tm, TDef.full, hd]
                  · rcases HP3.out q hq with h | h | h
                    · exact (HFR2.out q h).1
                    · exact .inr (HX2.out q h).1
                    · exact .inr (Nat.le_trans HK2.out.size h)
                case measure => simp [intOf]; omega
end Go.Proofs.Ytjimmbcihcmfoaa
