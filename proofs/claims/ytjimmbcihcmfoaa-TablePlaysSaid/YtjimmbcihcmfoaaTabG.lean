/- Maps of layer 9: New. -/
import Derived.Test.YtjimmbcihcmfoaaTabF
namespace Go.Proofs.Ytjimmbcihcmfoaa
open Go.RowKit
set_option linter.unusedVariables false
set_option linter.unusedSimpArgs false

def NewT (base b r : Nat) (L : List Rec) (ds : List TDef) (w : World) (e : Ending) (w' : World) : Prop :=
  Keep (foot b r L) w w' ∧ ((tnew (view L) ds = none ∧ e = .returned (.tuple #[.pointer none, .int .i64 1])) ∨
    ∃ tb S, tnew (view L) ds = some (tview S) ∧ e = .returned (.tuple #[.pointer (some ⟨tb, 0, none⟩), .int .i64 0]) ∧ TabAt w' base tb S ∧ S.b = b ∧ ∀ j ∈ tfoot tb S, j ∈ foot b r L ∨ w.heap.size ≤ j)
theorem nk_inj {a c : Nat} (ha : a < 256) (hc : c < 256) (h : numKey a = numKey c) : a = c := by
  have h1 := congrArg (fun z : ByteArray => z.data.toList) h
  simp only [numKey, strOfNums_data, List.map_cons, List.cons.injEq] at h1
  have h2 := congrArg UInt8.toNat h1.1
  simp only [UInt8.toNat_ofNat'] at h2
  omega
def madeOf (w : World) (a : Nat) : Int := match w.cell? ⟨a, 5, none⟩ with | some (.int _ n) => n | _ => 0
theorem tnew_le {M : Areas} {ds : List TDef} : ∀ {j k : Nat}, j ≤ k → tnews M ds j = none → tnews M ds k = none
  | j, 0, h, hn => by simpa [Nat.le_zero.1 h] using hn
  | j, k + 1, h, hn => by
    by_cases e : j = k + 1
    · rw [← e]; exact hn
    · rw [tnews, tnew_le (by omega : j ≤ k) hn]; rfl
theorem tslot_some {V V' : Areas × List TM} {i : Int} {s : ByteArray} {vs : List Int} {t : TM} (hp : pick V.2 i = some t) (h : tslot V i s vs = some V') : V'.2 = V.2.set i.toNat (addSlot t s) := by
  simp only [tslot, hp] at h
  split at h
  · cases h
  · split at h
    · injection h with h; rw [← h]
    · cases h
theorem tfill_le {V : Areas × List TM} {i : Int} {val : Nat} : ∀ {j k : Nat}, j ≤ k → tfill V i val j = none → tfill V i val k = none
  | j, 0, h, hn => by simpa [Nat.le_zero.1 h] using hn
  | j, k + 1, h, hn => by
    by_cases e : j = k + 1
    · rw [← e]; exact hn
    · rw [tfill, tfill_le (by omega : j ≤ k) hn]; rfl
set_option maxRecDepth 20000 in
set_option maxHeartbeats 4000000 in
theorem tab_new (base b r : Nat) (L : List Rec) (dv : Value) (ds : List TDef) (w : World) (hm : MemAt w b r L) (hbase : base ≤ w.heap.size) (HD : Hid (∀ w', Keep (foot b r L) w w' → Rd w' 4 TDef.enc dv ds)) :
    Calls Try.prog 10 #[.pointer (some ⟨b, 0, none⟩), dv] w (NewT base b r L ds w) := by
  have hd := HD.out w (Keep.rfl' _ _)
  obtain ⟨da, dn, dc, rfl, hdn, hDN⟩ := hd.val
  have HMM := Lib.hid hm
  have HDD := Lib.hid hd
  clear hm hd
  have hmm := @run_makeMap Try.prog
  go_enter Try.func10, Try.ntmps10
  go_wp2_with fail
  refine (tab_right _ ds _ HDD.out).mono ?_
  rintro e w1 ⟨rfl, he1⟩
  cases hr : rightL ds with
  | false =>
    have HR := Lib.hid hr
    clear hr
    simp only
    go_wp2_with fail
    go_returns
    exact ⟨Keep.of_ext he1, .inl ⟨by simp only [tnew, HR.out]; rfl, rfl⟩⟩
  | true =>
    have HR := Lib.hid hr
    have hn8 : dn ≤ 8 := by
      have := hDN.out
      simp only [rightL, Bool.and_eq_true, decide_eq_true_eq] at hr
      omega
    have HMAY : Hid (∀ d ∈ ds, mayD d = true) := Lib.hid (by
      simp only [rightL, Bool.and_eq_true, List.all_eq_true] at hr
      exact hr.2)
    clear hr
    go_wp2_with fail
    have hT0 : TabAt (w1.alloc (.cells #[.pointer (some ⟨b, 0, none⟩), .slice none 0 0] 75)) base w1.heap.size ⟨b, r, L, .slice none 0 0, []⟩ := by
      have hs := he1.size
      refine ⟨obj_top _ _ rfl, by omega, Own.nil _ _ _ _ _, fun x hx => by simp at hx, fun x hx => by simp at hx, (HMM.out.ext he1).ext ((Ext.rfl' w1).alloc' _), ?_, by simp, fun x hx => by simp at hx⟩
      simp only [tfoot, Value.ownBlock, Option.toList_none, List.nil_append, List.flatMap_nil]
      rw [List.nodup_cons]
      exact ⟨fun hj => by have := HMM.out.lt _ hj; omega, HMM.out.apart⟩
    have HT0 := Lib.hid hT0
    have hwt : Ext w (w1.alloc (.cells #[.pointer (some ⟨b, 0, none⟩), .slice none 0 0] 75)) := he1.alloc' _
    have hs1 := he1.size
    obtain ⟨tb, htb⟩ : ∃ tb, w1.heap.size = tb := ⟨_, rfl⟩
    rw [htb] at HT0 ⊢
    have htw : w.heap.size ≤ tb := by omega
    clear hT0 he1 hs1
    go_loopw [22] (fun i wr => ∃ (j : Nat) (S : Tabs), j ≤ dn ∧ i = .int .i64 j ∧ S.b = b ∧ S.r = r ∧ TabAt wr base tb S ∧ tnews (view L) ds j = some (tview S) ∧ S.R.length = j ∧ Keep (foot b r L) w wr ∧ (∀ q ∈ tfoot tb S, q ∈ foot b r L ∨ w.heap.size ≤ q)) (fun i _ => dn - (intOf i).toNat)
    case atStart =>
      refine ⟨0, _, Nat.zero_le _, rfl, rfl, rfl, HT0.out, rfl, rfl, Keep.of_ext hwt, fun q hq => ?_⟩
      simp only [tfoot, Value.ownBlock, Option.toList_none, List.nil_append, List.flatMap_nil, List.mem_cons] at hq
      rcases hq with rfl | hq
      · exact .inr htw
      · exact .inl hq
    case round =>
      obtain ⟨j, S, hj, rfl, hSb, hSr, hT, hnews, hlen, hK, hfr⟩ := hrel
      have HT := Lib.hid hT
      have HNEWS := Lib.hid hnews
      have HLEN := Lib.hid hlen
      have HKK := Lib.hid hK
      have HFR := Lib.hid hfr
      have HSB := Lib.hid hSb
      have HSR := Lib.hid hSr
      clear hT hnews hlen hfr HT0 hSb hSr
      by_cases hlt : (j : Int) < dn
      case neg =>
        have hjn : j = ds.length := by have := hDN.out; omega
        have HJ := Lib.hid hjn
        clear hjn hK
        go_wp2_with fail
        go_returns
        refine ⟨HKK.out, .inr ⟨tb, S, ?_, rfl, HT.out, HSB.out, HFR.out⟩⟩
        simp only [tnew, HR.out, if_true]
        rw [← HJ.out]; exact HNEWS.out
      case pos =>
        obtain ⟨d, hd⟩ := at_of_lt (xs := ds) (k := j) (by have := hDN.out; omega)
        have ix := fun W => HDD.out.run_at (P := Try.prog) el_def.under el_def.size .i64 (j : Int) (by omega) (by omega) W
        simp only [Int.toNat_natCast] at ix
        obtain ⟨c0, c1, c2, c3⟩ := def_cells (HD.out wr hK) hd
        have hmv := HT.out.maps
        obtain ⟨ma, mn, mc, hmv', hmn, hMN⟩ := (hmv.rd enc_t).val
        have HMV := Lib.hid hmv'
        rw [hmv'] at hmv
        have cb := cell_obj (i := 1) HT.out.head
        simp only [List.getElem?_toArray, List.getElem?_cons_zero, List.getElem?_cons_succ] at cb
        rw [hmv'] at cb
        have OMV := Lib.hid hmv
        have HDJ := Lib.hid hd
        clear hK hd hmv hmv'
        obtain ⟨D, hD⟩ : ∃ D, (.cells #[.bool d.hash, .int .i64 d.key, .int .i64 d.val, .int .i64 d.max] 53 : Obj) = D := ⟨_, rfl⟩
        obtain ⟨X, hX⟩ : ∃ X, (.cells #[.bool d.hash, .int .i64 d.key, .int .i64 d.val, .int .i64 d.max, .map (some (wr.heap.size + 1)), .int .i64 0] 79 : Obj) = X := ⟨_, rfl⟩
        have hxe : Ext wr (((wr.alloc D).alloc (.map #[] 0)).alloc X) := (((Ext.rfl' wr).alloc' _).alloc' _).alloc' _
        have hxe2 := hxe.alloc' (.cells #[.pointer (some ⟨wr.heap.size + 1 + 1, 0, none⟩)] 76)
        have cb' := hxe.cellOf cb
        have hbs : base ≤ wr.heap.size := by have := HKK.out.size; omega
        have hOA := Lib.hid (OMV.out.ext hxe2)
        have hYL : Hid (Rd ((((wr.alloc D).alloc (.map #[] 0)).alloc X).alloc (.cells #[.pointer (some ⟨wr.heap.size + 1 + 1, 0, none⟩)] 76)) 1 encT (.slice (some ⟨wr.heap.size + 1 + 1 + 1, 0, none⟩) 1 1) [⟨wr.heap.size + 1 + 1, wr.heap.size + 1, d.tm⟩]) :=
          Lib.hid ((Own.lit enc_t (base := 0) (w := ((wr.alloc D).alloc (.map #[] 0)).alloc X) [⟨wr.heap.size + 1 + 1, wr.heap.size + 1, d.tm⟩] (by simp) rfl (Nat.zero_le _) (by simp [maxLen])).rd enc_t)
        subst hD hX
        go_wp2_with (at_builtin; refine app_own2 el_one enc_t rfl _ _ rfl rfl hOA.out rfl hYL.out ?q2 ?q3 ?q4)
        case q2 => have := HLEN.out; simp; omega
        case q3 => simp; omega
        intro lv w5 hown hgrow hmvd
        obtain ⟨la, ln, lc, rfl, hln, hLN⟩ := (hown.rd enc_t).val
        have hkg := grown_keep hgrow
        have hx1 : ((((wr.alloc (.cells #[.bool d.hash, .int .i64 d.key, .int .i64 d.val, .int .i64 d.max] 53)).alloc (.map #[] 0)).alloc (.cells #[.bool d.hash, .int .i64 d.key, .int .i64 d.val, .int .i64 d.max, .map (some (wr.heap.size + 1)), .int .i64 0] 79)).alloc (.cells #[.pointer (some ⟨wr.heap.size + 1 + 1, 0, none⟩)] 76)).heap[wr.heap.size + 1 + 1]? = some (.cells (TRec.cells ⟨wr.heap.size + 1 + 1, wr.heap.size + 1, d.tm⟩) 79 (0, 0)) := obj_old _ (obj_top _ _ (by simp))
        have hx2 : ((((wr.alloc (.cells #[.bool d.hash, .int .i64 d.key, .int .i64 d.val, .int .i64 d.max] 53)).alloc (.map #[] 0)).alloc (.cells #[.bool d.hash, .int .i64 d.key, .int .i64 d.val, .int .i64 d.max, .map (some (wr.heap.size + 1)), .int .i64 0] 79)).alloc (.cells #[.pointer (some ⟨wr.heap.size + 1 + 1, 0, none⟩)] 76)).heap[wr.heap.size + 1]? = some (.map #[] 0) := obj_old _ (obj_old _ (obj_top _ _ (by simp)))
        have hx3 : ((((wr.alloc (.cells #[.bool d.hash, .int .i64 d.key, .int .i64 d.val, .int .i64 d.max] 53)).alloc (.map #[] 0)).alloc (.cells #[.bool d.hash, .int .i64 d.key, .int .i64 d.val, .int .i64 d.max, .map (some (wr.heap.size + 1)), .int .i64 0] 79)).alloc (.cells #[.pointer (some ⟨wr.heap.size + 1 + 1, 0, none⟩)] 76)).heap[wr.heap.size]? = some (.cells #[.bool d.hash, .int .i64 d.key, .int .i64 d.val, .int .i64 d.max] 53 (0, 0)) := obj_old _ (obj_old _ (obj_old _ (obj_top _ _ rfl)))
        have hp := HT.out.push (lv := .slice la ln lc) (x := ⟨wr.heap.size + 1 + 1, wr.heap.size + 1, d.tm⟩) hxe2 hx1 (smap_new hx2) ⟨by simp only []; omega, by simp only []; omega, by simp⟩ ⟨by simp [TDef.tm], by simp [TDef.tm]⟩ (by rw [HMV.out]; exact hkg) (by rw [HMV.out]; exact hmvd) hown (by have := HLEN.out; omega)
        have hownlt : ∀ q ∈ (Value.slice ma mn mc).ownBlock.toList, q < wr.heap.size := fun q hq => (OMV.out.lt (by simpa using hq)).2
        have htbF : tb ∉ (Value.slice ma mn mc).ownBlock.toList := by
          rw [← HMV.out]
          exact fun hj => (List.nodup_cons.1 HT.out.apart).1 (List.mem_append_left _ hj)
        have otb := hkg.obj (hxe2.obj HT.out.head) htbF
        have z1 := cell_obj (i := 1) otb
        have z2 := frozen_obj (i := 1) otb
        simp only [List.getElem?_toArray, List.getElem?_cons_zero, List.getElem?_cons_succ] at z1
        have od5 := hkg.obj hx3 (fun hj => by have := hownlt _ hj; omega)
        have htblt : tb < wr.heap.size := HT.out.lt tb (by simp [tfoot])
        have od6 : (w5.setCell ⟨tb, 1, none⟩ (.slice la ln lc)).heap[wr.heap.size]? = some (.cells #[.bool d.hash, .int .i64 d.key, .int .i64 d.val, .int .i64 d.max] 53 (0, 0)) := (heap_setCell_other _ _ _ _ (by simp; omega)).trans od5
        have HOD := Lib.hid od6
        have HP1 := Lib.hid hp.1
        have HP2 := Lib.hid hp.2.1
        have HBD : Hid (wr.heap.size ∉ tfoot tb { S with mv := .slice la ln lc, R := S.R ++ [⟨wr.heap.size + 1 + 1, wr.heap.size + 1, d.tm⟩] }) := Lib.hid fun hj => by
          rcases hp.2.2 _ hj with h | ⟨_, h | h | h⟩
          · have := HT.out.lt _ h; omega
          · simp at h; omega
          · simp at h
          · simp at h; omega
        have HFR1 : Hid (∀ q ∈ tfoot tb { S with mv := .slice la ln lc, R := S.R ++ [⟨wr.heap.size + 1 + 1, wr.heap.size + 1, d.tm⟩] }, q ∈ foot b r L ∨ w.heap.size ≤ q) := Lib.hid fun q hq => by
          rcases hp.2.2 _ hq with h | ⟨h, _⟩
          · exact HFR.out q h
          · have := HKK.out.size; exact .inr (by omega)
        have HK6 : Hid (Keep (foot b r L) w (w5.setCell ⟨tb, 1, none⟩ (.slice la ln lc))) := Lib.hid (by
          have h1 := HP2.out
          exact ⟨h1.os.trans HKK.out.os, h1.tape.trans HKK.out.tape, h1.output.trans HKK.out.output, Nat.le_trans HKK.out.size h1.size, fun q hq hF => (h1.block q (Nat.lt_of_lt_of_le hq HKK.out.size) (fun hj => (HFR.out q hj).elim hF (fun h => by omega))).trans (HKK.out.block q hq hF)⟩)
        have hmay := HMAY.out d (List.mem_of_getElem? HDJ.out)
        have hbd0 := cell_obj (i := 0) HOD.out
        have hbd3 := cell_obj (i := 3) HOD.out
        simp only [List.getElem?_toArray, List.getElem?_cons_zero, List.getElem?_cons_succ] at hbd0 hbd3
        have hN1 : tnews (view L) ds (j + 1) = tnew1 (tview S) d := by rw [tnews, HNEWS.out, HDJ.out]; rfl
        have HN1 := Lib.hid hN1
        clear hown hgrow hmvd hkg hx1 hx2 hx3 hp hownlt otb od5 od6 hYL hOA OMV cb cb' hxe hxe2 c0 c1 c2 c3 ix hN1 htbF
        go_wp2_with fail
        have hbw : w.heap.size ≤ wr.heap.size := HKK.out.size
        generalize hw6 : w5.setCell ⟨tb, 1, none⟩ (.slice la ln lc) = w6 at HOD HP1 HP2 HK6 hbd0 hbd3 ⊢
        generalize hxa : wr.heap.size + 1 + 1 = xa at HP1 HBD HFR1 ⊢
        generalize hxr : wr.heap.size + 1 = xr at HP1 HBD HFR1 ⊢
        generalize hbd : wr.heap.size = bd at HOD HBD hbd0 hbd3 hbw ⊢
        clear hw6 hxa hxr hbd z1 z2 htblt HP2
        cases hh : d.hash with
        | true =>
          have HH := Lib.hid hh
          rw [hh] at hbd0
          clear hh
          go_loopw [52] (fun _ wq => wq = w6) (fun _ _ => 0)
          case atStart => rfl
          case round =>
            subst hrel
            go_wp2_with fail
            go_quiet (fail)
            go_wp2_with fail
            go_roundw
            case rel =>
              refine ⟨j + 1, { S with mv := .slice la ln lc, R := S.R ++ [⟨xa, xr, d.tm⟩] }, by omega, by go_num, HSB.out, HSR.out, HP1.out.ext (by (repeat (first | exact Ext.rfl' _ | assumption | refine Ext.drewN' ?_ _ | refine Ext.drew' ?_ | refine Ext.alloc' ?_ _ | refine Ext.trans' ?_ (by assumption)))), ?_, by simp [HLEN.out], HK6.out.trans (Keep.of_ext (by (repeat (first | exact Ext.rfl' _ | assumption | refine Ext.drewN' ?_ _ | refine Ext.drew' ?_ | refine Ext.alloc' ?_ _ | refine Ext.trans' ?_ (by assumption))))), HFR1.out⟩
              rw [HN1.out]
              simp only [tnew1, HH.out, if_true, tview, List.map_append, List.map_cons, List.map_nil]
            case measure => simp [intOf]; omega
        | false =>
          have HH := Lib.hid hh
          rw [hh] at hbd0
          clear hh
          have hmx : d.max ≤ 16 ∧ 0 ≤ d.val ∧ d.val ≤ 64 := by
            simp only [mayD, Bool.and_eq_true, decide_eq_true_eq] at hmay
            omega
          obtain ⟨vn, hvn⟩ : ∃ vn : Nat, (vn : Int) = d.val := ⟨d.val.toNat, by omega⟩
          have hv64 : vn ≤ 64 := by omega
          have hm16 := hmx.1
          have hms : ∀ u : World, (Instr.makeSlice 40 (.int .i64 d.val) (.int .i64 d.val)).run Try.prog u = .ok (.slice (some ⟨u.heap.size, 0, none⟩) vn vn) (u.alloc (.cells (madeCells #[.int .u8 0] vn) 5)) := fun u => by rw [← hvn]; exact run_make_u8 vn (by omega) u
          have HVT : Hid (d.val.toNat = vn) := Lib.hid (by omega)
          clear hmay hmx hvn hbd3
          go_loopw [52] (fun _ wq => ∃ (k : Nat) (S2 : Tabs) (x2 : TRec), k ≤ d.max.toNat ∧ TabAt wq base tb S2 ∧ S2.b = b ∧ S2.r = r ∧ tfill ((tview S).1, (tview S).2 ++ [d.tm]) j vn k = some (tview S2) ∧ S2.R.length = j + 1 ∧ S2.R[j]? = some x2 ∧ x2.a = xa ∧ x2.T.made = k ∧ (∀ p ∈ x2.T.slots, ∃ q < k, p.1 = numKey q) ∧ Keep (foot b r L) w wq ∧ (∀ q ∈ tfoot tb S2, q ∈ foot b r L ∨ w.heap.size ≤ q) ∧ wq.heap[bd]? = some (.cells #[.bool d.hash, .int .i64 d.key, .int .i64 d.val, .int .i64 d.max] 53 (0, 0)) ∧ bd ∉ tfoot tb S2) (fun _ wq => (d.max - madeOf wq xa).toNat)
          case atStart =>
            refine ⟨0, { S with mv := .slice la ln lc, R := S.R ++ [⟨xa, xr, d.tm⟩] }, ⟨xa, xr, d.tm⟩, Nat.zero_le _, HP1.out, HSB.out, HSR.out, ?_, by simp [HLEN.out], ?_, rfl, rfl, fun p hp => by simp [TDef.tm] at hp, HK6.out, HFR1.out, HOD.out, HBD.out⟩
            · simp only [tfill, tview, List.map_append, List.map_cons, List.map_nil]
            · simp only []
              rw [List.getElem?_append_right (by rw [HLEN.out]; exact Nat.le_refl _), HLEN.out]
              simp
          case round =>
            obtain ⟨k, S2, x2, hk, hT2, hb2, hr2, hfill, hl2, hx2, rfl, hmd, hsl, hK2, hfr2, hob, hbt⟩ := hrel
            have HT2 := Lib.hid hT2
            have HB2 := Lib.hid hb2
            have HR2 := Lib.hid hr2
            have HF2 := Lib.hid hfill
            have HL2 := Lib.hid hl2
            have HX2 := Lib.hid hx2
            have HMD := Lib.hid hmd
            have HSL := Lib.hid hsl
            have HK2 := Lib.hid hK2
            have HFR2 := Lib.hid hfr2
            have HOB := Lib.hid hob
            have HBT := Lib.hid hbt
            have q0 := cell_obj (i := 0) hob
            have q2 := cell_obj (i := 2) hob
            have q3 := cell_obj (i := 3) hob
            have q5 := cell_obj (i := 5) (hT2.ones x2 (List.mem_of_getElem? hx2))
            simp only [TRec.cells, List.getElem?_toArray, List.getElem?_cons_zero, List.getElem?_cons_succ] at q0 q2 q3 q5
            rw [HH.out] at q0
            rw [hmd] at q5
            clear hT2 hb2 hr2 hfill hl2 hx2 hmd hsl hK2 hfr2 hob hbt
            by_cases hkm : (k : Int) < d.max
            · go_wp2_with fail
              go_quiet (fail)
              go_wp2_with fail
              have HPK : Hid (pick S2.R (j : Int) = some x2) := Lib.hid (by simp only [pick]; rw [if_neg (by omega)]; simpa using HX2.out)
              have HLK : Hid (x2.T.slots.lookup (numKey k) = none) := Lib.hid (by
                cases hc : x2.T.slots.lookup (numKey k) with
                | none => rfl
                | some v =>
                  obtain ⟨q, hq, he⟩ := HSL.out _ (lookup_mem' hc)
                  have := nk_inj (by omega) (by omega) he
                  omega)
              have hxq : Ext wr (wr.drewN nq) := Ext.drewN' (Ext.rfl' wr) nq
              have HBL : Hid (bd < wr.heap.size) := Lib.hid (heap_lt HOB.out)
              have q5a : ∀ o, ((wr.drewN (nq + 1)).alloc o).cell? ⟨x2.a, 5, none⟩ = some (.int .i64 k) := fun o => (show Ext wr ((wr.drewN (nq + 1)).alloc o) by (repeat (first | exact Ext.rfl' _ | assumption | refine Ext.drewN' ?_ _ | refine Ext.drew' ?_ | refine Ext.alloc' ?_ _ | refine Ext.trans' ?_ (by assumption)))).cellOf q5
              have q2d : (wr.drewN (nq + 1)).cell? ⟨bd, 2, none⟩ = some (.int .i64 d.val) := q2
              have q5d : (wr.drewN (nq + 1)).cell? ⟨x2.a, 5, none⟩ = some (.int .i64 k) := q5
              have hfs : tfill ((tview S).1, (tview S).2 ++ [d.tm]) j vn (k + 1) = tslot (tview S2) j (numKey k) (List.replicate vn 0) := by rw [tfill, HF2.out]; rfl
              have HFS := Lib.hid hfs
              clear hfs
              cases hs : tslot (tview S2) j (numKey k) (List.replicate vn 0) with
              | none =>
                have HS := Lib.hid hs
                have his : (tslot (tview S2) j (numKey k) (List.replicate vn 0)).isSome = false := by rw [hs]; rfl
                clear hs
                go_region_with ((first
                  | (go_at_call 31; refine (tab_key k _).mono ?_; rintro e w2 ⟨rfl, he2⟩; have hw2 : Ext wr w2 := Ext.trans' (by (repeat (first | exact Ext.rfl' _ | assumption | refine Ext.drewN' ?_ _ | refine Ext.drew' ?_ | refine Ext.alloc' ?_ _ | refine Ext.trans' ?_ (by assumption)))) he2; have q2b := hw2.cellOf q2; have q5b := hw2.cellOf q5)
                  | (go_at_call 30; refine (tab_slot base tb S2 j (numKey k) _ (List.replicate vn 0) x2 _ (HT2.out.ext (by (repeat (first | exact Ext.rfl' _ | assumption | refine Ext.drewN' ?_ _ | refine Ext.drew' ?_ | refine Ext.alloc' ?_ _ | refine Ext.trans' ?_ (by assumption))))) (by first | exact sl_made _ vn (by omega) | exact (sl_made (wr.drewN (nq + 1)) vn (by omega)).ext he2) (rep_u8 vn) HPK.out HLK.out).mono ?_; rintro e w7 ⟨he7, hk7, S3, hT3, hv3, hf3, hb3, hr3, ha3⟩; rw [his] at he7; subst he7; have hk8 : Keep (tfoot tb S2) wr w7 := (Keep.of_ext (by (repeat (first | exact Ext.rfl' _ | assumption | refine Ext.drewN' ?_ _ | refine Ext.drew' ?_ | refine Ext.alloc' ?_ _ | refine Ext.trans' ?_ (by assumption))))).trans hk7; have HFR3 : Hid (∀ q ∈ tfoot tb S3, q ∈ tfoot tb S2 ∨ wr.heap.size ≤ q) := Lib.hid (fun q hq => (hf3 q hq).imp id (fun h => Nat.le_trans (Below.size (show Ext wr _ by (repeat (first | exact Ext.rfl' _ | assumption | refine Ext.drewN' ?_ _ | refine Ext.drew' ?_ | refine Ext.alloc' ?_ _ | refine Ext.trans' ?_ (by assumption))))) h)); have HT3 := Lib.hid hT3; have HV3 := Lib.hid hv3; have HB3 := Lib.hid hb3; have HR3 := Lib.hid hr3; have HA3 := Lib.hid ha3; have HK8 := Lib.hid hk8; clear hk7 hT3 hv3 hf3 hb3 hr3 ha3 hk8)))
                all_goals
                  go_wp2_with fail
                  go_returns
                  have h1 : tfill ((tview S).1, (tview S).2 ++ [d.tm]) j vn d.max.toNat = none := tfill_le (by omega : k + 1 ≤ d.max.toNat) (by rw [HFS.out, HS.out])
                  have h2 : tnews (view L) ds (j + 1) = none := by
                    rw [HN1.out]
                    simp only [tnew1, HH.out, Bool.false_eq_true, if_false, HVT.out]
                    rw [← h1]
                    simp only [tview, List.length_map, HLEN.out]
                  refine ⟨HK2.out.through HK8.out HFR2.out, .inl ⟨?_, rfl⟩⟩
                  simp only [tnew, HR.out, if_true]
                  exact tnew_le (by have := hDN.out; omega) h2
              | some V' =>
                have HS := Lib.hid hs
                have his : (tslot (tview S2) j (numKey k) (List.replicate vn 0)).isSome = true := by rw [hs]; rfl
                clear hs
                go_region_with ((first
                  | (go_at_call 31; refine (tab_key k _).mono ?_; rintro e w2 ⟨rfl, he2⟩; have hw2 : Ext wr w2 := Ext.trans' (by (repeat (first | exact Ext.rfl' _ | assumption | refine Ext.drewN' ?_ _ | refine Ext.drew' ?_ | refine Ext.alloc' ?_ _ | refine Ext.trans' ?_ (by assumption)))) he2; have q2b := hw2.cellOf q2; have q5b := hw2.cellOf q5)
                  | (go_at_call 30; refine (tab_slot base tb S2 j (numKey k) _ (List.replicate vn 0) x2 _ (HT2.out.ext (by (repeat (first | exact Ext.rfl' _ | assumption | refine Ext.drewN' ?_ _ | refine Ext.drew' ?_ | refine Ext.alloc' ?_ _ | refine Ext.trans' ?_ (by assumption))))) (by first | exact sl_made _ vn (by omega) | exact (sl_made (wr.drewN (nq + 1)) vn (by omega)).ext he2) (rep_u8 vn) HPK.out HLK.out).mono ?_; rintro e w7 ⟨he7, hk7, S3, hT3, hv3, hf3, hb3, hr3, ha3⟩; rw [his] at he7; subst he7; have hk8 : Keep (tfoot tb S2) wr w7 := (Keep.of_ext (by (repeat (first | exact Ext.rfl' _ | assumption | refine Ext.drewN' ?_ _ | refine Ext.drew' ?_ | refine Ext.alloc' ?_ _ | refine Ext.trans' ?_ (by assumption))))).trans hk7; have HFR3 : Hid (∀ q ∈ tfoot tb S3, q ∈ tfoot tb S2 ∨ wr.heap.size ≤ q) := Lib.hid (fun q hq => (hf3 q hq).imp id (fun h => Nat.le_trans (Below.size (show Ext wr _ by (repeat (first | exact Ext.rfl' _ | assumption | refine Ext.drewN' ?_ _ | refine Ext.drew' ?_ | refine Ext.alloc' ?_ _ | refine Ext.trans' ?_ (by assumption))))) h)); have HT3 := Lib.hid hT3; have HV3 := Lib.hid hv3; have HB3 := Lib.hid hb3; have HR3 := Lib.hid hr3; have HA3 := Lib.hid ha3; have HK8 := Lib.hid hk8; clear hk7 hT3 hv3 hf3 hb3 hr3 ha3 hk8)))
                all_goals
                  (try simp only [Act.put, List.getElem_toArray, List.getElem_cons_succ, List.getElem_cons_zero, List.setIfInBounds_toArray, List.set_cons_succ, List.set_cons_zero])
                  go_wp2_with fail
                  (try simp only [Act.put, List.getElem_toArray, List.getElem_cons_succ, List.getElem_cons_zero, List.setIfInBounds_toArray, List.set_cons_succ, List.set_cons_zero])
                  have hv : tview S3 = V' := by rw [HV3.out, HS.out]; rfl
                  have hR3 : S3.R.map (·.T) = (S2.R.map (·.T)).set j (addSlot x2.T (numKey k)) := by
                    have h1 : pick (tview S2).2 (j : Int) = some x2.T := by simp only [tview]; rw [pick_map, HPK.out]; rfl
                    have h2 := tslot_some h1 HS.out
                    rw [← hv] at h2
                    simpa [tview] using h2
                  have hl3 : S3.R.length = j + 1 := by
                    have := congrArg List.length HA3.out
                    simpa [HL2.out] using this
                  obtain ⟨x3, hx3⟩ := at_of_lt (xs := S3.R) (k := j) (by omega)
                  have ha : x3.a = x2.a := by
                    have h1 : (S3.R.map (·.a))[j]? = (S2.R.map (·.a))[j]? := by rw [HA3.out]
                    rw [List.getElem?_map, List.getElem?_map, hx3, HX2.out] at h1
                    simpa using h1
                  have hT : x3.T = addSlot x2.T (numKey k) := by
                    have h1 : (S3.R.map (·.T))[j]? = ((S2.R.map (·.T)).set j (addSlot x2.T (numKey k)))[j]? := by rw [hR3]
                    rw [List.getElem?_map, hx3, List.getElem?_set_self (by rw [List.length_map, HL2.out]; omega)] at h1
                    simpa using h1
                  have hmade3 : madeOf w7 x2.a = (k : Int) + 1 := by
                    have h1 := cell_obj (i := 5) (HT3.out.ones x3 (List.mem_of_getElem? hx3))
                    simp only [TRec.cells, List.getElem?_toArray, List.getElem?_cons_zero, List.getElem?_cons_succ] at h1
                    rw [ha] at h1
                    simp only [madeOf, h1, hT, addSlot, HMD.out]
                    omega
                  have hmade2 : madeOf wr x2.a = k := by simp only [madeOf, q5]
                  have M3 := Lib.hid hmade3
                  have M2 := Lib.hid hmade2
                  clear hmade3 hmade2
                  go_roundw
                  case rel =>
                    refine ⟨k + 1, S3, x3, by omega, HT3.out, by rw [HB3.out, HB2.out], by rw [HR3.out, HR2.out], by rw [HFS.out, HS.out, hv], hl3, hx3, ha, by rw [hT]; simp only [addSlot, HMD.out], ?_, HK2.out.through HK8.out HFR2.out, ?_, HK8.out.obj HOB.out HBT.out, ?_⟩
                    · intro p hp
                      rw [hT] at hp
                      simp only [addSlot, List.mem_append, List.mem_singleton] at hp
                      rcases hp with hp | rfl
                      · obtain ⟨q, hq, he⟩ := HSL.out p hp
                        exact ⟨q, by omega, he⟩
                      · exact ⟨k, by omega, rfl⟩
                    · intro q hq
                      rcases HFR3.out q hq with h | h
                      · exact HFR2.out q h
                      · have := HK2.out.size; exact .inr (by omega)
                    · intro hq
                      rcases HFR3.out _ hq with h | h
                      · exact HBT.out h
                      · have := HBL.out; omega
                  case measure => rw [M3.out, M2.out]; omega
            · have hke : k = d.max.toNat := by omega
              have HKE := Lib.hid hke
              have HNM : Hid (madeOf wr x2.a = k) := Lib.hid (by simp only [madeOf, q5])
              go_wp2_with fail
              go_quiet (fail)
              go_wp2_with fail
              go_roundw
              case rel =>
                refine ⟨j + 1, S2, by omega, by go_num, HB2.out, HR2.out, HT2.out.ext (by (repeat (first | exact Ext.rfl' _ | assumption | refine Ext.drewN' ?_ _ | refine Ext.drew' ?_ | refine Ext.alloc' ?_ _ | refine Ext.trans' ?_ (by assumption)))), ?_, HL2.out, HK2.out.trans (Keep.of_ext (by (repeat (first | exact Ext.rfl' _ | assumption | refine Ext.drewN' ?_ _ | refine Ext.drew' ?_ | refine Ext.alloc' ?_ _ | refine Ext.trans' ?_ (by assumption))))), HFR2.out⟩
                rw [HN1.out]
                simp only [tnew1, HH.out, Bool.false_eq_true, if_false, HVT.out]
                rw [← HKE.out, ← HF2.out]
                simp only [tview, List.length_map, HLEN.out]
              case measure => simp [intOf]; omega
end Go.Proofs.Ytjimmbcihcmfoaa
