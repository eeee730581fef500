/- dead: goes, Edits, Many; hackleref20: Edits, Many. -/
import Derived.Test.YtkogkcjiachphaaLvG
namespace Go.Proofs.Ytkogkcjiachphaa
open Go.RowKit
set_option linter.unusedVariables false
set_option linter.unusedSimpArgs false

/-- What becomes of an instruction. -/
structure Ed where
  kind : Int
  x : Ins
  tgt : Int
def Ed.enc (e : Ed) : List Value := [.int .u8 e.kind, .int .u8 e.x.op, .int .u8 e.x.dst, .int .u8 e.x.src, .int .i16 e.x.off, .int .i32 e.x.imm, .int .i64 e.tgt]
@[reducible] def Ed.agg (e : Ed) : Value := .agg #[.int .u8 e.kind, .int .u8 e.x.op, .int .u8 e.x.dst, .int .u8 e.x.src, .int .i16 e.x.off, .int .i32 e.x.imm, .int .i64 e.tgt]
theorem enc_ed : Enc 7 Ed.enc := ⟨fun _ => rfl, fun x u hu => by
  simp only [Ed.enc, List.mem_cons, List.not_mem_nil, or_false] at hu
  rcases hu with rfl | rfl | rfl | rfl | rfl | rfl | rfl <;> rfl⟩
theorem el_ed : El Try.prog 44 80 7 24 (.agg #[.int .u8 0, .int .u8 0, .int .u8 0, .int .u8 0, .int .i16 0, .int .i32 0, .int .i64 0]) := ⟨Try.underlying44, by kernel_rfl, rfl, by decide, fun _ => by kernel_rfl⟩
def zIns : Ins := ⟨0, 0, 0, 0, 0⟩
/-- Keep, or Drop. -/
def edB (b : Bool) : Ed := ⟨if b then 1 else 0, zIns, 0⟩
theorem ed_cells {w : World} {v : Value} {E : List Ed} (R : Rd w 7 Ed.enc v E) {i : Nat} {e : Ed} (hx : E[i]? = some e) :
    w.cell? (elt v (i * 7)) = some (.int .u8 e.kind) ∧ w.cell? ⟨(elt v (i * 7)).block, (elt v (i * 7)).off + 1, none⟩ = some (.int .u8 e.x.op) ∧ w.cell? ⟨(elt v (i * 7)).block, (elt v (i * 7)).off + 2, none⟩ = some (.int .u8 e.x.dst) ∧ w.cell? ⟨(elt v (i * 7)).block, (elt v (i * 7)).off + 3, none⟩ = some (.int .u8 e.x.src) ∧ w.cell? ⟨(elt v (i * 7)).block, (elt v (i * 7)).off + 4, none⟩ = some (.int .i16 e.x.off) ∧ w.cell? ⟨(elt v (i * 7)).block, (elt v (i * 7)).off + 5, none⟩ = some (.int .i32 e.x.imm) ∧ w.cell? ⟨(elt v (i * 7)).block, (elt v (i * 7)).off + 6, none⟩ = some (.int .i64 e.tgt) := by
  have A := R.elt_add' hx
  have F : ∀ (p : Addr) (j : Nat), j ≠ 0 → (⟨p.block, p.off + j, none⟩ : Addr) = p.add j := fun p j h => by simp [Addr.add, h]
  rw [F _ 1 (by decide), F _ 2 (by decide), F _ 3 (by decide), F _ 4 (by decide), F _ 5 (by decide), F _ 6 (by decide), A, A, A, A, A, A]
  exact ⟨R.cell hx (j := 0) rfl, R.cell hx (j := 1) rfl, R.cell hx (j := 2) rfl, R.cell hx (j := 3) rfl, R.cell hx (j := 4) rfl, R.cell hx (j := 5) rfl, R.cell hx (j := 6) rfl⟩
/-- Does the instruction at a place go? -/
noncomputable def goesB (L : List Ins) (k : Nat) : Bool := (stF false L).getD k false && ((idleL L).getD k false || !((reachL L 0).getD k false))
noncomputable def goesL (L : List Ins) : List Bool := if progS L then (List.range L.length).map (goesB L) else []
noncomputable def deadL (L : List Ins) : List Ed := (goesL L).map edB
def manyB (l : List Bool) : Nat := l.countP (fun b => b)
theorem goesL_length {L : List Ins} (hp : progS L = true) : (goesL L).length = L.length := by unfold goesL; rw [hp]; simp
theorem idleL_length {L : List Ins} (hp : progS L = true) : (idleL L).length = L.length := by unfold idleL; simp [liveB_length hp]
theorem goes_at {L : List Ins} {k : Nat} {s i r : Bool} (hs : (stF false L)[k]? = some s) (hi : (idleL L)[k]? = some i) (hr : (reachL L 0)[k]? = some r) : goesB L k = (s && (i || !r)) := by
  unfold goesB
  simp only [List.getD_eq_getElem?_getD, hs, hi, hr, Option.getD_some]
theorem own_bool_at {w : World} {base : Nat} {v : Value} {a : List Bool} {k : Nat} {x : Bool} (h : Own w base 4 1 encB v a) (hx : a[k]? = some x) :
    w.cell? (elt v k) = some (.bool x) ∧ w.frozen? (elt v k) = false ∧ v.ownBlock = some (elt v k).block ∧ (elt v k).block < w.heap.size ∧
    ∀ y : Bool, Own (w.setCell (elt v k) (.bool y)) base 4 1 encB v (a.set k y) ∧ (∀ B W, Below B W w → B ≤ base → Below B W (w.setCell (elt v k) (.bool y))) :=
  Own.at (f := fun x : Bool => Value.bool x) h hx
set_option maxRecDepth 20000 in
set_option maxHeartbeats 2000000 in
theorem d_goes (v : Value) (L : List Ins) (w : World) (h : Rd w 5 Ins.enc v L) (hl : L.length ≤ 1000000) (hok : InsOk L) : Calls Try.prog 78 #[v] w (OwnB (goesL L) w) := by
  obtain ⟨pa, n, pc, rfl, hpn, hPN⟩ := h.val
  have hk2 : n ≤ 1000000 := by rw [hPN.out]; exact hl
  have HD := Lib.hid h
  have HOK := Lib.hid hok
  have HL := Lib.hid hl
  have HN := Lib.hid hPN.out
  clear h hok hl
  cases hp : progS L with
  | false =>
    have HP := Lib.hid hp
    have hgl : goesL L = [] := by unfold goesL; rw [hp]; rfl
    rw [hgl]
    clear hp hgl
    go_enter Try.func78, Try.ntmps78
    go_wp2_with fail
    refine (p_Check _ L _ HD.out HL.out HOK.out).mono ?_
    rintro e w5 ⟨at_, er, rfl, her, hE⟩
    rw [HP.out] at her
    have hne : (er != 0) = true := by simpa using her
    have HE := Lib.hid hE
    clear hE her
    go_wp2_with fail
    go_returns
    exact ⟨_, rfl, Own.nil _ _ _ _ _, HE.out⟩
  | true =>
    have HP := Lib.hid hp
    have hgl : goesL L = (List.range n).map (goesB L) := by unfold goesL; rw [hp, HN.out]; rfl
    have HGL := Lib.hid hgl
    have h0 := (ProgF.of hp).len
    rw [← HN.out] at h0
    have hn0 : 0 < n := by omega
    clear hp hgl h0
    go_enter Try.func78, Try.ntmps78
    go_wp2_with fail
    refine (p_Check _ L _ HD.out HL.out HOK.out).mono ?_
    rintro e w5 ⟨at_, er, rfl, her, hE⟩
    rw [HP.out] at her
    obtain rfl : er = 0 := by simpa using her
    have HE := Lib.hid hE
    clear hE her
    go_wp2_with fail
    refine (p_Starts _ L _ (HD.out.ext HE.out) HL.out).mono ?_
    rintro e w6 ⟨s, rfl, hO, hE6⟩
    obtain ⟨sa, sn, sc, hsv, hsn, hSN⟩ := (hO.rd enc_bool).val
    subst hsv
    obtain rfl : n = sn := by rw [hSN.out, stF_length, HN.out]
    have HS := Lib.hid (hO.mono HE.out.size)
    have HE6 := Lib.hid (HE.out.trans' hE6)
    clear hO hE6
    go_wp2_with fail
    refine (p_Reach _ L 0 _ (HD.out.ext HE6.out) HL.out HOK.out).mono ?_
    rintro e w7 ⟨vr, rfl, hO, hE7⟩
    obtain ⟨ra, rn, rc, hrv, hrn, hRN⟩ := (hO.rd enc_bool).val
    subst hrv
    obtain rfl : n = rn := by rw [hRN.out, reachL_length HP.out, HN.out]
    have hlt6 : ∀ j, (Value.slice sa n sc).ownBlock = some j → j < w6.heap.size := fun j hj => (HS.out.lt hj).2
    have HLT6 := Lib.hid hlt6
    have HRo := Lib.hid hO
    have HS7 := Lib.hid (HS.out.ext hE7)
    have HE7 := Lib.hid (HE6.out.trans' hE7)
    have hz7 := hE7.size
    clear hO hE7 hlt6 HS HE6 HE
    go_wp2_with fail
    refine (l_Idle _ L _ (HD.out.ext HE7.out) HL.out HOK.out).mono ?_
    rintro e w8 ⟨vi, rfl, hO, hE8⟩
    obtain ⟨ia, im, ic, hiv, him, hIN⟩ := (hO.rd enc_bool).val
    subst hiv
    obtain rfl : n = im := by rw [hIN.out, idleL_length HP.out, HN.out]
    have HI := Lib.hid hO
    have HR := Lib.hid (HRo.out.ext hE8)
    have HS8 := Lib.hid (HS7.out.ext hE8)
    have HE8 := Lib.hid (HE7.out.trans' hE8)
    clear hO hE8 HRo HS7 HE7
    have HKI : Hid (∀ j, (Value.slice ia n ic).ownBlock = some j → j ∉ (Value.slice sa n sc).ownBlock.toList) := Lib.hid (fun j hj hm => by
      have h1 := (HI.out.lt hj).1
      have h2 := HLT6.out j (by simpa using hm)
      omega)
    have HKR : Hid (∀ j, (Value.slice ra n rc).ownBlock = some j → j ∉ (Value.slice sa n sc).ownBlock.toList) := Lib.hid (fun j hj hm => by
      have h1 := (HR.out.lt hj).1
      have h2 := HLT6.out j (by simpa using hm)
      omega)
    have HKW : Hid (∀ j ∈ (Value.slice sa n sc).ownBlock.toList, w.heap.size ≤ j) := Lib.hid (fun j hm => (HS8.out.lt (by simpa using hm)).1)
    clear HLT6
    go_wp2_with fail
    go_loopw [24] (fun q wr => ∃ k : Nat, k ≤ n ∧ q = .int .i64 k ∧ Hid (∃ M, Own wr w.heap.size 4 1 encB (.slice sa n sc) M ∧ Keep (Value.slice sa n sc).ownBlock.toList w8 wr ∧ M.length = n ∧ (∀ i, i < k → M[i]? = some (goesB L i)) ∧ (∀ i, k ≤ i → M[i]? = (stF false L)[i]?))) (fun q _ => n - (intOf q).toNat)
    case atStart => exact ⟨0, Nat.zero_le _, rfl, Lib.hid ⟨_, HS8.out, Keep.rfl' _ _, by rw [stF_length, HN.out], fun i hi => absurd hi (Nat.not_lt_zero _), fun i _ => rfl⟩⟩
    case round =>
      obtain ⟨k, hk, rfl, HI2⟩ := hrel
      obtain ⟨M, hO, hK, hl, hM, hM2⟩ := HI2.out
      have HO1 := Lib.hid hO
      have HK1 := Lib.hid hK
      have HM1 := Lib.hid hM
      have HM2 := Lib.hid hM2
      have HL1 := Lib.hid hl
      clear hO hK hM hM2 hl HI2
      by_cases hlt : (k : Int) < n
      · obtain ⟨s0, hs0⟩ := at_of_lt (xs := stF false L) (k := k) (by rw [stF_length, ← HN.out]; omega)
        obtain ⟨i0, hi0⟩ := at_of_lt (xs := idleL L) (k := k) (by have := hIN.out; omega)
        obtain ⟨r0, hr0⟩ := at_of_lt (xs := reachL L 0) (k := k) (by have := hRN.out; omega)
        have hm0 : M[k]? = some s0 := by rw [HM2.out k (Nat.le_refl _), hs0]
        have HGK := Lib.hid (goes_at hs0 hi0 hr0)
        have ixs := fun W => (HO1.out.rd enc_bool).run_at (P := Try.prog) el_bool.under el_bool.size .i64 (k : Int) (by omega) (by omega) W
        have ixi := fun W => (HI.out.rd enc_bool).run_at (P := Try.prog) el_bool.under el_bool.size .i64 (k : Int) (by omega) (by omega) W
        have ixr := fun W => (HR.out.rd enc_bool).run_at (P := Try.prog) el_bool.under el_bool.size .i64 (k : Int) (by omega) (by omega) W
        have ci := ((HI.out.keep HK1.out HKI.out).rd enc_bool).cell hi0 (j := 0) rfl
        have cr := ((HR.out.keep HK1.out HKR.out).rd enc_bool).cell hr0 (j := 0) rfl
        simp only [Nat.mul_one, Nat.add_zero, Int.toNat_natCast] at ixs ixi ixr ci cr
        obtain ⟨e1, e2, e3, e4, e5⟩ := own_bool_at HO1.out hm0
        have HO2 := Lib.hid (e5 (goesB L k)).1
        have HK2 : Hid (Keep (Value.slice sa n sc).ownBlock.toList w8 (wr.setCell (elt (.slice sa n sc) k) (.bool (goesB L k)))) := Lib.hid (HK1.out.setCell (by rw [e3]; simp) _)
        have HMS : Hid (∀ i, i < k + 1 → (M.set k (goesB L k))[i]? = some (goesB L i)) := Lib.hid (fun i hi => by
          by_cases e : i = k
          · subst e; rw [List.getElem?_set_self (by have := HL1.out; omega)]
          · rw [List.getElem?_set_ne (Ne.symm e)]; exact HM1.out i (by omega))
        have HMS2 : Hid (∀ i, k + 1 ≤ i → (M.set k (goesB L k))[i]? = (stF false L)[i]?) := Lib.hid (fun i hi => by
          rw [List.getElem?_set_ne (by omega)]; exact HM2.out i (by omega))
        rw [HGK.out] at HO2 HK2 HMS HMS2
        clear e5 e3 hs0 hi0 hr0 hm0 HM1 HM2
        cases s0 <;> cases i0 <;> cases r0
        all_goals
          simp only [Bool.false_and, Bool.true_and, Bool.or_true, Bool.true_or, Bool.or_false, Bool.false_or, Bool.not_true, Bool.not_false] at HO2 HK2 HMS HMS2
          go_wp2_with fail
          go_roundw
          case rel => exact ⟨k + 1, by omega, by go_num, Lib.hid ⟨_, HO2.out, HK2.out, by simpa using HL1.out, HMS.out, HMS2.out⟩⟩
          case measure => simp [intOf]; omega
      · have HEQ : Hid (M = (List.range n).map (goesB L)) := Lib.hid (by
          apply List.ext_getElem?
          intro i
          by_cases hi : i < n
          · rw [HM1.out i (by omega)]
            simp only [List.getElem?_map, List.getElem?_range hi, Option.map_some]
          · rw [List.getElem?_eq_none (by have := HL1.out; omega), List.getElem?_eq_none (by simp; omega)])
        have HEE := Lib.hid (HK1.out.below HE8.out HE8.out.size HKW.out)
        go_wp2_with fail
        go_returns
        exact ⟨_, rfl, by rw [HGL.out, ← HEQ.out]; exact HO1.out, HEE.out⟩
def OwnE (xs : List Ed) (w : World) (e : Ending) (w' : World) : Prop := ∃ v, e = .returned v ∧ Own w' w.heap.size 80 7 Ed.enc v xs ∧ Ext w w'
theorem rd_oneE (w : World) (k : Int) : Rd (w.alloc (.cells #[.int .u8 k, .int .u8 0, .int .u8 0, .int .u8 0, .int .i16 0, .int .i32 0, .int .i64 0] 80)) 7 Ed.enc (.slice (some ⟨w.heap.size, 0, none⟩) 1 1) [⟨k, zIns, 0⟩] :=
  (Own.lit enc_ed (base := 0) (w := w) [⟨k, zIns, 0⟩] rfl rfl (Nat.zero_le _) (by simp [maxLen])).rd enc_ed
theorem goesL_le {L : List Ins} (h : L.length ≤ 1000000) : (goesL L).length ≤ 1000000 := by
  unfold goesL
  split
  · simpa using h
  · simp
set_option maxRecDepth 20000 in
set_option maxHeartbeats 2000000 in
theorem d_Edits (v : Value) (L : List Ins) (w : World) (h : Rd w 5 Ins.enc v L) (hl : L.length ≤ 1000000) (hok : InsOk L) : Calls Try.prog 44 #[v] w (OwnE (deadL L) w) := by
  obtain ⟨pa, n, pc, rfl, hpn, hPN⟩ := h.val
  have HD := Lib.hid h
  have HOK := Lib.hid hok
  have HL := Lib.hid hl
  have hgl := goesL_le hl
  clear h hok hl
  go_enter Try.func44, Try.ntmps44
  go_wp2_with fail
  refine (d_goes _ L _ HD.out HL.out HOK.out).mono ?_
  rintro e w5 ⟨v5, rfl, hO, hE⟩
  obtain ⟨xa, xn, xc, hxv, hxn, hXN⟩ := (hO.rd enc_bool).val
  subst hxv
  have hx2 : xn ≤ 1000000 := by rw [hXN.out]; exact hgl
  have HO := Lib.hid hO
  have HE := Lib.hid hE
  clear hO hE hgl
  go_wp2_with fail
  go_loopw [3, 10] (fun v3 q wr => ∃ k : Nat, k ≤ xn ∧ q = .int .i64 k ∧ ∃ ta tn tc, v3 = .slice ta tn tc ∧ Hid (Own wr w5.heap.size 80 7 Ed.enc v3 ((deadL L).take k) ∧ Ext w5 wr)) (fun _ q _ => xn - (intOf q).toNat)
  case atStart => exact ⟨0, Nat.zero_le _, rfl, _, _, _, rfl, Lib.hid ⟨Own.nil _ _ _ _ _, Ext.rfl' _⟩⟩
  case round =>
    obtain ⟨k, hk, rfl, ta, tn, tc, rfl, HI⟩ := hrel
    have HO4 := Lib.hid HI.out.1
    have HX4 := Lib.hid HI.out.2
    clear HI
    by_cases hlt : (k : Int) < xn
    · obtain ⟨x, hx⟩ := at_of_lt (xs := goesL L) (k := k) (by have := hXN.out; omega)
      have ix := fun W => (HO.out.rd enc_bool).run_at (P := Try.prog) el_bool.under el_bool.size .i64 (k : Int) (by omega) (by omega) W
      have cx := ((HO.out.ext HX4.out).rd enc_bool).cell hx (j := 0) rfl
      simp only [Nat.mul_one, Nat.add_zero, Int.toNat_natCast] at ix cx
      have HTK : Hid ((deadL L).take (k + 1) = (deadL L).take k ++ [edB x]) := Lib.hid (by rw [List.take_add_one]; unfold deadL; rw [List.getElem?_map, hx]; rfl)
      clear hx
      go_upto_if 14 with fail
      go_cut [6] from 15 to 20 (fun v6 wx => v6 = .int .u8 (if x then (1 : Int) else 0) ∧ wx = wr)
      case first =>
        cases x
        all_goals
          go_wp2_with fail
          go_meet
          exact ⟨rfl, rfl⟩
      case rest =>
        obtain ⟨rfl, HWC⟩ := hcut
        obtain rfl := HWC.symm
        clear ix cx
        have HK : Hid ((⟨if x then 1 else 0, zIns, 0⟩ : Ed) = edB x) := Lib.hid rfl
        generalize (if x then (1 : Int) else 0) = kk at HK ⊢
        go_wp2_with (at_builtin; refine app_own el_ed enc_ed rfl _ _ rfl rfl (HO4.out.alloc _) rfl (ys := [edB x]) ?q1 ?q2 ?q3 ?q4)
        case q1 => rw [← HK.out]; exact rd_oneE _ _
        case q2 => omega
        case q3 => have := HX4.out.size; simp; omega
        intro v' w8 hown hgrow hmv
        have HX8 : Hid (Ext w5 w8) := Lib.hid (hmv _ _ (HX4.out.alloc' _) (Nat.le_refl _))
        obtain ⟨a2, n2, c2, hv2, hn2, hN2⟩ := (hown.rd enc_ed).val
        subst hv2
        have HO8 := Lib.hid hown
        clear hown hgrow hmv
        go_wp2_with fail
        go_roundw
        case rel => exact ⟨k + 1, by omega, by go_num, _, _, _, rfl, Lib.hid ⟨by rw [HTK.out]; exact HO8.out, HX8.out⟩⟩
        case measure => simp [intOf]; omega
    · have hfull : (deadL L).take k = deadL L := List.take_of_length_le (by unfold deadL; rw [List.length_map]; have := hXN.out; omega)
      have HF := Lib.hid hfull
      clear hfull
      go_wp2_with fail
      go_returns
      exact ⟨_, rfl, by rw [← HF.out]; exact HO4.out.mono HE.out.size, HE.out.trans' HX4.out⟩
theorem manyB_take {l : List Bool} {k : Nat} {x : Bool} (hx : l[k]? = some x) : manyB (l.take (k + 1)) = manyB (l.take k) + (if x then 1 else 0) := by
  unfold manyB
  rw [List.take_add_one, hx, List.countP_append]
  cases x <;> rfl
theorem manyB_le (l : List Bool) : manyB l ≤ l.length := List.countP_le_length
set_option maxRecDepth 20000 in
set_option maxHeartbeats 2000000 in
theorem d_Many (v : Value) (L : List Ins) (w : World) (h : Rd w 5 Ins.enc v L) (hl : L.length ≤ 1000000) (hok : InsOk L) : Calls Try.prog 46 #[v] w fun e w' => e = .returned (.int .i64 (manyB (goesL L) : Nat)) ∧ Ext w w' := by
  obtain ⟨pa, n, pc, rfl, hpn, hPN⟩ := h.val
  have HD := Lib.hid h
  have HOK := Lib.hid hok
  have HL := Lib.hid hl
  have hgl := goesL_le hl
  clear h hok hl
  go_enter Try.func46, Try.ntmps46
  go_wp2_with fail
  refine (d_goes _ L _ HD.out HL.out HOK.out).mono ?_
  rintro e w5 ⟨v5, rfl, hO, hE⟩
  obtain ⟨xa, xn, xc, hxv, hxn, hXN⟩ := (hO.rd enc_bool).val
  subst hxv
  have hx2 : xn ≤ 1000000 := by rw [hXN.out]; exact hgl
  have HO := Lib.hid hO
  have HE := Lib.hid hE
  clear hO hE hgl
  go_wp2_with fail
  go_loopw [3, 9] (fun v3 q wr => ∃ k : Nat, k ≤ xn ∧ q = .int .i64 k ∧ v3 = .int .i64 (manyB ((goesL L).take k) : Nat) ∧ Hid (Ext w5 wr)) (fun _ q _ => xn - (intOf q).toNat)
  case atStart => exact ⟨0, Nat.zero_le _, rfl, rfl, Lib.hid (Ext.rfl' _)⟩
  case round =>
    obtain ⟨k, hk, rfl, rfl, HX4⟩ := hrel
    by_cases hlt : (k : Int) < xn
    · obtain ⟨x, hx⟩ := at_of_lt (xs := goesL L) (k := k) (by have := hXN.out; omega)
      have ix := fun W => (HO.out.rd enc_bool).run_at (P := Try.prog) el_bool.under el_bool.size .i64 (k : Int) (by omega) (by omega) W
      have cx := ((HO.out.ext HX4.out).rd enc_bool).cell hx (j := 0) rfl
      simp only [Nat.mul_one, Nat.add_zero, Int.toNat_natCast] at ix cx
      have HTK := Lib.hid (manyB_take hx)
      have hml : manyB ((goesL L).take k) ≤ k := Nat.le_trans (manyB_le _) (by simp; omega)
      generalize manyB ((goesL L).take k) = m at HTK hml ⊢
      clear hx
      cases x
      all_goals
        go_wp2_with fail
        go_roundw
        case rel => exact ⟨k + 1, by omega, by go_num, by rw [HTK.out]; rfl, HX4⟩
        case measure => simp [intOf]; omega
    · have hfull : (goesL L).take k = goesL L := List.take_of_length_le (by have := hXN.out; omega)
      rw [hfull]
      clear hfull
      go_wp2_with fail
      go_returns
      exact ⟨rfl, HE.out.trans' HX4.out⟩
end Go.Proofs.Ytkogkcjiachphaa
