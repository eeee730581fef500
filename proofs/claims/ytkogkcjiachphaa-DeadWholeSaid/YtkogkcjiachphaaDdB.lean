/- hackleref20: Edits, Many; hackleref19: Same. -/
import Derived.Test.YtkogkcjiachphaaDdA
namespace Go.Proofs.Ytkogkcjiachphaa
open Go.RowKit
set_option linter.unusedVariables false
set_option linter.unusedSimpArgs false

theorem flat_field {α : Type} {sz : Nat} {enc : α → List Value} (E : ∀ x, (enc x).length = sz) {u : Value} {y : α} {j : Nat} (hj : j < sz) : ∀ (xs : List α) (i : Nat) (x : α), xs[i]? = some x → enc y = (enc x).set j u → (xs.set i y).flatMap enc = (xs.flatMap enc).set (i * sz + j) u
  | [], i, x, hx, _ => by simp at hx
  | z :: xs, 0, x, hx, hy => by
    simp at hx; subst hx
    rw [List.set_cons_zero, List.flatMap_cons, List.flatMap_cons, hy, List.set_append_left _ _ (by rw [E]; omega)]
    simp
  | z :: xs, i + 1, x, hx, hy => by
    rw [List.set_cons_succ, List.flatMap_cons, List.flatMap_cons, flat_field E hj xs i x (by simpa using hx) hy, List.set_append_right _ _ (by rw [E, Nat.add_mul]; omega), E]
    congr 2
    rw [Nat.add_mul]; omega
theorem flat_at {α : Type} {sz : Nat} {enc : α → List Value} {x0 : α} (E : (enc x0).length = sz) : ∀ (n j : Nat), ((List.replicate n x0).flatMap enc)[j]? = if j < n * sz then (enc x0)[j % sz]? else none
  | 0, j => by simp
  | n + 1, j => by
    rw [List.replicate_succ, List.flatMap_cons]
    by_cases h : j < sz
    · rw [List.getElem?_append_left (by omega), Nat.mod_eq_of_lt h, if_pos (by rw [Nat.add_mul]; omega)]
    · rw [List.getElem?_append_right (by omega), E, flat_at E n (j - sz), Nat.add_mul, ← Nat.mod_eq_sub_mod (by omega)]
      by_cases h2 : j < n * sz + 1 * sz
      · rw [if_pos h2, if_pos (by omega)]
      · rw [if_neg h2, if_neg (by omega)]
theorem made_flat {α : Type} {sz : Nat} {enc : α → List Value} {x0 : α} {z : Array Value} (hz : z.toList = enc x0) (E : (enc x0).length = sz) (hp : 0 < sz) (n : Nat) : madeCells z (n * sz) = ((List.replicate n x0).flatMap enc).toArray := by
  apply Array.toList_inj.1
  apply List.ext_getElem?
  intro j
  have hs : z.size = sz := by rw [← E, ← hz]; simp
  simp only []
  rw [flat_at E]
  by_cases h : j < n * sz
  · rw [if_pos h, ← hz]
    have hm : j % sz < z.size := by rw [hs]; exact Nat.mod_lt _ hp
    simp [madeCells, h, hs]
    rw [getElem!_pos z _ hm]
    simp [hm]
  · rw [if_neg h]
    simp [madeCells, h]
theorem run_make_ed (n : Nat) (hn : n ≤ 1000000) (u : World) : (Instr.makeSlice 44 (.int .i64 (n : Int)) (.int .i64 (n : Int))).run Try.prog u = .ok (.slice (some ⟨u.heap.size, 0, none⟩) n n) (u.alloc (.cells ((List.replicate n (edB false)).flatMap Ed.enc).toArray 80)) := by
  obtain ⟨i0, hi0, hz0, hz1, hz2⟩ := info_parts el_ed.info
  have h := run_make (P := Try.prog) u 44 80 i0 _ el_ed.under hi0 hz0 .i64 .i64 (n : Int) (n : Int) (by omega) (Int.le_refl _) (by rw [hz2]; omega) (by omega)
  have hm : madeCells (Value.agg #[.int .u8 0, .int .u8 0, .int .u8 0, .int .u8 0, .int .i16 0, .int .i32 0, .int .i64 0]).cells (n * 7) = ((List.replicate n (edB false)).flatMap Ed.enc).toArray := made_flat (x0 := edB false) (enc := Ed.enc) (sz := 7) rfl rfl (by decide) n
  rw [hz1, Int.toNat_natCast, hm] at h
  exact h
theorem own_ed_kind {w : World} {base : Nat} {v : Value} {E : List Ed} {k : Nat} {e : Ed} (h : Own w base 80 7 Ed.enc v E) (hx : E[k]? = some e) :
    w.cell? (elt v (k * 7)) = some (.int .u8 e.kind) ∧ w.frozen? (elt v (k * 7)) = false ∧ v.ownBlock = some (elt v (k * 7)).block ∧ (elt v (k * 7)).block < w.heap.size ∧
    ∀ y : Int, Own (w.setCell (elt v (k * 7)) (.int .u8 y)) base 80 7 Ed.enc v (E.set k { e with kind := y }) ∧ (∀ B W, Below B W w → B ≤ base → Below B W (w.setCell (elt v (k * 7)) (.int .u8 y))) := by
  have hlt := lt_at hx
  have hO := h
  have hc := (h.rd enc_ed).cell hx (j := 0) rfl
  rcases h.2 with ⟨_, hn⟩ | ⟨g, cap, cur, rfl, hb, hg, r⟩
  · omega
  · have hO' : w.ownsRow base 80 7 (.slice (some ⟨g, 0, none⟩) E.length cap) E.length (E.flatMap Ed.enc) := hO
    have he : elt (.slice (some ⟨g, 0, none⟩) E.length cap) (k * 7) = ⟨g, k * 7, none⟩ := by simp [elt, Addr.add_lit]
    rw [Nat.add_zero, he] at hc
    rw [he]
    refine ⟨hc, hO'.frozenAt (k * 7), rfl, (Array.getElem?_eq_some_iff.1 hg).1, fun y => ⟨?_, fun B W hB hle => hB.setCell (Nat.le_trans hle hb) _⟩⟩
    show World.ownsRow _ _ _ _ _ _ _
    have h2 := (hO'.stored (k * 7) (.int .u8 y)).1
    rw [List.length_set, flat_field enc_ed.len (j := 0) (u := .int .u8 y) (by decide) E k e hx rfl]
    exact h2
set_option maxRecDepth 20000 in
set_option maxHeartbeats 2000000 in
theorem s_dEdits (v : Value) (L : List Ins) (w : World) (h : Rd w 5 Ins.enc v L) (hl : L.length ≤ 1000000) (hok : InsOk L) : Calls Try.prog 45 #[v] w (OwnE (deadL L) w) := by
  obtain ⟨pa, n, pc, rfl, hpn, hPN⟩ := h.val
  have hk2 : n ≤ 1000000 := by rw [hPN.out]; exact hl
  have HD := Lib.hid h
  have HOK := Lib.hid hok
  have HL := Lib.hid hl
  have HN := Lib.hid hPN.out
  have hmk := run_make_ed n hk2
  clear h hok hl
  cases hp : progS L with
  | false =>
    have HP := Lib.hid hp
    have hgl : deadL L = [] := by unfold deadL goesL; rw [hp]; rfl
    rw [hgl]
    clear hp hgl
    go_enter Try.func45, Try.ntmps45
    go_wp2_with fail
    refine (r_Check _ L _ HD.out HL.out HOK.out).mono ?_
    rintro e w5 ⟨at_, er, rfl, her, hE⟩
    rw [HP.out] at her
    have hne : (er != 0) = true := by simpa using her
    have HE := Lib.hid hE
    clear hE her
    go_wp2_with fail
    go_returns
    exact ⟨_, rfl, Own.nil _ _ _ _ _, HE.out⟩
  | true =>
    have HP := Lib.hid hp
    have hgl : deadL L = (List.range n).map (fun i => edB (goesB L i)) := by
      unfold deadL goesL
      rw [hp, HN.out]
      simp only [if_true, List.map_map]
      rfl
    have HGL := Lib.hid hgl
    clear hp hgl
    go_enter Try.func45, Try.ntmps45
    go_wp2_with fail
    refine (r_Check _ L _ HD.out HL.out HOK.out).mono ?_
    rintro e w5 ⟨at_, er, rfl, her, hE⟩
    rw [HP.out] at her
    obtain rfl : er = 0 := by simpa using her
    have HE := Lib.hid hE
    clear hE her
    go_upto_region 4 with fail
    go_cut [5] from 17 to 20 (fun v5 wx => ∃ g, v5 = .slice (some ⟨g, 0, none⟩) n n ∧ w.heap.size ≤ g ∧ g < wx.heap.size ∧ Hid (Own wx w.heap.size 80 7 Ed.enc v5 (List.replicate n (edB false)) ∧ Ext w wx))
    case first =>
      go_wp2_with fail
      go_meet
      refine ⟨_, rfl, HE.out.size, by simp, Lib.hid ⟨?_, HE.out.alloc' _⟩⟩
      exact Own.lit enc_ed _ rfl (by simp) HE.out.size (by simp [maxLen]; omega)
    case rest =>
      obtain ⟨g, rfl, hg1, hg2, HI⟩ := hcut
      have HO4 := Lib.hid HI.out.1
      have HE4 := Lib.hid HI.out.2
      clear HI hmk HE
      go_wp2_with fail
      refine (r_Starts _ L _ (HD.out.ext HE4.out) HL.out).mono ?_
      rintro e w6 ⟨s, rfl, hO, hE6⟩
      obtain ⟨sa, sn, sc, hsv, hsn, hSN⟩ := (hO.rd enc_bool).val
      subst hsv
      obtain rfl : n = sn := by rw [hSN.out, stF_length, HN.out]
      have HS := Lib.hid hO
      have HO6 := Lib.hid (HO4.out.ext hE6)
      have HE6 := Lib.hid (HE4.out.trans' hE6)
      have hz6 := hE6.size
      clear hO hE6 HO4 HE4
      go_wp2_with fail
      refine (r16_Reach _ L 0 _ (HD.out.ext HE6.out) HL.out HOK.out).mono ?_
      rintro e w7 ⟨vr, rfl, hO, hE7⟩
      obtain ⟨ra, rn, rc, hrv, hrn, hRN⟩ := (hO.rd enc_bool).val
      subst hrv
      obtain rfl : n = rn := by rw [hRN.out, reachL_length HP.out, HN.out]
      have HRo := Lib.hid hO
      have HS7 := Lib.hid (HS.out.ext hE7)
      have HO7 := Lib.hid (HO6.out.ext hE7)
      have HE7 := Lib.hid (HE6.out.trans' hE7)
      have hz7 := hE7.size
      clear hO hE7 HS HE6 HO6
      go_wp2_with fail
      refine (s_Idle _ L _ (HD.out.ext HE7.out) HL.out HOK.out).mono ?_
      rintro e w8 ⟨vi, rfl, hO, hE8⟩
      obtain ⟨ia, im, ic, hiv, him, hIN⟩ := (hO.rd enc_bool).val
      subst hiv
      obtain rfl : n = im := by rw [hIN.out, idleL_length HP.out, HN.out]
      have HI := Lib.hid hO
      have HR := Lib.hid (HRo.out.ext hE8)
      have HS8 := Lib.hid (HS7.out.ext hE8)
      have HO8 := Lib.hid (HO7.out.ext hE8)
      have HE8 := Lib.hid (HE7.out.trans' hE8)
      clear hO hE8 HRo HS7 HE7 HO7
      have HKI : Hid (∀ j, (Value.slice ia n ic).ownBlock = some j → j ∉ [g]) := Lib.hid (fun j hj hm => by
        have h1 := (HI.out.lt hj).1
        simp at hm
        omega)
      have HKR : Hid (∀ j, (Value.slice ra n rc).ownBlock = some j → j ∉ [g]) := Lib.hid (fun j hj hm => by
        have h1 := (HR.out.lt hj).1
        simp at hm
        omega)
      have HKS : Hid (∀ j, (Value.slice sa n sc).ownBlock = some j → j ∉ [g]) := Lib.hid (fun j hj hm => by
        have h1 := (HS8.out.lt hj).1
        simp at hm
        omega)
      go_wp2_with fail
      go_loopw [9] (fun q wr => ∃ k : Nat, k ≤ n ∧ q = .int .i64 k ∧ Hid (∃ M, Own wr w.heap.size 80 7 Ed.enc (.slice (some ⟨g, 0, none⟩) n n) M ∧ Keep [g] w8 wr ∧ M.length = n ∧ (∀ i, i < k → M[i]? = some (edB (goesB L i))) ∧ (∀ i, k ≤ i → i < n → M[i]? = some (edB false)))) (fun q _ => n - (intOf q).toNat)
      case atStart => exact ⟨0, Nat.zero_le _, rfl, Lib.hid ⟨_, HO8.out, Keep.rfl' _ _, by simp, fun i hi => absurd hi (Nat.not_lt_zero _), fun i _ hi => by rw [List.getElem?_replicate, if_pos hi]⟩⟩
      case round =>
        obtain ⟨k, hk, rfl, HI2⟩ := hrel
        obtain ⟨M, hO, hK, hl, hM, hM2⟩ := HI2.out
        have HO1 := Lib.hid hO
        have HK1 := Lib.hid hK
        have HM1 := Lib.hid hM
        have HM2 := Lib.hid hM2
        have HL1 := Lib.hid hl
        clear hO hK hM hM2 hl HI2
        by_cases hlt : (k : Int) < n
        · obtain ⟨s0, hs0⟩ := at_of_lt (xs := stF false L) (k := k) (by rw [stF_length, ← HN.out]; omega)
          obtain ⟨i0, hi0⟩ := at_of_lt (xs := idleL L) (k := k) (by have := hIN.out; omega)
          obtain ⟨r0, hr0⟩ := at_of_lt (xs := reachL L 0) (k := k) (by have := hRN.out; omega)
          have hm0 : M[k]? = some (edB false) := HM2.out k (Nat.le_refl _) (by omega)
          have HGK := Lib.hid (goes_at hs0 hi0 hr0)
          have ixs := fun W => (HS8.out.rd enc_bool).run_at (P := Try.prog) el_bool.under el_bool.size .i64 (k : Int) (by omega) (by omega) W
          have ixi := fun W => (HI.out.rd enc_bool).run_at (P := Try.prog) el_bool.under el_bool.size .i64 (k : Int) (by omega) (by omega) W
          have ixr := fun W => (HR.out.rd enc_bool).run_at (P := Try.prog) el_bool.under el_bool.size .i64 (k : Int) (by omega) (by omega) W
          have ixe := fun W => (HO1.out.rd enc_ed).run_at (P := Try.prog) el_ed.under el_ed.size .i64 (k : Int) (by omega) (by omega) W
          have ci := ((HI.out.keep HK1.out HKI.out).rd enc_bool).cell hi0 (j := 0) rfl
          have cr := ((HR.out.keep HK1.out HKR.out).rd enc_bool).cell hr0 (j := 0) rfl
          have cs := ((HS8.out.keep HK1.out HKS.out).rd enc_bool).cell hs0 (j := 0) rfl
          simp only [Nat.mul_one, Nat.add_zero, Int.toNat_natCast] at ixs ixi ixr ixe ci cr cs
          obtain ⟨e1, e2, e3, e4, e5⟩ := own_ed_kind HO1.out hm0
          have HO2 := Lib.hid (e5 1).1
          have HK2 : Hid (Keep [g] w8 (wr.setCell (elt (.slice (some ⟨g, 0, none⟩) n n) (k * 7)) (.int .u8 1))) := Lib.hid (HK1.out.setCell (by rw [elt_block]; simp) _)
          have HMS : Hid (∀ i, i < k + 1 → (M.set k (edB (goesB L k)))[i]? = some (edB (goesB L i))) := Lib.hid (fun i hi => by
            by_cases e : i = k
            · subst e; rw [List.getElem?_set_self (by have := HL1.out; omega)]
            · rw [List.getElem?_set_ne (Ne.symm e)]; exact HM1.out i (by omega))
          have HMS2 : Hid (∀ i, k + 1 ≤ i → i < n → (M.set k (edB (goesB L k)))[i]? = some (edB false)) := Lib.hid (fun i hi hin => by
            rw [List.getElem?_set_ne (by omega)]; exact HM2.out i (by omega) hin)
          have HSAME : Hid (M.set k (edB false) = M) := Lib.hid (by
            apply List.ext_getElem?
            intro i
            by_cases e : k = i
            · subst e; rw [List.getElem?_set_self (lt_at hm0), hm0]
            · rw [List.getElem?_set_ne e])
          rw [HGK.out] at HMS HMS2
          clear e5 e3 hs0 hi0 hr0 hm0 HM1 HM2
          cases s0 <;> cases i0 <;> cases r0
          all_goals
            simp only [Bool.false_and, Bool.true_and, Bool.or_true, Bool.true_or, Bool.or_false, Bool.false_or, Bool.not_true, Bool.not_false] at HMS HMS2
            go_wp2_with fail
            go_roundw
            case rel =>
              first
                | exact ⟨k + 1, by omega, by go_num, Lib.hid ⟨M.set k (edB true), HO2.out, HK2.out, by simpa using HL1.out, HMS.out, HMS2.out⟩⟩
                | exact ⟨k + 1, by omega, by go_num, Lib.hid ⟨M, HO1.out, HK1.out, HL1.out, by rw [HSAME.out] at HMS; exact HMS.out, by rw [HSAME.out] at HMS2; exact HMS2.out⟩⟩
            case measure => simp [intOf]; omega
        · have HEQ : Hid (M = (List.range n).map (fun i => edB (goesB L i))) := Lib.hid (by
            apply List.ext_getElem?
            intro i
            by_cases hi : i < n
            · rw [HM1.out i (by omega)]
              simp only [List.getElem?_map, List.getElem?_range hi, Option.map_some]
            · rw [List.getElem?_eq_none (by have := HL1.out; omega), List.getElem?_eq_none (by simp; omega)])
          have HEE := Lib.hid (HK1.out.below HE8.out HE8.out.size (by simpa using hg1))
          go_wp2_with fail
          go_returns
          exact ⟨_, rfl, by rw [HGL.out, ← HEQ.out]; exact HO1.out, HEE.out⟩
theorem deadL_length (L : List Ins) : (deadL L).length = (goesL L).length := by unfold deadL; simp
set_option maxRecDepth 20000 in
set_option maxHeartbeats 2000000 in
theorem s_dMany (v : Value) (L : List Ins) (w : World) (h : Rd w 5 Ins.enc v L) (hl : L.length ≤ 1000000) (hok : InsOk L) : Calls Try.prog 47 #[v] w fun e w' => e = .returned (.int .i64 (manyB (goesL L) : Nat)) ∧ Ext w w' := by
  obtain ⟨pa, n, pc, rfl, hpn, hPN⟩ := h.val
  have HD := Lib.hid h
  have HOK := Lib.hid hok
  have HL := Lib.hid hl
  have hgl := goesL_le hl
  clear h hok hl
  go_enter Try.func47, Try.ntmps47
  go_wp2_with fail
  refine (s_dEdits _ L _ HD.out HL.out HOK.out).mono ?_
  rintro e w5 ⟨v5, rfl, hO, hE⟩
  obtain ⟨xa, xn, xc, hxv, hxn, hXN⟩ := (hO.rd enc_ed).val
  subst hxv
  have hx1 : xn = (goesL L).length := by rw [hXN.out, deadL_length]
  have hx2 : xn ≤ 1000000 := by omega
  have HX1 := Lib.hid hx1
  have HO := Lib.hid hO
  have HE := Lib.hid hE
  clear hO hE hgl hx1
  go_wp2_with fail
  go_loopw [3, 5] (fun v3 q wr => ∃ k : Nat, k ≤ xn ∧ q = .int .i64 k ∧ v3 = .int .i64 (manyB ((goesL L).take k) : Nat) ∧ Hid (Ext w5 wr)) (fun _ q _ => xn - (intOf q).toNat)
  case atStart => exact ⟨0, Nat.zero_le _, rfl, rfl, Lib.hid (Ext.rfl' _)⟩
  case round =>
    obtain ⟨k, hk, rfl, rfl, HX4⟩ := hrel
    by_cases hlt : (k : Int) < xn
    · obtain ⟨x, hx⟩ := at_of_lt (xs := goesL L) (k := k) (by have := HX1.out; omega)
      have hd : (deadL L)[k]? = some (edB x) := by unfold deadL; rw [List.getElem?_map, hx]; rfl
      have ix := fun W => (HO.out.rd enc_ed).run_at (P := Try.prog) el_ed.under el_ed.size .i64 (k : Int) (by omega) (by omega) W
      have cx := (ed_cells ((HO.out.ext HX4.out).rd enc_ed) hd).1
      simp only [Int.toNat_natCast] at ix
      have HTK := Lib.hid (manyB_take hx)
      have hml : manyB ((goesL L).take k) ≤ k := Nat.le_trans (manyB_le _) (by simp; omega)
      generalize manyB ((goesL L).take k) = m at HTK hml ⊢
      clear hx hd
      cases x
      · have cx : wr.cell? (elt (.slice xa xn xc) (k * 7)) = some (.int .u8 0) := cx
        go_wp2_with fail
        go_roundw
        case rel => exact ⟨k + 1, by omega, by go_num, by rw [HTK.out]; rfl, HX4⟩
        case measure => simp [intOf]; omega
      · have cx : wr.cell? (elt (.slice xa xn xc) (k * 7)) = some (.int .u8 1) := cx
        go_wp2_with fail
        go_roundw
        case rel => exact ⟨k + 1, by omega, by go_num, by rw [HTK.out]; rfl, HX4⟩
        case measure => simp [intOf]; omega
    · have hfull : (goesL L).take k = goesL L := List.take_of_length_le (by have := HX1.out; omega)
      rw [hfull]
      clear hfull
      go_wp2_with fail
      go_returns
      exact ⟨rfl, HE.out.trans' HX4.out⟩
set_option maxRecDepth 20000 in
set_option maxHeartbeats 2000000 in
theorem p_same (v1 v2 : Value) (E : List Ed) (w : World) (h1 : Rd w 7 Ed.enc v1 E) (h2 : Rd w 7 Ed.enc v2 E) : Calls Try.prog 43 #[v1, v2] w fun e w' => e = .returned (.bool true) ∧ Ext w w' := by
  obtain ⟨a1, n1, c1, rfl, hn1, hN1⟩ := h1.val
  obtain ⟨a2, n2, c2, rfl, hn2, hN2⟩ := h2.val
  have H1 := Lib.hid h1
  have H2 := Lib.hid h2
  obtain rfl : n1 = n2 := by rw [hN1.out, hN2.out]
  have hb : ((n1 : Int) != n1) = false := by simp
  clear h1 h2
  go_enter Try.func43, Try.ntmps43
  go_wp2_with fail
  go_loopw [5] (fun q wr => ∃ k : Nat, k ≤ n1 ∧ q = .int .i64 k ∧ Hid (Ext w wr)) (fun q _ => n1 - (intOf q).toNat)
  case atStart => exact ⟨0, Nat.zero_le _, rfl, Lib.hid (Ext.rfl' _)⟩
  case round =>
    obtain ⟨k, hk, rfl, HI⟩ := hrel
    by_cases hlt : (k : Int) < n1
    · obtain ⟨x, hx⟩ := at_of_lt (xs := E) (k := k) (by have := hN1.out; omega)
      have ix := fun W => H1.out.run_at (P := Try.prog) el_ed.under el_ed.size .i64 (k : Int) (by omega) (by omega) W
      have iy := fun W => H2.out.run_at (P := Try.prog) el_ed.under el_ed.size .i64 (k : Int) (by omega) (by omega) W
      obtain ⟨a0, a1', a2', a3, a4, a5, a6⟩ := ed_cells (H1.out.ext HI.out) hx
      obtain ⟨b0, b1, b2, b3, b4, b5, b6⟩ := ed_cells (H2.out.ext HI.out) hx
      simp only [Int.toNat_natCast] at ix iy
      clear hx
      go_wp2_with fail
      go_quiet (fail)
      go_wp2_with fail
      go_roundw
      case rel => exact ⟨k + 1, by omega, by go_num, Lib.hid (by have := HI.out; (repeat (first | exact Ext.rfl' _ | assumption | refine Ext.drewN' ?_ _ | refine Ext.drew' ?_ | refine Ext.alloc' ?_ _ | refine Ext.trans' ?_ (by assumption))))⟩
      case measure => simp [intOf]; omega
    · go_wp2_with fail
      go_returns
      exact ⟨rfl, HI.out⟩
end Go.Proofs.Ytkogkcjiachphaa
