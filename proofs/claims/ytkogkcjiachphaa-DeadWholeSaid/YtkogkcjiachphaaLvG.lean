/- hackleref17: behind, Ahead, Behind. · live: Ahead, Behind, Idle; hackleref17: Idle. · hacklelaw17: sets, few, shown. -/
import Derived.Test.YtkogkcjiachphaaLvE
import Derived.Test.YtkogkcjiachphaaLvL
import Derived.Deep.LoopGhost
import Derived.Deep.CutBlock
import Derived.BigRegion
import Derived.Test.YtkogkcjiachphaaLvF
namespace Go.Proofs.Ytkogkcjiachphaa
open Go.RowKit
set_option linter.unusedVariables false
set_option linter.unusedSimpArgs false

theorem ahN_at {L : List Ins} {i k : Nat} {t : Int} (h : (ahN L i)[k]? = some t) : 0 ≤ t ∧ t < (L.length : Int) := by
  have := ahN_in (List.mem_of_getElem? h)
  exact ⟨this.1, this.2.1⟩
set_option maxRecDepth 20000 in
set_option maxHeartbeats 2000000 in
theorem s_behind (v va : Value) (L : List Ins) (i : Nat) (a : List Nat) (w : World) (h : Rd w 5 Ins.enc v L) (ha : Rd w 1 encN va a) (hl : L.length ≤ 1000000) (hok : InsOk L) (hlen : a.length = L.length) (hlt : ∀ i x : Nat, a[i]? = some x → x < 65536) :
    Calls Try.prog 77 #[v, .int .i64 i, va] w fun e w' => e = .returned (.int .u16 ((orL a (ahN L i) : Nat) : Int)) ∧ Ext w w' := by
  obtain ⟨pa, pn, pc, rfl, hpn, hPN⟩ := h.val
  obtain ⟨aa, an, ac, rfl, han, hAN⟩ := ha.val
  have HD := Lib.hid h
  have HA := Lib.hid ha
  have HOK := Lib.hid hok
  have HL := Lib.hid hl
  have HLEN := Lib.hid hlen
  have HLT := Lib.hid hlt
  clear h ha hok hl hlen hlt
  go_enter Try.func77, Try.ntmps77
  go_wp2_with fail
  refine (r16_Ahead _ L i _ HD.out HL.out HOK.out).mono ?_
  rintro e w5 ⟨v5, rfl, hO5, hE5⟩
  obtain ⟨xa, xn, xc, hxv, hxn, hXN⟩ := (hO5.rd (enc_int .i64)).val
  subst hxv
  have HO5 := Lib.hid hO5
  have HE5 := Lib.hid hE5
  have HX : Hid (aheadV L i = ahN L i) := Lib.hid rfl
  rw [HX.out] at HO5 hXN
  have hx3 := ahN_le L i
  have hx4 : xn ≤ 3 := by rw [hXN.out]; exact hx3
  clear hO5 hE5 hx3
  go_wp2_with fail
  go_loopw [7, 9] (fun v7 q wr => ∃ k : Nat, k ≤ xn ∧ q = .int .i64 k ∧ v7 = .int .u16 ((orL a ((ahN L i).take k) : Nat) : Int) ∧ Hid (Ext w5 wr)) (fun _ q _ => xn - (intOf q).toNat)
  case atStart => exact ⟨0, Nat.zero_le _, rfl, rfl, Lib.hid (Ext.rfl' _)⟩
  case round =>
    obtain ⟨k, hk, rfl, rfl, HE⟩ := hrel
    by_cases hkx : (k : Int) < xn
    · obtain ⟨t, ht⟩ := at_of_lt (xs := ahN L i) (k := k) (by have := hXN.out; omega)
      obtain ⟨t0, t1⟩ := ahN_at ht
      have t2 : t < an := by have := hAN.out; have := HLEN.out; omega
      obtain ⟨y, hy⟩ := at_of_lt (xs := a) (k := t.toNat) (by have := hAN.out; omega)
      have ix := fun W => (HO5.out.rd (enc_int .i64)).run_at (P := Try.prog) el_int.under el_int.size .i64 (k : Int) (by omega) (by omega) W
      have cx := ((HO5.out.ext HE.out).rd (enc_int .i64)).cell ht (j := 0) rfl
      have iy := fun W => HA.out.run_at (P := Try.prog) el_u16.under el_u16.size .i64 t (by omega) (by omega) W
      have cy := (HA.out.ext (HE5.out.trans' HE.out)).cell hy (j := 0) rfl
      simp only [Nat.mul_one, Nat.add_zero, Int.toNat_natCast] at ix cx iy cy
      have hor : bits .or .u16 ((orL a ((ahN L i).take k) : Nat) : Int) (y : Int) = ((orL a ((ahN L i).take (k + 1)) : Nat) : Int) := by
        rw [or_u16 (orL_lt HLT.out _) (HLT.out _ _ hy), orL_take ht hy]
      clear ht hy
      go_wp2_with fail
      go_roundw
      case rel => exact ⟨k + 1, by omega, by go_num, rfl, HE⟩
      case measure => simp [intOf]; omega
    · have hfull : (ahN L i).take k = ahN L i := List.take_of_length_le (by have := hXN.out; omega)
      rw [hfull]
      clear hfull
      go_wp2_with fail
      go_returns
      exact ⟨rfl, HE5.out.trans' HE.out⟩
def OwnN (xs : List Nat) (w : World) (e : Ending) (w' : World) : Prop := ∃ v, e = .returned v ∧ Own w' w.heap.size 38 1 encN v xs ∧ Ext w w'
theorem live_pinv {L : List Ins} (hp : progS L = true) (hok : InsOk L) {a : List Nat} (h : PInv (rdN L) (wrN L) (ahN L) L.length a) (he : ∀ j x : Nat, j < L.length → a[j]? = some x → x = stepA (rdN L) (wrN L) (ahN L) a j) : a = liveA L := by
  unfold liveA
  rw [hp]
  exact h.done (rdN_lt hok) (wrN_lt hok) (fun i t ht => by have := (ahN_in ht).2.1; omega) (fun i hi => rdN_not (begins_out hi)) (fun i hi => ahN_not (begins_out hi)) he
set_option maxRecDepth 20000 in
set_option maxHeartbeats 4000000 in
theorem s_Ahead (v : Value) (L : List Ins) (w : World) (h : Rd w 5 Ins.enc v L) (hl : L.length ≤ 1000000) (hok : InsOk L) : Calls Try.prog 38 #[v] w (OwnN (liveA L) w) := by
  obtain ⟨pa, n, pc, rfl, hpn, hPN⟩ := h.val
  have hk2 : n ≤ 1000000 := by rw [hPN.out]; exact hl
  have HD := Lib.hid h
  have HOK := Lib.hid hok
  have HL := Lib.hid hl
  have HN := Lib.hid hPN.out
  have hmk := run_make_u16 n hk2
  clear h hok hl
  cases hb : progS L with
  | false =>
    have HB := Lib.hid hb
    clear hb hmk
    go_enter Try.func38, Try.ntmps38
    go_wp2_with fail
    refine (r_Check _ L _ HD.out HL.out HOK.out).mono ?_
    rintro e w5 ⟨at_, er, rfl, her, hE⟩
    rw [HB.out] at her
    have hne : (er != 0) = true := by simpa using her
    have HE := Lib.hid hE
    clear hE her
    go_wp2_with fail
    go_returns
    exact ⟨_, rfl, by rw [liveA_none HB.out]; exact Own.nil _ _ _ _ _, HE.out⟩
  | true =>
    have HB := Lib.hid hb
    have HW := Lib.hid (fun i => wrN_lt HOK.out i)
    have HR := Lib.hid (fun i => rdN_lt HOK.out i)
    have HA0 : Hid (∀ i, ∀ t ∈ ahN L i, 0 ≤ t) := Lib.hid (fun i t ht => (ahN_in ht).1)
    clear hb
    go_enter Try.func38, Try.ntmps38
    go_wp2_with fail
    refine (r_Check _ L _ HD.out HL.out HOK.out).mono ?_
    rintro e w5 ⟨at_, er, rfl, her, hE⟩
    rw [HB.out] at her
    obtain rfl : er = 0 := by simpa using her
    have HE := Lib.hid hE
    clear hE her
    go_upto_region 4 with fail
    go_cut [5] from 16 to 19 (fun v5 wx => ∃ g, v5 = .slice (some ⟨g, 0, none⟩) n n ∧ Hid (Own wx w.heap.size 38 1 encN v5 (List.replicate n 0) ∧ Ext w wx))
    case first =>
      go_wp2_with fail
      go_meet
      exact ⟨_, rfl, Lib.hid ⟨own_made_u16 _ _ hk2 _ HE.out.size, HE.out.alloc' _⟩⟩
    case rest =>
      obtain ⟨g, rfl, HO⟩ := hcut
      have HO4 := Lib.hid HO.out.1
      have HX4 := Lib.hid HO.out.2
      clear HO hmk
      go_wp2_with fail
      go_loopg [6] (n * 65536 + 1) (fun gk s6 wr => ∃ cc : Bool, s6 = .bool cc ∧ Hid (∃ a, Own wr w.heap.size 38 1 encN (.slice (some ⟨g, 0, none⟩) n n) a ∧ Ext w wr ∧ PInv (rdN L) (wrN L) (ahN L) n a ∧ (cc = false → ∀ j x : Nat, j < n → a[j]? = some x → x = stepA (rdN L) (wrN L) (ahN L) a j) ∧ room a + (if cc then 1 else 0) ≤ gk))
      case atStart => exact ⟨true, rfl, Lib.hid ⟨_, HO4.out, HX4.out, PInv.start n, (fun h => by cases h), by have := room_le (List.replicate n 0); simp at this ⊢; omega⟩⟩
      case round =>
        obtain ⟨cc, rfl, HI⟩ := hrel
        obtain ⟨a, hO, hX, hP, hC, hU⟩ := HI.out
        have HO1 := Lib.hid hO
        have HX1 := Lib.hid hX
        have HP1 := Lib.hid hP
        have HC1 := Lib.hid hC
        have HU1 := Lib.hid hU
        clear hO hX hP hC hU HI
        cases cc with
        | false =>
          have HEQ : Hid (a = liveA L) := Lib.hid (live_pinv HB.out HOK.out (by rw [← HN.out]; exact HP1.out) (by rw [← HN.out]; exact HC1.out rfl))
          go_wp2_with fail
          go_returns
          exact ⟨_, rfl, by rw [← HEQ.out]; exact HO1.out, HX1.out⟩
        | true =>
          go_wp2_with fail
          go_loopw [6, 7] (fun s6 s7 wr2 => ∃ (i : Nat) (c3 : Bool), i ≤ n ∧ s7 = .int .i64 ((i : Int) - 1) ∧ s6 = .bool c3 ∧ Hid (∃ a, Own wr2 w.heap.size 38 1 encN (.slice (some ⟨g, 0, none⟩) n n) a ∧ Ext w wr2 ∧ PInv (rdN L) (wrN L) (ahN L) n a ∧ midP (rdN L) (wrN L) (ahN L) a n i c3 (gk - 1))) (fun _ s7 _ => (intOf s7 + 1).toNat)
          case atStart => exact ⟨n, false, Nat.le_refl _, rfl, rfl, Lib.hid ⟨a, HO1.out, HX1.out, HP1.out, fun _ j x hj hjn => absurd hjn (by omega), by have := HU1.out; simp at this ⊢; omega⟩⟩
          case round =>
            obtain ⟨i, c3, hi, rfl, rfl, HI⟩ := hrel
            obtain ⟨a2, hO, hX, hP, hM⟩ := HI.out
            have HO2 := Lib.hid hO
            have HX2 := Lib.hid hX
            have HP2 := Lib.hid hP
            have HM2 := Lib.hid hM
            clear hO hX hP hM HI
            cases i with
            | zero =>
              have hneg : ((0 : Nat) : Int) - 1 = -1 := rfl
              simp only [hneg]
              go_wp2_with fail
              go_roundg (gk - 1)
              case measure => have := HU1.out; simp at this; omega
              case rel => exact ⟨c3, rfl, Lib.hid ⟨a2, HO2.out, HX2.out, HP2.out, fun hc j x hj hx => HM2.out.1 hc j x (Nat.zero_le _) hj hx, HM2.out.2⟩⟩
            | succ k =>
              have hpos : ((k + 1 : Nat) : Int) - 1 = (k : Int) := by omega
              simp only [hpos]
              obtain ⟨x, hx⟩ := at_of_lt (xs := a2) (k := k) (by rw [HP2.out.len]; omega)
              have HSt : Hid (PInv (rdN L) (wrN L) (ahN L) n (a2.set k (stepA (rdN L) (wrN L) (ahN L) a2 k))) := Lib.hid (HP2.out.step HR.out HW.out HA0.out hx)
              have HMs := Lib.hid (HM2.out.step HR.out HW.out HP2.out hx)
              have HXX := Lib.hid hx
              clear hx
              go_wp2_with fail
              refine (s_Reads _ L k _ (HD.out.ext HX2.out) HL.out HOK.out).mono ?_
              rintro e w6 ⟨rfl, hE6⟩
              have HX6 := Lib.hid (HX2.out.trans' hE6)
              have HO6 := Lib.hid (HO2.out.ext hE6)
              clear hE6
              go_wp2_with fail
              refine (s_behind _ _ L k a2 _ (HD.out.ext HX6.out) (HO6.out.rd enc_nat) HL.out HOK.out (by rw [HP2.out.len, HN.out]) (fun i x hx => HP2.out.lt HR.out hx)).mono ?_
              rintro e w7 ⟨rfl, hE7⟩
              have HX7 := Lib.hid (HX6.out.trans' hE7)
              have HO7 := Lib.hid (HO6.out.ext hE7)
              clear hE7
              go_wp2_with fail
              refine (s_Writes _ L k _ (HD.out.ext HX7.out) HL.out HOK.out).mono ?_
              rintro e w8 ⟨rfl, hE8⟩
              have HX8 := Lib.hid (HX7.out.trans' hE8)
              have HO8 := Lib.hid (HO7.out.ext hE8)
              clear hE8
              have hst : bits .or .u16 ((atS readsS L k : Nat) : Int) (bits .andNot .u16 ((orL a2 (ahN L k) : Nat) : Int) ((atS writesS L k : Nat) : Int)) = ((stepA (rdN L) (wrN L) (ahN L) a2 k : Nat) : Int) :=
                step_u16 (HR.out k) (orL_lt (fun i x hx => HP2.out.lt HR.out hx) _) (HW.out k)
              obtain ⟨S, hS⟩ : ∃ S, stepA (rdN L) (wrN L) (ahN L) a2 k = S := ⟨_, rfl⟩
              rw [hS] at hst HSt HMs
              obtain ⟨e1, e2, e3, e4, e5⟩ := own_nat_at HO8.out HXX.out
              have ix := fun W => (HO8.out.rd enc_nat).run_at (P := Try.prog) el_u16.under el_u16.size .i64 (k : Int) (by omega) (by omega) W
              simp only [Nat.mul_one, Nat.add_zero, Int.toNat_natCast] at ix
              have HO9 := Lib.hid (e5 S)
              clear e5 e3 hS
              have HBQ : Hid (((S : Int) != (x : Int)) = decide (S ≠ x)) := Lib.hid (by
                by_cases e : S = x
                · subst e; simp
                · have : ((S : Int) == (x : Int)) = false := by simp; omega
                  simp [bne, this, e])
              cases c3 with
              | false =>
                go_wp2_with fail
                go_roundw
                case rel => exact ⟨k, _, by omega, by go_num, by rw [HBQ.out]; rfl, Lib.hid ⟨_, HO9.out.1, HO9.out.2 _ _ HX8.out (Nat.le_refl _), HSt.out, HMs.out⟩⟩
                case measure => simp [intOf]
              | true =>
                go_wp2_with fail
                go_roundw
                case rel => exact ⟨k, true, by omega, by go_num, rfl, Lib.hid ⟨_, HO9.out.1, HO9.out.2 _ _ HX8.out (Nat.le_refl _), HSt.out, HMs.out⟩⟩
                case measure => simp [intOf]
theorem live_behind {L : List Ins} (hp : progS L = true) (hok : InsOk L) (i : Nat) : orL (liveA L) (ahN L i) = bitsOf (fun r => NeedB (rdN L) (wrN L) (ahN L) r i) := by
  have h : liveA L = (List.range L.length).map (fun i => bitsOf (fun r => Need (rdN L) (wrN L) (ahN L) r i)) := by unfold liveA; rw [hp]; rfl
  exact behind_or (n := L.length) (rdN_lt hok) (fun i t ht => ⟨(ahN_in ht).1, (ahN_in ht).2.1⟩) h i
theorem liveA_lt {L : List Ins} {i x : Nat} (h : (liveA L)[i]? = some x) : x < 65536 := by
  unfold liveA at h
  split at h
  · obtain ⟨k, _, rfl⟩ := List.mem_map.1 (List.mem_of_getElem? h)
    exact bitsOf_lt _
  · simp at h
theorem liveB_lt {L : List Ins} {i x : Nat} (h : (liveB L)[i]? = some x) : x < 65536 := by
  unfold liveB at h
  split at h
  · obtain ⟨k, _, rfl⟩ := List.mem_map.1 (List.mem_of_getElem? h)
    exact bitsOf_lt _
  · simp at h
theorem liveA_length {L : List Ins} (hp : progS L = true) : (liveA L).length = L.length := by unfold liveA; rw [hp]; simp
theorem liveB_length {L : List Ins} (hp : progS L = true) : (liveB L).length = L.length := by unfold liveB; rw [hp]; simp
theorem liveB_or {L : List Ins} (hp : progS L = true) (hok : InsOk L) : liveB L = (List.range L.length).map (fun i => orL (liveA L) (ahN L i)) := by
  unfold liveB
  rw [hp]
  simp only [if_true]
  exact List.map_congr_left (fun i _ => (live_behind hp hok i).symm)
theorem rd_one16 (w : World) (y : Nat) : Rd (w.alloc (.cells #[.int .u16 (y : Int)] 38)) 1 encN (.slice (some ⟨w.heap.size, 0, none⟩) 1 1) [y] :=
  (Own.lit enc_nat (base := 0) (w := w) [y] rfl rfl (Nat.zero_le _) (by simp [maxLen])).rd enc_nat
set_option maxRecDepth 20000 in
set_option maxHeartbeats 2000000 in
theorem s_Behind (v : Value) (L : List Ins) (w : World) (h : Rd w 5 Ins.enc v L) (hl : L.length ≤ 1000000) (hok : InsOk L) : Calls Try.prog 40 #[v] w (OwnN (liveB L) w) := by
  obtain ⟨pa, n, pc, rfl, hpn, hPN⟩ := h.val
  have hk2 : n ≤ 1000000 := by rw [hPN.out]; exact hl
  have HD := Lib.hid h
  have HOK := Lib.hid hok
  have HL := Lib.hid hl
  have HN := Lib.hid hPN.out
  clear h hok hl
  go_enter Try.func40, Try.ntmps40
  go_wp2_with fail
  refine (s_Ahead _ L _ HD.out HL.out HOK.out).mono ?_
  rintro e w5 ⟨v5, rfl, hO, hE⟩
  obtain ⟨xa, xn, xc, hxv, hxn, hXN⟩ := (hO.rd enc_nat).val
  subst hxv
  have HO := Lib.hid hO
  have HE := Lib.hid hE
  clear hO hE
  cases hb : progS L with
  | false =>
    have HB := Lib.hid hb
    obtain rfl : xn = 0 := by rw [hXN.out, liveA_none hb]; rfl
    clear hb
    go_wp2_with fail
    go_loopw [4, 5] (fun v4 q wr => q = .int .i64 0 ∧ v4 = .slice none 0 0 ∧ Hid (Ext w5 wr)) (fun _ _ _ => 0)
    case atStart => exact ⟨rfl, rfl, Lib.hid (Ext.rfl' _)⟩
    case round =>
      obtain ⟨rfl, rfl, HX⟩ := hrel
      go_wp2_with fail
      go_returns
      exact ⟨_, rfl, by rw [liveB_none HB.out]; exact Own.nil _ _ _ _ _, HE.out.trans' HX.out⟩
  | true =>
    have HB := Lib.hid hb
    have hxe : xn = n := by rw [hXN.out, liveA_length hb, HN.out]
    subst hxe
    clear hb
    go_wp2_with fail
    go_loopw [4, 5] (fun v4 q wr => ∃ k : Nat, k ≤ xn ∧ q = .int .i64 k ∧ ∃ ta tn tc, v4 = .slice ta tn tc ∧ Hid (Own wr w5.heap.size 38 1 encN v4 ((List.range k).map (fun i => orL (liveA L) (ahN L i))) ∧ Ext w5 wr)) (fun _ q _ => xn - (intOf q).toNat)
    case atStart => exact ⟨0, Nat.zero_le _, rfl, _, _, _, rfl, Lib.hid ⟨Own.nil _ _ _ _ _, Ext.rfl' _⟩⟩
    case round =>
      obtain ⟨k, hk, rfl, ta, tn, tc, rfl, HI⟩ := hrel
      have HO4 := Lib.hid HI.out.1
      have HX4 := Lib.hid HI.out.2
      clear HI
      by_cases hlt : (k : Int) < xn
      · go_wp2_with fail
        refine (s_behind _ _ L k (liveA L) _ (HD.out.ext (HE.out.trans' HX4.out)) ((HO.out.ext HX4.out).rd enc_nat) HL.out HOK.out (liveA_length HB.out) (fun i x hx => liveA_lt hx)).mono ?_
        rintro e w7 ⟨rfl, hE7⟩
        have HX7 := Lib.hid (HX4.out.trans' hE7)
        have HO7 := Lib.hid (HO4.out.ext hE7)
        clear hE7
        go_wp2_with (at_builtin; refine app_own el_u16 enc_nat rfl _ _ rfl rfl (HO7.out.alloc _) rfl (ys := [orL (liveA L) (ahN L k)]) ?q1 ?q2 ?q3 ?q4)
        case q1 => exact rd_one16 _ _
        case q2 => simp; omega
        case q3 => have := HX7.out.size; simp; omega
        intro v' w8 hown hgrow hmv
        have HX8 : Hid (Ext w5 w8) := Lib.hid (hmv _ _ (HX7.out.alloc' _) (Nat.le_refl _))
        obtain ⟨a2, n2, c2, hv2, hn2, hN2⟩ := (hown.rd enc_nat).val
        subst hv2
        have HO8 := Lib.hid hown
        clear hown hgrow hmv
        go_wp2_with fail
        go_roundw
        case rel => exact ⟨k + 1, by omega, by go_num, _, _, _, rfl, Lib.hid ⟨by rw [List.range_succ, List.map_append]; exact HO8.out, HX8.out⟩⟩
        case measure => simp [intOf]; omega
      · obtain rfl : k = xn := by omega
        go_wp2_with fail
        go_returns
        exact ⟨_, rfl, by rw [liveB_or HB.out HOK.out, ← HN.out]; exact HO4.out.mono HE.out.size, HE.out.trans' HX4.out⟩
end Go.Proofs.Ytkogkcjiachphaa
namespace Go.Proofs.Ytkogkcjiachphaa
open Go.RowKit
set_option linter.unusedVariables false
set_option linter.unusedSimpArgs false

set_option maxRecDepth 20000 in
theorem l_Ahead (v : Value) (L : List Ins) (w : World) (h : Rd w 5 Ins.enc v L) (hl : L.length ≤ 1000000) (hok : InsOk L) : Calls Try.prog 37 #[v] w (OwnN (liveA L) w) := by
  have HD := Lib.hid h
  have HOK := Lib.hid hok
  have HL := Lib.hid hl
  clear h hok hl
  go_enter Try.func37, Try.ntmps37
  go_wp2_with fail
  refine (l_both _ L _ HD.out HL.out HOK.out).mono ?_
  rintro e w5 ⟨va, vb, rfl, hA, hB, hE⟩
  have H := Lib.hid (And.intro hA hE)
  clear hA hB hE
  go_wp2_with fail
  go_returns
  exact ⟨_, rfl, H.out.1, H.out.2⟩
set_option maxRecDepth 20000 in
theorem l_Behind (v : Value) (L : List Ins) (w : World) (h : Rd w 5 Ins.enc v L) (hl : L.length ≤ 1000000) (hok : InsOk L) : Calls Try.prog 39 #[v] w (OwnN (liveB L) w) := by
  have HD := Lib.hid h
  have HOK := Lib.hid hok
  have HL := Lib.hid hl
  clear h hok hl
  go_enter Try.func39, Try.ntmps39
  go_wp2_with fail
  refine (l_both _ L _ HD.out HL.out HOK.out).mono ?_
  rintro e w5 ⟨va, vb, rfl, hA, hB, hE⟩
  have H := Lib.hid (And.intro hB hE)
  clear hA hB hE
  go_wp2_with fail
  go_returns
  exact ⟨_, rfl, H.out.1, H.out.2⟩
/-- Does the instruction at a place put something into a register that is not needed, and nothing else? -/
noncomputable def idleK (L : List Ins) (k : Nat) : Bool := match L[k]? with
  | some x => ((whatZ x).kind != 11) && ((wrN L k != 0) && (wrN L k &&& (liveB L).getD k 0 == 0))
  | none => false
noncomputable def idleL (L : List Ins) : List Bool := (List.range (liveB L).length).map (idleK L)
theorem and_u16 {a b : Nat} (ha : a < 65536) (hb : b < 65536) : bits .and .u16 (a : Int) (b : Int) = ((a &&& b : Nat) : Int) := by
  have := u16_and (a : Int) (b : Int) (by omega) (by omega) (by omega) (by omega)
  simpa using this
theorem liveB_in {L : List Ins} {k : Nat} (h : k < (liveB L).length) : k < L.length := by
  unfold liveB at h
  split at h
  · simpa using h
  · simp at h
def isZ (n : Int) : Bool := n == 0
theorem idle_at {L : List Ins} {k : Nat} {x : Ins} {b : Nat} (hx : L[k]? = some x) (hb : (liveB L)[k]? = some b) : idleK L k = (((whatZ x).kind != 11) && ((wrN L k != 0) && (wrN L k &&& b == 0))) := by
  unfold idleK
  rw [hx]
  simp only [List.getD_eq_getElem?_getD, hb, Option.getD_some]
theorem nat_beq (a : Nat) : ((a : Int) == 0) = (a == 0) := by
  cases a with
  | zero => rfl
  | succ a => rfl
theorem nat_bne (a : Nat) : ((a : Int) != 0) = (a != 0) := by
  unfold bne; rw [nat_beq]
set_option maxRecDepth 20000 in
set_option maxHeartbeats 2000000 in
theorem l_Idle (v : Value) (L : List Ins) (w : World) (h : Rd w 5 Ins.enc v L) (hl : L.length ≤ 1000000) (hok : InsOk L) : Calls Try.prog 30 #[v] w (OwnB (idleL L) w) := by
  obtain ⟨pa, n, pc, rfl, hpn, hPN⟩ := h.val
  have hk2 : n ≤ 1000000 := by rw [hPN.out]; exact hl
  have HD := Lib.hid h
  have HOK := Lib.hid hok
  have HL := Lib.hid hl
  have HN := Lib.hid hPN.out
  clear h hok hl
  go_enter Try.func30, Try.ntmps30
  go_wp2_with fail
  refine (l_both _ L _ HD.out HL.out HOK.out).mono ?_
  rintro e w5 ⟨va, vb, rfl, hA, hB, hE⟩
  obtain ⟨xa, xn, xc, hxv, hxn, hXN⟩ := (hB.rd enc_nat).val
  subst hxv
  have hxl : xn ≤ n := by
    rw [hXN.out, HN.out]
    rcases Nat.lt_or_ge L.length (liveB L).length with h1 | h1
    · have := liveB_in h1; omega
    · exact h1
  have HO := Lib.hid hB
  have HE := Lib.hid hE
  have hmk := run_make_bool xn (by omega)
  clear hA hB hE
  go_upto_region 2 with fail
  go_cut [5] from 15 to 18 (fun v5 wx => ∃ g, v5 = .slice (some ⟨g, 0, none⟩) xn xn ∧ Hid (Own wx w5.heap.size 4 1 encB v5 (List.replicate xn false) ∧ Ext w5 wx))
  case first =>
    go_wp2_with fail
    go_meet
    exact ⟨_, rfl, Lib.hid ⟨own_made_bool _ _ (by omega) _ (Nat.le_refl _), by (repeat (first | exact Ext.rfl' _ | assumption | refine Ext.drewN' ?_ _ | refine Ext.drew' ?_ | refine Ext.alloc' ?_ _ | refine Ext.trans' ?_ (by assumption)))⟩⟩
  case rest =>
    obtain ⟨g, rfl, HI⟩ := hcut
    have HO5 := Lib.hid HI.out.1
    have HX5 := Lib.hid HI.out.2
    clear HI hmk
    go_wp2_with fail
    go_loopw [20] (fun q wr => ∃ k : Nat, k ≤ xn ∧ q = .int .i64 k ∧ Hid (∃ M, Own wr w5.heap.size 4 1 encB (.slice (some ⟨g, 0, none⟩) xn xn) M ∧ Ext w5 wr ∧ M.length = xn ∧ ∀ i, i < k → M[i]? = some (idleK L i))) (fun q _ => xn - (intOf q).toNat)
    case atStart => exact ⟨0, Nat.zero_le _, rfl, Lib.hid ⟨_, HO5.out, HX5.out, by simp, fun i hi => absurd hi (Nat.not_lt_zero _)⟩⟩
    case round =>
      obtain ⟨k, hk, rfl, HI⟩ := hrel
      obtain ⟨M, hO, hX, hl, hM⟩ := HI.out
      have HO1 := Lib.hid hO
      have HX1 := Lib.hid hX
      have HM1 := Lib.hid hM
      have HL1 := Lib.hid hl
      clear hO hX hM hl HI
      by_cases hlt : (k : Int) < xn
      · obtain ⟨x, hx⟩ := at_of_lt (xs := L) (k := k) (by have := HN.out; omega)
        obtain ⟨b, hb⟩ := at_of_lt (xs := liveB L) (k := k) (by have := hXN.out; omega)
        obtain ⟨m0, hm0⟩ := at_of_lt (xs := M) (k := k) (by have := HL1.out; omega)
        have HX := Lib.hid hx
        have HBk := Lib.hid hb
        have HM0 := Lib.hid hm0
        obtain ⟨y, hy⟩ : ∃ y, (whatS x).getD Wh.zero = y := ⟨_, rfl⟩
        have HID : Hid (idleK L k = ((y.kind != 11) && ((wrN L k != 0) && (wrN L k &&& b == 0)))) := Lib.hid (by rw [idle_at hx hb]; unfold whatZ; rw [hy])
        have HY := Lib.hid hy
        obtain ⟨kd, op, wd, rg, sg, sz⟩ := y
        have ix := fun W => HD.out.run_at (P := Try.prog) el_ins.under el_ins.size .i64 (k : Int) (by omega) (by omega) W
        simp only [Int.toNat_natCast] at ix
        obtain ⟨c0, c1, c2, c3, c4⟩ := ins_cells (HD.out.ext (HE.out.trans' HX1.out)) HX.out
        clear hx hb hm0 hy
        go_wp2_with fail
        refine (p_What x _ (HOK.out.at HX.out)).mono ?_
        unfold WhatA
        rw [HY.out]
        rintro e w7 ⟨rfl, hE7⟩
        have HX7 := Lib.hid (HX1.out.trans' hE7)
        have HO7 := Lib.hid (HO1.out.ext hE7)
        clear hE7 c0 c1 c2 c3 c4
        go_upto_region 7 with fail
        have HB7 := Lib.hid (obj_top w7 (whObj ⟨kd, op, wd, rg, sg, sz⟩) rfl)
        have HO8 := Lib.hid (HO7.out.alloc (whObj ⟨kd, op, wd, rg, sg, sz⟩))
        have HX8 := Lib.hid (HX7.out.alloc' (whObj ⟨kd, op, wd, rg, sg, sz⟩))
        obtain ⟨W, hW⟩ : ∃ W, atS writesS L k = W := ⟨_, rfl⟩
        have hW2 : W < 65536 := by rw [← hW]; exact wrN_lt HOK.out k
        have hb2 : b < 65536 := liveB_lt HBk.out
        have hID : idleK L k = ((kd != 11) && ((W != 0) && (W &&& b == 0))) := by rw [HID.out]; unfold wrN; rw [hW]
        have HID2 := Lib.hid hID
        go_wp2_with fail
        refine (l_Writes _ L k _ (HD.out.ext (HE.out.trans' HX8.out)) HL.out HOK.out).mono ?_
        rw [hW]
        rintro e w9 ⟨rfl, hE9⟩
        have HX9 := Lib.hid (HX8.out.trans' hE9)
        have HO9 := Lib.hid (HO8.out.ext hE9)
        have q0 := cell_obj (i := 0) (hE9.obj HB7.out)
        simp only [List.getElem?_toArray, List.getElem?_cons_zero, List.getElem?_cons_succ] at q0
        have hlt7 := heap_lt (hE9.obj HB7.out)
        generalize w7.heap.size = q at q0 hlt7 ⊢
        have ixB := fun W => (HO.out.rd enc_nat).run_at (P := Try.prog) el_u16.under el_u16.size .i64 (k : Int) (by omega) (by omega) W
        have cB := ((HO.out.ext HX9.out).rd enc_nat).cell HBk.out (j := 0) rfl
        have ixO := fun W => (HO9.out.rd enc_bool).run_at (P := Try.prog) el_bool.under el_bool.size .i64 (k : Int) (by omega) (by omega) W
        simp only [Nat.mul_one, Nat.add_zero, Int.toNat_natCast] at ixB cB ixO
        obtain ⟨e1, e2, e3, e4, e5⟩ := Own.at (f := fun x : Bool => Value.bool x) HO9.out HM0.out
        have HO10 := Lib.hid e5
        have hand : bits .and .u16 (W : Int) (b : Int) = ((W &&& b : Nat) : Int) := and_u16 hW2 hb2
        have HN1 := Lib.hid (nat_bne W)
        have hz : ((((W &&& b : Nat) : Int)) == 0) = (W &&& b == 0) := nat_beq _
        have HMS : Hid (∀ i, i < k + 1 → (M.set k (idleK L k))[i]? = some (idleK L i)) := Lib.hid (fun i hi => by
          by_cases e : i = k
          · subst e; rw [List.getElem?_set_self (by have := HL1.out; omega)]
          · rw [List.getElem?_set_ne (Ne.symm e)]; exact HM1.out i (by omega))
        clear hID hW hE9 HM1 HM0 HBk HB7 HX8 HO8 HX7 HO7 e5 e3
        by_cases d0 : kd = 11
        · subst d0
          have hr : idleK L k = false := by rw [HID2.out]; rfl
          rw [hr] at HMS
          clear hr
          go_wp2_with fail
          go_roundw
          case rel => exact ⟨k + 1, by omega, by go_num, Lib.hid ⟨_, (HO10.out _).1, (HO10.out _).2 _ _ HX9.out (Nat.le_refl _), by simpa using HL1.out, HMS.out⟩⟩
          case measure => simp [intOf]; omega
        · have d1 : (kd != 11) = true := by simpa using d0
          by_cases d2 : W = 0
          · subst d2
            have hr : idleK L k = false := by rw [HID2.out]; simp
            rw [hr] at HMS
            clear hr
            have d3 : (((0 : Nat) : Int) != 0) = false := rfl
            go_wp2_with fail
            go_roundw
            case rel => exact ⟨k + 1, by omega, by go_num, Lib.hid ⟨_, (HO10.out _).1, (HO10.out _).2 _ _ HX9.out (Nat.le_refl _), by simpa using HL1.out, HMS.out⟩⟩
            case measure => simp [intOf]; omega
          · have d3 : ((W : Int) != 0) = true := by rw [HN1.out]; simpa using d2
            have hr : idleK L k = (W &&& b == 0) := by
              have : (W != 0) = true := by simpa using d2
              rw [HID2.out, d1, this]; simp
            rw [hr] at HMS
            clear hr
            generalize (W &&& b == 0) = z at HMS hz
            go_wp2_with fail
            go_roundw
            case rel => exact ⟨k + 1, by omega, by go_num, Lib.hid ⟨_, (HO10.out _).1, (HO10.out _).2 _ _ HX9.out (Nat.le_refl _), by simpa using HL1.out, HMS.out⟩⟩
            case measure => simp [intOf]; omega
      · have HEQ : Hid (M = idleL L) := Lib.hid (by
          unfold idleL
          apply List.ext_getElem?
          intro i
          by_cases hi : i < xn
          · rw [HM1.out i (by omega)]
            simp only [List.getElem?_map, List.getElem?_range (by have := hXN.out; omega : i < (liveB L).length), Option.map_some]
          · rw [List.getElem?_eq_none (by have := HL1.out; omega), List.getElem?_eq_none (by simp; have := hXN.out; omega)])
        go_wp2_with fail
        go_returns
        exact ⟨_, rfl, by rw [← HEQ.out]; exact HO1.out.mono HE.out.size, HE.out.trans' HX1.out⟩
theorem rd_oneB (w : World) (y : Bool) : Rd (w.alloc (.cells #[.bool y] 4)) 1 encB (.slice (some ⟨w.heap.size, 0, none⟩) 1 1) [y] :=
  (Own.lit enc_bool (base := 0) (w := w) [y] rfl rfl (Nat.zero_le _) (by simp [maxLen])).rd enc_bool
set_option maxRecDepth 20000 in
set_option maxHeartbeats 2000000 in
theorem s_Idle (v : Value) (L : List Ins) (w : World) (h : Rd w 5 Ins.enc v L) (hl : L.length ≤ 1000000) (hok : InsOk L) : Calls Try.prog 31 #[v] w (OwnB (idleL L) w) := by
  obtain ⟨pa, n, pc, rfl, hpn, hPN⟩ := h.val
  have hk2 : n ≤ 1000000 := by rw [hPN.out]; exact hl
  have HD := Lib.hid h
  have HOK := Lib.hid hok
  have HL := Lib.hid hl
  have HN := Lib.hid hPN.out
  clear h hok hl
  go_enter Try.func31, Try.ntmps31
  go_wp2_with fail
  refine (s_Behind _ L _ HD.out HL.out HOK.out).mono ?_
  rintro e w5 ⟨vb, rfl, hB, hE⟩
  obtain ⟨xa, xn, xc, hxv, hxn, hXN⟩ := (hB.rd enc_nat).val
  subst hxv
  have hxl : xn ≤ n := by
    rw [hXN.out, HN.out]
    rcases Nat.lt_or_ge L.length (liveB L).length with h1 | h1
    · have := liveB_in h1; omega
    · exact h1
  have HO := Lib.hid hB
  have HE := Lib.hid hE
  clear hB hE
  go_wp2_with fail
  go_loopw [4, 5] (fun v4 q wr => ∃ k : Nat, k ≤ xn ∧ q = .int .i64 k ∧ ∃ ta tn tc, v4 = .slice ta tn tc ∧ Hid (Own wr w5.heap.size 4 1 encB v4 ((List.range k).map (idleK L)) ∧ Ext w5 wr)) (fun _ q _ => xn - (intOf q).toNat)
  case atStart => exact ⟨0, Nat.zero_le _, rfl, _, _, _, rfl, Lib.hid ⟨Own.nil _ _ _ _ _, Ext.rfl' _⟩⟩
  case round =>
    obtain ⟨k, hk, rfl, ta, tn, tc, rfl, HI⟩ := hrel
    have HO1 := Lib.hid HI.out.1
    have HX1 := Lib.hid HI.out.2
    clear HI
    by_cases hlt : (k : Int) < xn
    · obtain ⟨x, hx⟩ := at_of_lt (xs := L) (k := k) (by have := HN.out; omega)
      obtain ⟨b, hb⟩ := at_of_lt (xs := liveB L) (k := k) (by have := hXN.out; omega)
      have HX := Lib.hid hx
      have HBk := Lib.hid hb
      obtain ⟨y, hy⟩ : ∃ y, (whatS x).getD Wh.zero = y := ⟨_, rfl⟩
      have HID : Hid (idleK L k = ((y.kind != 11) && ((wrN L k != 0) && (wrN L k &&& b == 0)))) := Lib.hid (by rw [idle_at hx hb]; unfold whatZ; rw [hy])
      have HY := Lib.hid hy
      obtain ⟨kd, op, wd, rg, sg, sz⟩ := y
      have ix := fun W => HD.out.run_at (P := Try.prog) el_ins.under el_ins.size .i64 (k : Int) (by omega) (by omega) W
      simp only [Int.toNat_natCast] at ix
      obtain ⟨c0, c1, c2, c3, c4⟩ := ins_cells (HD.out.ext (HE.out.trans' HX1.out)) HX.out
      clear hx hb hy
      go_wp2_with fail
      refine (r_What x _ (HOK.out.at HX.out)).mono ?_
      unfold WhatA
      rw [HY.out]
      rintro e w7 ⟨rfl, hE7⟩
      have HX7 := Lib.hid (HX1.out.trans' hE7)
      have HO7 := Lib.hid (HO1.out.ext hE7)
      clear hE7 c0 c1 c2 c3 c4
      go_upto_region 7 with fail
      have HB7 := Lib.hid (obj_top w7 (whObj ⟨kd, op, wd, rg, sg, sz⟩) rfl)
      have HO8 := Lib.hid (HO7.out.alloc (whObj ⟨kd, op, wd, rg, sg, sz⟩))
      have HX8 := Lib.hid (HX7.out.alloc' (whObj ⟨kd, op, wd, rg, sg, sz⟩))
      obtain ⟨W, hW⟩ : ∃ W, atS writesS L k = W := ⟨_, rfl⟩
      have hW2 : W < 65536 := by rw [← hW]; exact wrN_lt HOK.out k
      have hb2 : b < 65536 := liveB_lt HBk.out
      have hID : idleK L k = ((kd != 11) && ((W != 0) && (W &&& b == 0))) := by rw [HID.out]; unfold wrN; rw [hW]
      have HID2 := Lib.hid hID
      go_wp2_with fail
      refine (s_Writes _ L k _ (HD.out.ext (HE.out.trans' HX8.out)) HL.out HOK.out).mono ?_
      rw [hW]
      rintro e w9 ⟨rfl, hE9⟩
      have HX9 := Lib.hid (HX8.out.trans' hE9)
      have HO9 := Lib.hid (HO8.out.ext hE9)
      have q0 := cell_obj (i := 0) (hE9.obj HB7.out)
      simp only [List.getElem?_toArray, List.getElem?_cons_zero, List.getElem?_cons_succ] at q0
      have hlt7 := heap_lt (hE9.obj HB7.out)
      generalize w7.heap.size = q at q0 hlt7 ⊢
      have ixB := fun W => (HO.out.rd enc_nat).run_at (P := Try.prog) el_u16.under el_u16.size .i64 (k : Int) (by omega) (by omega) W
      have cB := ((HO.out.ext HX9.out).rd enc_nat).cell HBk.out (j := 0) rfl
      simp only [Nat.mul_one, Nat.add_zero, Int.toNat_natCast] at ixB cB
      have hand : bits .and .u16 (W : Int) (b : Int) = ((W &&& b : Nat) : Int) := and_u16 hW2 hb2
      have HN1 := Lib.hid (nat_bne W)
      have hz : ((((W &&& b : Nat) : Int)) == 0) = (W &&& b == 0) := nat_beq _
      clear hID hW hE9 HBk HB7 HX8 HO8 HX7 HO7
      by_cases d2 : W = 0
      · subst d2
        have hr : idleK L k = false := by rw [HID2.out]; simp
        have HR := Lib.hid hr
        clear hr
        have d3 : (((0 : Nat) : Int) != 0) = false := rfl
        go_wp2_with (at_builtin; refine app_own el_bool enc_bool rfl _ _ rfl rfl (HO9.out.alloc _) rfl (ys := [false]) ?q1 ?q2 ?q3 ?q4)
        case q1 => exact rd_oneB _ _
        case q2 => simp; omega
        case q3 => have := HX9.out.size; simp; omega
        intro v' w8 hown hgrow hmv
        have HX10 : Hid (Ext w5 w8) := Lib.hid (hmv _ _ (HX9.out.alloc' _) (Nat.le_refl _))
        obtain ⟨a2, n2, c2, hv2, hn2, hN2⟩ := (hown.rd enc_bool).val
        subst hv2
        have HO10 := Lib.hid hown
        clear hown hgrow hmv
        go_wp2_with fail
        go_roundw
        case rel => exact ⟨k + 1, by omega, by go_num, _, _, _, rfl, Lib.hid ⟨by rw [List.range_succ, List.map_append, List.map_singleton, HR.out]; exact HO10.out, HX10.out⟩⟩
        case measure => simp [intOf]; omega
      · have d3 : ((W : Int) != 0) = true := by rw [HN1.out]; simpa using d2
        by_cases d0 : kd = 11
        · subst d0
          have hr : idleK L k = false := by rw [HID2.out]; rfl
          have HR := Lib.hid hr
          clear hr
          go_wp2_with (at_builtin; refine app_own el_bool enc_bool rfl _ _ rfl rfl (HO9.out.alloc _) rfl (ys := [false]) ?r1 ?r2 ?r3 ?r4)
          case r1 => exact rd_oneB _ _
          case r2 => simp; omega
          case r3 => have := HX9.out.size; simp; omega
          intro v' w8 hown hgrow hmv
          have HX10 : Hid (Ext w5 w8) := Lib.hid (hmv _ _ (HX9.out.alloc' _) (Nat.le_refl _))
          obtain ⟨a2, n2, c2, hv2, hn2, hN2⟩ := (hown.rd enc_bool).val
          subst hv2
          have HO10 := Lib.hid hown
          clear hown hgrow hmv
          go_wp2_with fail
          go_roundw
          case rel => exact ⟨k + 1, by omega, by go_num, _, _, _, rfl, Lib.hid ⟨by rw [List.range_succ, List.map_append, List.map_singleton, HR.out]; exact HO10.out, HX10.out⟩⟩
          case measure => simp [intOf]; omega
        · have d1 : (kd != 11) = true := by simpa using d0
          have hr : idleK L k = (W &&& b == 0) := by
            have : (W != 0) = true := by simpa using d2
            rw [HID2.out, d1, this]; simp
          have HR := Lib.hid hr
          clear hr
          generalize (W &&& b == 0) = z at hz HR
          go_wp2_with (at_builtin; refine app_own el_bool enc_bool rfl _ _ rfl rfl (HO9.out.alloc _) rfl (ys := [z]) ?t1 ?t2 ?t3 ?t4)
          case t1 => exact rd_oneB _ _
          case t2 => simp; omega
          case t3 => have := HX9.out.size; simp; omega
          intro v' w8 hown hgrow hmv
          have HX10 : Hid (Ext w5 w8) := Lib.hid (hmv _ _ (HX9.out.alloc' _) (Nat.le_refl _))
          obtain ⟨a2, n2, c2, hv2, hn2, hN2⟩ := (hown.rd enc_bool).val
          subst hv2
          have HO10 := Lib.hid hown
          clear hown hgrow hmv
          go_wp2_with fail
          go_roundw
          case rel => exact ⟨k + 1, by omega, by go_num, _, _, _, rfl, Lib.hid ⟨by rw [List.range_succ, List.map_append, List.map_singleton, HR.out]; exact HO10.out, HX10.out⟩⟩
          case measure => simp [intOf]; omega
    · obtain rfl : k = xn := by omega
      go_wp2_with fail
      go_returns
      exact ⟨_, rfl, by unfold idleL; rw [← hXN.out]; exact HO1.out.mono HE.out.size, HE.out.trans' HX1.out⟩
end Go.Proofs.Ytkogkcjiachphaa
namespace Go.Proofs.Ytkogkcjiachphaa
open Go.RowKit
set_option linter.unusedVariables false
set_option linter.unusedSimpArgs false

set_option maxHeartbeats 1000000 in
theorem p_sets (v1 v2 : Value) (xs ys : List Nat) (w : World) (h1 : Rd w 1 encN v1 xs) (h2 : Rd w 1 encN v2 ys) : Calls Try.prog 36 #[v1, v2] w fun e w' => e = .returned (.bool (decide (xs = ys))) ∧ Ext w w' := by
  obtain ⟨a1, n1, c1, rfl, hn1, hN1⟩ := h1.val
  obtain ⟨a2, n2, c2, rfl, hn2, hN2⟩ := h2.val
  have H1 := Lib.hid h1
  have H2 := Lib.hid h2
  obtain ⟨R, hR⟩ : ∃ R, decide (xs = ys) = R := ⟨_, rfl⟩
  rw [hR]
  have HR := Lib.hid hR
  clear h1 h2 hR
  go_enter Try.func36, Try.ntmps36
  by_cases hl : (n1 : Int) = n2
  · have hb : ((n1 : Int) != n2) = false := by simpa using hl
    have hl' : n1 = n2 := by omega
    subst hl'
    go_wp2_with fail
    go_loopw [13] (fun q wr => ∃ k : Nat, k ≤ n1 ∧ q = .int .i64 k ∧ Hid (Ext w wr ∧ ∀ i, i < k → xs[i]? = ys[i]?)) (fun q _ => n1 - (intOf q).toNat)
    case atStart => exact ⟨0, Nat.zero_le _, rfl, Lib.hid ⟨Ext.rfl' _, fun i hi => absurd hi (Nat.not_lt_zero _)⟩⟩
    case round =>
      obtain ⟨k, hk, rfl, HI⟩ := hrel
      by_cases hlt : (k : Int) < n1
      · obtain ⟨x, hx⟩ := at_of_lt (xs := xs) (k := k) (by have := hN1.out; omega)
        obtain ⟨y, hy⟩ := at_of_lt (xs := ys) (k := k) (by have := hN2.out; omega)
        have ix := fun W => H1.out.run_at (P := Try.prog) el_u16.under el_u16.size .i64 (k : Int) (by omega) (by omega) W
        have iy := fun W => H2.out.run_at (P := Try.prog) el_u16.under el_u16.size .i64 (k : Int) (by omega) (by omega) W
        have cx := (H1.out.ext HI.out.1).cell hx (j := 0) rfl
        have cy := (H2.out.ext HI.out.1).cell hy (j := 0) rfl
        simp only [Nat.mul_one, Nat.add_zero, Int.toNat_natCast] at ix iy cx cy
        have HX := Lib.hid hx
        have HY := Lib.hid hy
        clear hx hy
        by_cases hxy : x = y
        · have HXY := Lib.hid hxy
          have hb2 : ((x : Int) != (y : Int)) = false := by rw [hxy]; simp
          clear hxy
          skip
          all_goals
            go_wp2_with fail
            go_quiet (fail)
            go_wp2_with fail
            go_roundw
            case rel => exact ⟨k + 1, by omega, by go_num, Lib.hid ⟨by have := HI.out.1; (repeat (first | exact Ext.rfl' _ | assumption | refine Ext.drewN' ?_ _ | refine Ext.drew' ?_ | refine Ext.alloc' ?_ _ | refine Ext.trans' ?_ (by assumption))), all_succ HI.out.2 (by first | rw [HX.out, HY.out, HXY.out] | rw [HX.out, HY.out])⟩⟩
            case measure => simp [intOf]; omega
        · have HXY := Lib.hid hxy
          have hb2 : ((x : Int) != (y : Int)) = true := by
            have : ((x : Int) == (y : Int)) = false := by simp; omega
            simp [bne, this]
          clear hxy
          have hr : R = false := by
            rw [← HR.out, decide_eq_false_iff_not]
            rintro rfl
            rw [HX.out] at HY
            exact HXY.out (Option.some.inj HY.out)
          have HRF := Lib.hid hr
          clear hr
          skip
          all_goals
            go_wp2_with fail
            go_quiet (fail)
            go_wp2_with fail
            go_returns
            exact ⟨by rw [HRF.out]; rfl, by have := HI.out.1; (repeat (first | exact Ext.rfl' _ | assumption | refine Ext.drewN' ?_ _ | refine Ext.drew' ?_ | refine Ext.alloc' ?_ _ | refine Ext.trans' ?_ (by assumption)))⟩
      · have hr : R = true := by
          rw [← HR.out, decide_eq_true_iff]
          exact eq_of_at (by have := hN1.out; have := hN2.out; omega) (fun i hi => HI.out.2 i (by have := hN1.out; omega))
        have HRF := Lib.hid hr
        clear hr
        go_wp2_with fail
        go_returns
        exact ⟨by rw [HRF.out]; rfl, HI.out.1⟩
  · have hb : ((n1 : Int) != n2) = true := by simpa using hl
    have hr : R = false := by
      rw [← HR.out, decide_eq_false_iff_not]
      rintro rfl
      have := hN1.out
      have := hN2.out
      omega
    have HRF := Lib.hid hr
    clear hr
    go_wp2_with fail
    go_returns
    exact ⟨by rw [HRF.out]; rfl, by (repeat (first | exact Ext.rfl' _ | assumption | refine Ext.drewN' ?_ _ | refine Ext.drew' ?_ | refine Ext.alloc' ?_ _ | refine Ext.trans' ?_ (by assumption)))⟩
set_option maxHeartbeats 1000000 in
theorem l_few (v : Value) (L : List Ins) (w : World) (h : Rd w 5 Ins.enc v L) : Calls Try.prog 29 #[v] w fun e w' => ∃ v', e = .returned v' ∧ Rd w' 5 Ins.enc v' (L.take 150) ∧ Ext w w' := by
  obtain ⟨a, n, c, rfl, hn, hN⟩ := h.val
  have HD := Lib.hid h
  clear h
  go_enter Try.func29, Try.ntmps29
  have h1 : (n : Int) ≤ 150 ∨ (150 : Int) < n := by omega
  rcases h1 with h1 | h1
  · have c1 := fun W => HD.out.run_cut_h (P := Try.prog) el_ins.under el_ins.size .i64 (n : Int) (by omega) (by omega) W
    have E := Lib.hid (take_cutI HD.out n (Nat.le_refl _) (by omega))
    have hm : min (n : Int) 150 = n := by omega
    simp only [Int.toNat_natCast] at c1
    go_wp2_with fail
    go_returns
    exact ⟨_, rfl, E.out, by (repeat (first | exact Ext.rfl' _ | assumption | refine Ext.drewN' ?_ _ | refine Ext.drew' ?_ | refine Ext.alloc' ?_ _ | refine Ext.trans' ?_ (by assumption)))⟩
  · have c1 := fun W => HD.out.run_cut_h (P := Try.prog) el_ins.under el_ins.size .i64 150 (by omega) (by omega) W
    have E := Lib.hid (take_cutI HD.out 150 (by omega) (by omega))
    have hm : min (n : Int) 150 = 150 := by omega
    go_wp2_with fail
    go_returns
    exact ⟨_, rfl, E.out, by (repeat (first | exact Ext.rfl' _ | assumption | refine Ext.drewN' ?_ _ | refine Ext.drew' ?_ | refine Ext.alloc' ?_ _ | refine Ext.trans' ?_ (by assumption)))⟩
/-- The document's example. -/
def L1 : List Ins := [⟨183, 0, 0, 0, 1⟩, ⟨183, 0, 0, 0, 2⟩, ⟨149, 0, 0, 0, 0⟩]
theorem l1_prog : progS L1 = true := by decide +kernel
theorem l1_ok : InsOk L1 := by
  intro x hx
  simp only [L1, List.mem_cons, List.not_mem_nil, or_false] at hx
  rcases hx with rfl | rfl | rfl <;> exact ⟨by decide, by decide, by decide, by decide, by decide⟩
theorem l1_out (k : Nat) : beginsS L1 ((k + 3 : Nat) : Int) = false := begins_out (by simp [L1])
theorem l1_rd (k : Nat) : rdN L1 k = if k = 2 then 1 else 0 := by
  rcases k with _ | _ | _ | k
  · decide +kernel
  · decide +kernel
  · decide +kernel
  · rw [rdN_not (l1_out k), if_neg (by omega)]
theorem l1_wr (k : Nat) (h : k < 3) : wrN L1 k = if k = 2 then 0 else 1 := by
  rcases k with _ | _ | _ | k
  · decide +kernel
  · decide +kernel
  · decide +kernel
  · omega
theorem l1_ah (k : Nat) : ahN L1 k = if k = 0 then [1] else if k = 1 then [2] else [] := by
  have key : ∀ k, k < 3 → ahN L1 k = aheadAt L1 k := fun k hk => by
    unfold ahN
    have : beginsS L1 k = true := by
      rcases k with _ | _ | _ | k
      · decide +kernel
      · decide +kernel
      · decide +kernel
      · omega
    exact aheadV_at this
  rcases k with _ | _ | _ | k
  · rw [key 0 (by decide)]
    show aheadL L1 _ 0 = _
    rw [ahead_two]; decide +kernel
  · rw [key 1 (by decide)]
    show aheadL L1 _ 1 = _
    rw [ahead_two]; decide +kernel
  · rw [key 2 (by decide)]
    show aheadL L1 _ 2 = _
    rw [ahead_two]; decide +kernel
  · rw [ahN_not (l1_out k), if_neg (by omega), if_neg (by omega)]
theorem one_bit {r : Nat} (h : (1 : Nat).testBit r = true) : r = 0 := by
  have := Nat.testBit_two_pow (n := 0) (m := r)
  simp at this
  rw [show (1 : Nat) = 2 ^ 0 from rfl, Nat.testBit_two_pow] at h
  simp at h
  omega
theorem l1_need {r i : Nat} : Need (rdN L1) (wrN L1) (ahN L1) r i ↔ i = 2 ∧ r = 0 := by
  constructor
  · intro h
    refine h (fun i => i = 2 ∧ r = 0) (fun i hi => ?_) (fun i t hw ht hs => ?_)
    · rw [l1_rd] at hi
      split at hi
      · rename_i e; exact ⟨e, one_bit hi⟩
      · simp at hi
    · obtain ⟨rfl, rfl⟩ := hs
      rw [l1_ah] at ht
      split at ht
      · simp at ht
      · split at ht
        · rename_i e
          subst e
          rw [l1_wr 1 (by decide)] at hw
          simp at hw
        · simp at ht
  · rintro ⟨rfl, rfl⟩
    exact .read (by rw [l1_rd]; rfl)
theorem l1_needB {r i : Nat} : NeedB (rdN L1) (wrN L1) (ahN L1) r i ↔ i = 1 ∧ r = 0 := by
  constructor
  · rintro ⟨t, ht, hn⟩
    obtain ⟨rfl, rfl⟩ := l1_need.1 hn
    rw [l1_ah] at ht
    split at ht
    · simp at ht
    · split at ht
      · exact ⟨by assumption, rfl⟩
      · simp at ht
  · rintro ⟨rfl, rfl⟩
    exact ⟨2, by rw [l1_ah]; simp, l1_need.2 ⟨rfl, rfl⟩⟩
theorem zero_bits {p : Nat → Prop} (h : ∀ r, ¬ p r) : bitsOf p = 0 := (eq_bitsOf (by decide) (fun r _ => by simp [h r])).symm
theorem one_bits {p : Nat → Prop} (h : ∀ r, p r ↔ r = 0) : bitsOf p = 1 := (eq_bitsOf (by decide) (fun r _ => by
  rw [h]
  constructor
  · exact one_bit
  · rintro rfl; rfl)).symm
theorem l1_liveA : liveA L1 = [0, 0, 1] := by
  unfold liveA
  rw [l1_prog]
  show [bitsOf _, bitsOf _, bitsOf _] = _
  have a0 : bitsOf (fun r => Need (rdN L1) (wrN L1) (ahN L1) r 0) = 0 := zero_bits (fun r h => by have := (l1_need (i := 0)).1 h; omega)
  have a1 : bitsOf (fun r => Need (rdN L1) (wrN L1) (ahN L1) r 1) = 0 := zero_bits (fun r h => by have := (l1_need (i := 1)).1 h; omega)
  have a2 : bitsOf (fun r => Need (rdN L1) (wrN L1) (ahN L1) r 2) = 1 := one_bits (fun r => by rw [l1_need]; simp)
  rw [a0, a1, a2]
theorem l1_liveB : liveB L1 = [0, 1, 0] := by
  unfold liveB
  rw [l1_prog]
  show [bitsOf _, bitsOf _, bitsOf _] = _
  have a0 : bitsOf (fun r => NeedB (rdN L1) (wrN L1) (ahN L1) r 0) = 0 := zero_bits (fun r h => by have := (l1_needB (i := 0)).1 h; omega)
  have a1 : bitsOf (fun r => NeedB (rdN L1) (wrN L1) (ahN L1) r 1) = 1 := one_bits (fun r => by rw [l1_needB]; simp)
  have a2 : bitsOf (fun r => NeedB (rdN L1) (wrN L1) (ahN L1) r 2) = 0 := zero_bits (fun r h => by have := (l1_needB (i := 2)).1 h; omega)
  rw [a0, a1, a2]
theorem l1_idle : idleL L1 = [true, false, false] := by
  unfold idleL
  rw [l1_liveB]
  show [idleK L1 0, idleK L1 1, idleK L1 2] = _
  rw [idle_at (x := ⟨183, 0, 0, 0, 1⟩) (b := 0) rfl (by rw [l1_liveB]; rfl), idle_at (x := ⟨183, 0, 0, 0, 2⟩) (b := 1) rfl (by rw [l1_liveB]; rfl), idle_at (x := ⟨149, 0, 0, 0, 0⟩) (b := 0) rfl (by rw [l1_liveB]; rfl),
    l1_wr 0 (by decide), l1_wr 1 (by decide), l1_wr 2 (by decide)]
  decide +kernel
theorem rd_nats (w : World) (xs : List Nat) (b n : Nat) (hb : b = w.heap.size) (hn : n = xs.length) (hl : xs.length ≤ 1000) : Rd (w.alloc (.cells (xs.flatMap encN).toArray 38)) 1 encN (.slice (some ⟨b, 0, none⟩) n n) xs :=
  (Own.lit enc_nat (base := 0) (w := w) xs hb hn (Nat.zero_le _) (by simp [maxLen]; omega)).rd enc_nat
set_option maxRecDepth 20000 in
set_option maxHeartbeats 2000000 in
theorem l_shown (w : World) : Calls Try.prog 28 #[] w fun e w' => e = .returned (.bool true) ∧ Ext w w' := by
  go_enter Try.func28, Try.ntmps28
  go_upto_region 1 with fail
  go_cut [1] (fun v1 wx => Hid (Rd wx 5 Ins.enc v1 L1 ∧ Ext w wx))
  case first =>
    go_wp2_with fail
    go_meet
    exact Lib.hid ⟨(Own.lit enc_ins (base := 0) (w := w) L1 rfl rfl (Nat.zero_le _) (by simp [maxLen, L1])).rd enc_ins, by (repeat (first | exact Ext.rfl' _ | assumption | refine Ext.drewN' ?_ _ | refine Ext.drew' ?_ | refine Ext.alloc' ?_ _ | refine Ext.trans' ?_ (by assumption)))⟩
  case rest =>
    have hl : L1.length ≤ 1000000 := by decide
    have HL := Lib.hid hl
    have HOK := Lib.hid l1_ok
    obtain ⟨a, n, c, hv, hn, hN⟩ := hcut.out.1.val
    subst hv
    have HD := Lib.hid hcut.out.1
    have HE := Lib.hid hcut.out.2
    clear hcut hl
    go_wp2_with fail
    refine (l_Idle _ L1 _ HD.out HL.out HOK.out).mono ?_
    rw [l1_idle]
    rintro e w1 ⟨v1, rfl, hO1, hE1⟩
    have HR1 := Lib.hid (hO1.rd enc_bool)
    have HE1 := Lib.hid hE1
    obtain ⟨ia, m, ic, hv, hm, hM⟩ := (hO1.rd enc_bool).val
    subst hv
    obtain rfl : m = 3 := hM.out
    have i0 := fun W => HR1.out.run_at (P := Try.prog) el_bool.under el_bool.size .i64 0 (by omega) (by omega) W
    have i1 := fun W => HR1.out.run_at (P := Try.prog) el_bool.under el_bool.size .i64 1 (by omega) (by omega) W
    have i2 := fun W => HR1.out.run_at (P := Try.prog) el_bool.under el_bool.size .i64 2 (by omega) (by omega) W
    have c0 := HR1.out.cell (i := 0) rfl (j := 0) rfl
    have c1 := HR1.out.cell (i := 1) rfl (j := 0) rfl
    have c2 := HR1.out.cell (i := 2) rfl (j := 0) rfl
    simp only [show Int.toNat 0 = 0 from rfl, show Int.toNat 1 = 1 from rfl, show Int.toNat 2 = 2 from rfl, Nat.mul_one, Nat.add_zero] at i0 i1 i2 c0 c1 c2
    clear hO1 hE1
    go_wp2_with fail
    refine (l_Ahead _ L1 _ (HD.out.ext HE1.out) HL.out HOK.out).mono ?_
    rw [l1_liveA]
    rintro e w2 ⟨v2, rfl, hO2, hE2⟩
    have HR2 := Lib.hid (hO2.rd enc_nat)
    have HE2 := Lib.hid (HE1.out.trans' hE2)
    clear hO2 hE2
    go_wp2_with fail
    refine (p_sets v2 _ [0, 0, 1] [0, 0, 1] _ (HR2.out.ext (by (repeat (first | exact Ext.rfl' _ | assumption | refine Ext.drewN' ?_ _ | refine Ext.drew' ?_ | refine Ext.alloc' ?_ _ | refine Ext.trans' ?_ (by assumption))))) (rd_nats w2 [0, 0, 1] _ _ rfl rfl (by decide))).mono ?_
    rw [show decide (([0, 0, 1] : List Nat) = [0, 0, 1]) = true by decide]
    rintro e w3 ⟨rfl, hE3⟩
    have HE3 := Lib.hid (Ext.trans' (HE2.out.alloc' _) hE3)
    clear hE3
    go_wp2_with fail
    go_returns
    exact ⟨rfl, HE.out.trans' HE3.out⟩
end Go.Proofs.Ytkogkcjiachphaa
