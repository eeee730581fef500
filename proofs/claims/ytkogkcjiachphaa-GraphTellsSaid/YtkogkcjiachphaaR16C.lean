/- hackleref16: Reach, Loops. -/
import Derived.Test.YtkogkcjiachphaaR16B
namespace Go.Proofs.Ytkogkcjiachphaa
open Go.RowKit
set_option linter.unusedVariables false
set_option linter.unusedSimpArgs false

theorem reachF_one {L : List Ins} (hp : progS L = true) {i : Int} (hb : beginsS L i = true) : reachF L [i] = reachL L i := by
  refine bools_eq (by rw [reachF_length, reachL_length hp]) (fun k hk => ?_)
  rw [reachF_length] at hk
  rw [reachF_at L [i] hk, reachL_at hp i hk, hb]
  simp
theorem one_start {L : List Ins} {i : Int} (hb : beginsS L i = true) : ∀ s ∈ [i], 0 ≤ s ∧ s < L.length ∧ (stF false L)[s.toNat]? = some true := fun s hs => by
  simp only [List.mem_singleton] at hs
  subst hs
  exact (begins_iff.1 hb).2
set_option maxRecDepth 20000 in
set_option maxHeartbeats 2000000 in
theorem r16_Reach (v : Value) (L : List Ins) (i : Int) (w : World) (h : Rd w 5 Ins.enc v L) (hl : L.length ≤ 1000000) (hok : InsOk L) : Calls Try.prog 24 #[v, .int .i64 i] w (OwnB (reachL L i) w) := by
  obtain ⟨a, n, c, rfl, hn, hN⟩ := h.val
  have hk2 : n ≤ 1000000 := by rw [hN.out]; exact hl
  have HD := Lib.hid h
  have HOK := Lib.hid hok
  have HL := Lib.hid hl
  have HN := Lib.hid hN.out
  have hmk := run_make_bool n hk2
  clear h hok hl
  cases hp : progS L with
  | false =>
    have HP := Lib.hid hp
    clear hp
    go_enter Try.func24, Try.ntmps24
    go_wp2_with fail
    refine (r_Check _ L _ HD.out HL.out HOK.out).mono ?_
    rintro e w5 ⟨at_, er, rfl, her, hE⟩
    rw [HP.out] at her
    have hne : (er != 0) = true := by simpa using her
    have HE := Lib.hid hE
    clear her hE
    go_wp2_with fail
    go_returns
    exact ⟨_, rfl, by rw [reachL, HP.out]; exact Own.nil _ _ _ _ _, HE.out⟩
  | true =>
    have HP := Lib.hid hp
    obtain ⟨bi, hbi⟩ : ∃ bi, beginsS L i = bi := ⟨_, rfl⟩
    have HBI := Lib.hid hbi
    clear hp hbi
    go_enter Try.func24, Try.ntmps24
    go_wp2_with fail
    refine (r_Check _ L _ HD.out HL.out HOK.out).mono ?_
    rintro e w5 ⟨at_, er, rfl, her, hE⟩
    rw [HP.out] at her
    obtain rfl : er = 0 := by simpa using her
    have HE := Lib.hid hE
    clear her hE
    go_wp2_with fail
    refine (r16_begins _ L i _ (HD.out.ext HE.out) HL.out HOK.out).mono ?_
    rw [HBI.out]
    rintro e w6 ⟨rfl, hE6⟩
    have HE6 := Lib.hid (HE.out.trans' hE6)
    clear hE6
    cases bi with
    | false =>
      go_wp2_with fail
      go_returns
      refine ⟨_, rfl, ?_, by have := HE6.out; (repeat (first | exact Ext.rfl' _ | assumption | refine Ext.drewN' ?_ _ | refine Ext.drew' ?_ | refine Ext.alloc' ?_ _ | refine Ext.trans' ?_ (by assumption)))⟩
      have : List.replicate n false = reachL L i := reachL_eq HP.out (by simpa using HN.out) (fun k hk => by rw [HBI.out, List.getElem?_replicate, HN.out, if_pos hk]; simp)
      rw [← this]
      exact own_made_bool _ _ hk2 _ HE6.out.size
    | true =>
      clear hmk
      have hlit : Rd (w6.alloc (.cells ([i].flatMap encI).toArray 3)) 1 encI (.slice (some ⟨w6.heap.size, 0, none⟩) 1 1) [i] := rd_ints w6 [i] _ _ rfl rfl (by simp)
      have HLIT := Lib.hid hlit
      clear hlit
      go_wp2_with fail
      refine (r16_reach _ _ L [i] _ (HD.out.ext (by have := HE6.out; (repeat (first | exact Ext.rfl' _ | assumption | refine Ext.drewN' ?_ _ | refine Ext.drew' ?_ | refine Ext.alloc' ?_ _ | refine Ext.trans' ?_ (by assumption))))) HLIT.out HL.out HOK.out HP.out (one_start HBI.out)).mono ?_
      rw [reachF_one HP.out HBI.out]
      rintro e w7 ⟨v7, rfl, hO7, hE7⟩
      have HO7 := Lib.hid hO7
      have HE7 : Hid (Ext w w7) := Lib.hid (Ext.trans' (HE6.out.alloc' _) hE7)
      clear hO7 hE7
      go_wp2_with fail
      go_returns
      exact ⟨_, rfl, HO7.out.mono (HE6.out.alloc' _).size, HE7.out⟩
set_option maxRecDepth 20000 in
set_option maxHeartbeats 2000000 in
theorem r16_Loops (v : Value) (L : List Ins) (w : World) (h : Rd w 5 Ins.enc v L) (hl : L.length ≤ 1000000) (hok : InsOk L) : Calls Try.prog 27 #[v] w fun e w' => e = .returned (.bool (loopsL L)) ∧ Ext w w' := by
  obtain ⟨a, n, c, rfl, hn, hN⟩ := h.val
  have hk2 : n ≤ 1000000 := by rw [hN.out]; exact hl
  have HD := Lib.hid h
  have HOK := Lib.hid hok
  have HL := Lib.hid hl
  have HN := Lib.hid hN.out
  clear h hok hl
  obtain ⟨lo, hlo⟩ : ∃ lo, loopsL L = lo := ⟨_, rfl⟩
  rw [hlo]
  have HLO := Lib.hid hlo
  clear hlo
  cases hp : progS L with
  | false =>
    have HP := Lib.hid hp
    clear hp
    go_enter Try.func27, Try.ntmps27
    go_wp2_with fail
    refine (r_Check _ L _ HD.out HL.out HOK.out).mono ?_
    rintro e w5 ⟨at_, er, rfl, her, hE⟩
    rw [HP.out] at her
    have hne : (er != 0) = true := by simpa using her
    have HE := Lib.hid hE
    clear her hE
    go_wp2_with fail
    go_returns
    exact ⟨by rw [← HLO.out, loopsL, HP.out]; rfl, HE.out⟩
  | true =>
    have HP := Lib.hid hp
    have HBZ := Lib.hid (begins_zero hp)
    have HIFF : Hid (lo = true ↔ ∃ i, Conn (aheadAt L) 0 i ∧ Back (aheadAt L) i) := Lib.hid (by rw [← HLO.out]; exact loops_iff hp)
    clear hp HLO
    go_enter Try.func27, Try.ntmps27
    go_wp2_with fail
    refine (r_Check _ L _ HD.out HL.out HOK.out).mono ?_
    rintro e w5 ⟨at_, er, rfl, her, hE⟩
    rw [HP.out] at her
    obtain rfl : er = 0 := by simpa using her
    have HE := Lib.hid hE
    have hlit : Rd (w5.alloc (.cells ([(0 : Int)].flatMap encI).toArray 3)) 1 encI (.slice (some ⟨w5.heap.size, 0, none⟩) 1 1) [0] := rd_ints w5 [0] _ _ rfl rfl (by simp)
    have HLIT := Lib.hid hlit
    clear her hE hlit
    go_wp2_with fail
    refine (r16_reach _ _ L [0] _ (HD.out.ext (by have := HE.out; (repeat (first | exact Ext.rfl' _ | assumption | refine Ext.drewN' ?_ _ | refine Ext.drew' ?_ | refine Ext.alloc' ?_ _ | refine Ext.trans' ?_ (by assumption))))) HLIT.out HL.out HOK.out HP.out (one_start HBZ.out)).mono ?_
    rintro e w6 ⟨v6, rfl, hO6, hE6⟩
    obtain ⟨ra, rn, rc, hrv, hrn, hRN⟩ := (hO6.rd enc_bool).val
    subst hrv
    have hnn : rn = n := by rw [hRN.out, reachF_length, HN.out]
    subst hnn
    have HR6 := Lib.hid (hO6.rd enc_bool)
    have HE6 : Hid (Ext w w6) := Lib.hid (Ext.trans' (HE.out.alloc' _) hE6)
    have HD6 := Lib.hid (HD.out.ext HE6.out)
    clear hO6 hE6
    have HAT : Hid (∀ k, k < L.length → ((reachF L [0])[k]? = some true ↔ Conn (aheadAt L) 0 k)) := Lib.hid (fun k hk => by rw [reachF_at L [0] hk]; simp)
    obtain ⟨M, hM⟩ : ∃ M, reachF L [0] = M := ⟨_, rfl⟩
    rw [hM] at HR6 hRN HAT
    clear hM
    go_wp2_with fail
    go_loopw [6] (fun q wr => ∃ k : Nat, k ≤ rn ∧ q = .int .i64 k ∧ Hid (Ext w6 wr ∧ ∀ j, j < k → Conn (aheadAt L) 0 j → ¬ Back (aheadAt L) j)) (fun q _ => rn - (intOf q).toNat)
    case atStart => exact ⟨0, Nat.zero_le _, rfl, Lib.hid ⟨Ext.rfl' _, fun j hj => absurd hj (Nat.not_lt_zero _)⟩⟩
    case round =>
      obtain ⟨k, hk, rfl, HI⟩ := hrel
      by_cases hlt : (k : Int) < rn
      · obtain ⟨b, hb⟩ := at_of_lt (xs := M) (k := k) (by have := hRN.out; omega)
        have hkL : k < L.length := by have := HN.out; omega
        have ix := fun W => HR6.out.run_at (P := Try.prog) el_bool.under el_bool.size .i64 (k : Int) (by omega) (by omega) W
        have cb := (HR6.out.ext HI.out.1).cell hb (j := 0) rfl
        simp only [Nat.mul_one, Nat.add_zero, Int.toNat_natCast] at ix cb
        have HBK := Lib.hid hb
        have HKL := Lib.hid hkL
        clear hb hkL
        cases b with
        | false =>
          go_wp2_with fail
          go_roundw
          case rel =>
            refine ⟨k + 1, by omega, by go_num, Lib.hid ⟨HI.out.1, fun j hj hc => ?_⟩⟩
            by_cases e : j = k
            · subst e
              have := (HAT.out j HKL.out).2 hc
              rw [HBK.out] at this
              cases this
            · exact HI.out.2 j (by omega) hc
          case measure => simp [intOf]; omega
        | true =>
          have hc := (HAT.out k HKL.out).1 HBK.out
          have h0s : (stF false L)[0]? = some true := (begins_iff.1 HBZ.out).2.2.2
          have hst := conn_start HP.out h0s hc
          obtain ⟨x, hx⟩ := at_of_lt (xs := L) (k := k) HKL.out
          have hA : aheadAt L k = aheadL L x k := by unfold aheadAt; rw [hx]
          have HC := Lib.hid hc
          have HST := Lib.hid hst
          have HX := Lib.hid hx
          have HA := Lib.hid hA
          have HXIN := Lib.hid (fun t (ht : t ∈ aheadL L x k) => within HP.out hst t (by rw [hA]; exact ht))
          clear hc h0s hst hx hA
          go_wp2_with fail
          refine (r16_ahead _ L k x _ (HD6.out.ext HI.out.1) HL.out HP.out HST.out HX.out (HOK.out.at HX.out)).mono ?_
          rintro e w7 ⟨v7, rfl, hO7, hE7⟩
          have HR7 := Lib.hid (hO7.rd (enc_int .i64))
          have HE7 := Lib.hid (HI.out.1.trans' hE7)
          clear hO7 hE7
          go_wp2_with fail
          refine (r16_reach _ _ L (aheadL L x k) _ (HD6.out.ext HE7.out) HR7.out HL.out HOK.out HP.out HXIN.out).mono ?_
          rintro e w8 ⟨v8, rfl, hO8, hE8⟩
          obtain ⟨qa, qn, qc, hqv, hqn, hQN⟩ := (hO8.rd enc_bool).val
          subst hqv
          have hnq : qn = rn := by rw [hQN.out, reachF_length, HN.out]
          subst hnq
          obtain ⟨b2, hb2⟩ := at_of_lt (xs := reachF L (aheadL L x k)) (k := k) (by rw [reachF_length]; exact HKL.out)
          have iy := fun W => (hO8.rd enc_bool).run_at (P := Try.prog) el_bool.under el_bool.size .i64 (k : Int) (by omega) (by omega) W
          have cy := (hO8.rd enc_bool).cell hb2 (j := 0) rfl
          simp only [Nat.mul_one, Nat.add_zero, Int.toNat_natCast] at iy cy
          have HE8 := Lib.hid (HE7.out.trans' hE8)
          have hbk : b2 = true ↔ Back (aheadAt L) k := by
            have h1 := reachF_at L (aheadL L x k) HKL.out
            rw [hb2] at h1
            constructor
            · rintro rfl
              obtain ⟨s, hs, hc⟩ := h1.1 rfl
              have := HXIN.out s hs
              exact ⟨s.toNat, by rw [HA.out, Int.toNat_of_nonneg this.1]; exact hs, hc⟩
            · rintro ⟨j, hj, hc⟩
              rw [HA.out] at hj
              have := h1.2 ⟨(j : Int), hj, by simpa using hc⟩
              simpa using this
          have HBB := Lib.hid hbk
          clear hO8 hE8 hb2 hbk
          cases b2 with
          | true =>
            have hl : lo = true := HIFF.out.2 ⟨k, HC.out, HBB.out.1 rfl⟩
            have HLT := Lib.hid hl
            clear hl
            go_wp2_with fail
            go_returns
            exact ⟨by rw [HLT.out]; rfl, HE6.out.trans' HE8.out⟩
          | false =>
            go_wp2_with fail
            go_roundw
            case rel =>
              refine ⟨k + 1, by omega, by go_num, Lib.hid ⟨HE8.out, fun j hj hc hbj => ?_⟩⟩
              by_cases e : j = k
              · subst e
                have := HBB.out.2 hbj
                cases this
              · exact HI.out.2 j (by omega) hc hbj
            case measure => simp [intOf]; omega
      · have hl : lo = false := by
          rw [Bool.eq_false_iff]
          intro h
          obtain ⟨i, hi, hbk⟩ := HIFF.out.1 h
          have hs := conn_start HP.out (begins_iff.1 HBZ.out).2.2.2 hi
          have := st_lt hs
          exact HI.out.2 i (by have := HN.out; omega) hi hbk
        have HLF := Lib.hid hl
        clear hl
        go_wp2_with fail
        go_returns
        exact ⟨by rw [HLF.out]; rfl, HE6.out.trans' HI.out.1⟩
end Go.Proofs.Ytkogkcjiachphaa
