/- graph: Behind, Heads. -/
import Derived.Test.YtkogkcjiachphaaGrA
namespace Go.Proofs.Ytkogkcjiachphaa
open Go.RowKit
set_option linter.unusedVariables false
set_option linter.unusedSimpArgs false

def isBehind (L : List Ins) (i : Int) (j : Nat) : Bool := match (stF false L)[j]?, L[j]? with | some true, some x => (aheadL L x j).contains i | _, _ => false
def behUpto (L : List Ins) (i : Int) (k : Nat) : List Int := ((List.range k).filter (isBehind L i)).map (fun j : Nat => (j : Int))
def behindL (L : List Ins) (i : Int) : List Int := if beginsS L i then behUpto L i L.length else []
theorem behUpto_succ (L : List Ins) (i : Int) (k : Nat) : behUpto L i (k + 1) = behUpto L i k ++ appV (isBehind L i k) k := by
  unfold behUpto appV
  rw [List.range_succ, List.filter_append, List.map_append]
  cases h : isBehind L i k <;> simp [h]
theorem behUpto_length (L : List Ins) (i : Int) (k : Nat) : (behUpto L i k).length ≤ k := by
  unfold behUpto
  rw [List.length_map]
  exact Nat.le_trans (List.length_filter_le _ _) (by simp)
theorem begins_off {L : List Ins} {i : Int} (h : beginsS L i = false) : behindL L i = [] := by rw [behindL, h]; rfl
set_option maxRecDepth 20000 in
set_option maxHeartbeats 4000000 in
theorem p_Behind (v : Value) (L : List Ins) (i : Int) (w : World) (h : Rd w 5 Ins.enc v L) (hl : L.length ≤ 1000000) (hok : InsOk L) : Calls Try.prog 15 #[v, .int .i64 i] w (OwnA (behindL L i) w) := by
  obtain ⟨a, n, c, rfl, hn, hN⟩ := h.val
  have hk2 : n ≤ 1000000 := by rw [hN.out]; exact hl
  have HD := Lib.hid h
  have HOK := Lib.hid hok
  have HL := Lib.hid hl
  clear h hok hl
  unfold behindL
  cases hb : beginsS L i with
  | false =>
    have HB := Lib.hid hb
    clear hb
    simp only [Bool.false_eq_true, if_false]
    go_enter Try.func15, Try.ntmps15
    go_wp2_with fail
    refine (p_begins _ L i _ HD.out HL.out HOK.out).mono ?_
    rw [HB.out]
    rintro e w5 ⟨rfl, hE⟩
    have HE := Lib.hid hE
    clear hE
    go_wp2_with fail
    go_returns
    exact ⟨_, rfl, Own.nil _ _ _ _ _, HE.out⟩
  | true =>
    have HB := Lib.hid hb
    clear hb
    simp only [if_true]
    go_enter Try.func15, Try.ntmps15
    go_wp2_with fail
    refine (p_begins _ L i _ HD.out HL.out HOK.out).mono ?_
    rw [HB.out]
    rintro e w5 ⟨rfl, hE⟩
    have HE := Lib.hid hE
    clear hE
    go_wp2_with fail
    refine (p_Starts _ L _ (HD.out.ext HE.out) HL.out).mono ?_
    rintro e w6 ⟨s, rfl, hO, hE6⟩
    have hR := hO.rd enc_bool
    obtain ⟨sa, sn, sc, rfl, hsn, hSN⟩ := hR.val
    obtain rfl : sn = n := by rw [hSN.out, stF_length, hN.out]
    have HR := Lib.hid hR
    have HE6 := Lib.hid (HE.out.trans' hE6)
    clear hO hR hE6 HE
    go_wp2_with fail
    go_loopw [15, 5] (fun q o wr => ∃ k : Nat, k ≤ sn ∧ q = .int .i64 k ∧ (∃ a n c, o = .slice a n c) ∧ Hid (Own wr w6.heap.size 3 1 encI o (behUpto L i k) ∧ Ext w wr ∧ Ext w6 wr)) (fun q _ _ => sn - (intOf q).toNat)
    case atStart => exact ⟨0, Nat.zero_le _, rfl, ⟨_, _, _, rfl⟩, Lib.hid ⟨Own.nil _ _ _ _ _, HE6.out, Ext.rfl' _⟩⟩
    case round =>
      obtain ⟨k, hk, rfl, ⟨oa, on, oc, rfl⟩, HI⟩ := hrel
      by_cases hlt : (k : Int) < sn
      · obtain ⟨b, hb⟩ := at_of_lt (xs := stF false L) (k := k) (by have := hSN.out; omega)
        obtain ⟨x, hx⟩ := at_of_lt (xs := L) (k := k) (by have := hN.out; omega)
        have ix := fun W => (HR.out.ext HI.out.2.2).run_at (P := Try.prog) el_bool.under el_bool.size .i64 (k : Int) (by omega) (by omega) W
        have cb := (HR.out.ext HI.out.2.2).cell hb (j := 0) rfl
        simp only [Nat.mul_one, Nat.add_zero, Int.toNat_natCast] at ix cb
        have HSB := Lib.hid hb
        have HX := Lib.hid hx
        clear hb hx
        cases b with
        | false =>
          have hz : isBehind L i k = false := by unfold isBehind; rw [HSB.out]
          have HZ := Lib.hid hz
          clear hz
          go_wp2_with fail
          go_roundw
          case rel => exact ⟨k + 1, by omega, by go_num, ⟨_, _, _, rfl⟩, Lib.hid ⟨by rw [behUpto_succ, HZ.out]; simpa [appV] using HI.out.1, HI.out.2⟩⟩
          case measure => simp [intOf]; omega
        | true =>
          go_wp2_with fail
          refine (p_ahead _ L k x _ (HD.out.ext HI.out.2.1) HL.out HX.out (HOK.out.at HX.out)).mono ?_
          rintro e w7 ⟨v7, rfl, hO7, hE7⟩
          have hR7 := hO7.rd (enc_int .i64)
          have HR7 := Lib.hid hR7
          have HE7 := Lib.hid hE7
          clear hO7 hE7
          obtain ⟨ta, tn, tc, htv, htn, hTN⟩ := hR7.val
          clear hR7
          subst htv
          go_wp2_with fail
          refine (contains_int _ _ i _ HR7.out).mono ?_
          obtain ⟨z, hz⟩ : ∃ z, (aheadL L x k).contains i = z := ⟨_, rfl⟩
          rw [hz]
          have hz2 : isBehind L i k = z := by unfold isBehind; rw [HSB.out, HX.out]; exact hz
          have HZ := Lib.hid hz2
          clear hz hz2
          rintro e w8 ⟨rfl, rfl⟩
          cases z with
          | false =>
            go_wp2_with fail
            go_roundw
            case rel => exact ⟨k + 1, by omega, by go_num, ⟨_, _, _, rfl⟩, Lib.hid ⟨by rw [behUpto_succ, HZ.out]; simpa [appV] using HI.out.1.ext HE7.out, HI.out.2.1.trans' HE7.out, HI.out.2.2.trans' HE7.out⟩⟩
            case measure => simp [intOf]; omega
          | true =>
            go_wp2_with (at_builtin; refine app_own el_int (enc_int .i64) rfl _ _ rfl rfl ((HI.out.1.ext HE7.out).alloc _) rfl (ys := [(k : Int)]) ?q1 ?q2 ?q3 ?q4)
            case q1 => exact rd_one _ _
            case q2 => have := behUpto_length L i k; simp; omega
            case q3 => have := HI.out.2.2.size; have := HE7.out.size; simp; omega
            intro v' w9 hown hgrow hmv
            have HO := Lib.hid hown
            have HE69 : Hid (Ext w6 w9) := Lib.hid (hmv _ _ ((HI.out.2.2.trans' HE7.out).alloc' _) (Nat.le_refl _))
            have HE9 : Hid (Ext w w9) := Lib.hid (HE6.out.trans' HE69.out)
            clear hown hgrow hmv
            obtain ⟨qa, qn, qc, hqv, hqn, hQN⟩ := (HO.out.rd (enc_int .i64)).val
            subst hqv
            go_wp2_with fail
            go_roundw
            case rel => exact ⟨k + 1, by omega, by go_num, ⟨_, _, _, rfl⟩, Lib.hid ⟨by rw [behUpto_succ, HZ.out]; exact HO.out, HE9.out, HE69.out⟩⟩
            case measure => simp [intOf]; omega
      · obtain rfl : k = sn := by omega
        have HNN := Lib.hid hN.out
        go_wp2_with fail
        go_returns
        exact ⟨_, rfl, by rw [← HNN.out]; exact HI.out.1.mono HE6.out.size, HI.out.2.1⟩
end Go.Proofs.Ytkogkcjiachphaa
