/- hackleref16: begins, ahead, Ahead. -/
import Derived.Test.YtkogkcjiachphaaGHeads
namespace Go.Proofs.Ytkogkcjiachphaa
open Go.RowKit
set_option linter.unusedVariables false
set_option linter.unusedSimpArgs false

theorem filter_two {f : Nat → Bool} {p q : Nat} (hpq : p < q) : ∀ n, q < n → (∀ j, j < n → (f j = true ↔ j = p ∨ j = q)) → (List.range n).filter f = [p, q]
  | 0, h, _ => absurd h (Nat.not_lt_zero _)
  | n + 1, h, hf => by
    rw [List.range_succ, List.filter_append]
    by_cases e : q = n
    · subst e
      rw [filter_one q hpq (fun j hj => by
        have := hf j (by omega)
        rw [this]
        omega)]
      simp [(hf q (by omega)).2 (.inr rfl)]
    · rw [filter_two hpq n (by omega) (fun j hj => hf j (by omega))]
      have : f n = false := by
        rw [Bool.eq_false_iff]
        intro h2
        have := (hf n (by omega)).1 h2
        omega
      simp [this]
def onR (L : List Ins) (x : Ins) (k i : Nat) : Bool := ((i == nextI x k) && goesOn x) || (targetS L x k == some (i : Int))
def aheadU (L : List Ins) (x : Ins) (k m : Nat) : List Int := ((List.range m).filter (onR L x k)).map (fun j : Nat => (j : Int))
theorem aheadU_succ (L : List Ins) (x : Ins) (k m : Nat) : aheadU L x k (m + 1) = aheadU L x k m ++ appV (onR L x k m) m := by
  unfold aheadU appV
  rw [List.range_succ, List.filter_append, List.map_append]
  cases h : onR L x k m <;> simp [h]
theorem aheadU_length (L : List Ins) (x : Ins) (k m : Nat) : (aheadU L x k m).length ≤ m := by
  unfold aheadU
  rw [List.length_map]
  exact Nat.le_trans (List.length_filter_le _ _) (by simp)
/-- Where a program goes on, place by place. -/
theorem aheadU_eq {L : List Ins} (hp : ProgF L) {k : Nat} {x : Ins} (hk : (stF false L)[k]? = some true) (hx : L[k]? = some x) : aheadU L x k L.length = aheadL L x k := by
  have hin := fun t (ht : t ∈ aheadL L x k) => ahead_start hp hk hx ht
  have hon : ∀ j : Nat, onR L x k j = true ↔ (j : Int) ∈ aheadL L x k := fun j => by
    rw [mem_ahead]
    unfold onR
    simp only [Bool.or_eq_true, Bool.and_eq_true, beq_iff_eq]
    constructor
    · rintro (⟨h1, h2⟩ | h)
      · exact .inl ⟨h2, by omega⟩
      · exact .inr h
    · rintro (⟨h1, h2⟩ | h)
      · exact .inl ⟨by omega, h1⟩
      · exact .inr h
  rw [ahead_two] at hin hon ⊢
  unfold aheadU
  generalize goesOn x = o at *
  generalize nextI x k = a at *
  generalize ht : targetS L x k = p at *
  cases o <;> cases p
  · simp only [two, Bool.false_eq_true, if_false] at *
    rw [List.filter_eq_nil_iff.2 (fun j hj => by rw [hon]; simp)]
    rfl
  · rename_i t
    simp only [two, Bool.false_eq_true, if_false] at *
    obtain ⟨h0, h1, _⟩ := hin t (by simp)
    obtain ⟨tn, rfl⟩ : ∃ tn : Nat, t = tn := ⟨t.toNat, by omega⟩
    rw [filter_one L.length (p := tn) (by omega) (fun j hj => by rw [hon]; simp; omega)]
    rfl
  · simp only [two, if_true] at *
    obtain ⟨h0, h1, _⟩ := hin a (by simp)
    rw [filter_one L.length (p := a) (by omega) (fun j hj => by rw [hon]; simp; omega)]
    rfl
  · rename_i t
    simp only [two, if_true] at *
    by_cases h1 : (a : Int) < t
    · rw [if_pos h1] at hin hon ⊢
      obtain ⟨h0, h2, _⟩ := hin t (by simp)
      obtain ⟨tn, rfl⟩ : ∃ tn : Nat, t = tn := ⟨t.toNat, by omega⟩
      rw [filter_two (p := a) (q := tn) (by omega) L.length (by omega) (fun j hj => by rw [hon]; simp; omega)]
      rfl
    · rw [if_neg h1] at hin hon ⊢
      by_cases h2 : t < (a : Int)
      · rw [if_pos h2] at hin hon ⊢
        obtain ⟨h0, h3, _⟩ := hin t (by simp)
        obtain ⟨g0, g3, _⟩ := hin a (by simp)
        obtain ⟨tn, rfl⟩ : ∃ tn : Nat, t = tn := ⟨t.toNat, by omega⟩
        rw [filter_two (p := tn) (q := a) (by omega) L.length (by omega) (fun j hj => by rw [hon]; simp; omega)]
        rfl
      · rw [if_neg h2] at hin hon ⊢
        obtain ⟨g0, g3, _⟩ := hin a (by simp)
        rw [filter_one L.length (p := a) (by omega) (fun j hj => by rw [hon]; simp; omega)]
        rfl
set_option maxRecDepth 20000 in
set_option maxHeartbeats 1000000 in
theorem r16_begins (v : Value) (L : List Ins) (i : Int) (w : World) (h : Rd w 5 Ins.enc v L) (hl : L.length ≤ 1000000) (hok : InsOk L) : Calls Try.prog 61 #[v, .int .i64 i] w fun e w' => e = .returned (.bool (beginsS L i)) ∧ Ext w w' := by
  obtain ⟨a, n, c, rfl, hn, hN⟩ := h.val
  have HD := Lib.hid h
  have HOK := Lib.hid hok
  have HL := Lib.hid hl
  obtain ⟨R, hR⟩ : ∃ R, R = beginsS L i := ⟨_, rfl⟩
  rw [← hR]
  unfold beginsS at hR
  obtain ⟨p, hp⟩ : ∃ p, progS L = p := ⟨_, rfl⟩
  rw [hp, ← hN.out] at hR
  have HR := Lib.hid hR
  have HP := Lib.hid hp
  clear h hok hl hR hp
  go_enter Try.func61, Try.ntmps61
  go_wp2_with fail
  refine (r_Check _ L _ HD.out HL.out HOK.out).mono ?_
  rintro e w5 ⟨at_, er, rfl, her, hE⟩
  rw [HP.out] at her
  have HE := Lib.hid hE
  clear hE
  cases p with
  | false =>
    have hne : (er == 0) = false := by simpa using her
    clear her
    go_wp2_with fail
    go_returns
    exact ⟨by rw [HR.out]; rfl, HE.out⟩
  | true =>
    obtain rfl : er = 0 := by simpa using her
    clear her
    by_cases h0 : 0 ≤ i
    · by_cases h1 : i < n
      · go_wp2_with fail
        refine (r_Starts _ L _ (HD.out.ext HE.out) HL.out).mono ?_
        rintro e w6 ⟨s, rfl, hO, hE6⟩
        have hRd := hO.rd enc_bool
        obtain ⟨sa, sn, sc, rfl, hsn, hSN⟩ := hRd.val
        obtain rfl : sn = n := by rw [hSN.out, stF_length, hN.out]
        obtain ⟨b, hb⟩ := at_of_lt (xs := stF false L) (k := i.toNat) (by have := hSN.out; omega)
        have ix := fun W => hRd.run_at (P := Try.prog) el_bool.under el_bool.size .i64 i (by omega) (by omega) W
        have cb := hRd.cell hb (j := 0) rfl
        simp only [Nat.mul_one, Nat.add_zero] at ix cb
        have HB := Lib.hid hb
        have HE6 := Lib.hid hE6
        clear hb hE6 hO hRd
        go_wp2_with fail
        go_returns
        exact ⟨by rw [HR.out, HB.out, decide_eq_true h0, decide_eq_true h1]; cases b <;> rfl, HE.out.trans' HE6.out⟩
      · go_wp2_with fail
        go_returns
        exact ⟨by rw [HR.out, decide_eq_false (by omega : ¬ i < (n : Int))]; simp, HE.out⟩
    · go_wp2_with fail
      go_returns
      exact ⟨by rw [HR.out, decide_eq_false (by omega : ¬ 0 ≤ i)]; simp, HE.out⟩
set_option maxRecDepth 20000 in
set_option maxHeartbeats 4000000 in
theorem r16_aheadU (v : Value) (L : List Ins) (k : Nat) (x : Ins) (w : World) (h : Rd w 5 Ins.enc v L) (hl : L.length ≤ 1000000) (hx : L[k]? = some x) (hok : x.Ok) : Calls Try.prog 62 #[v, .int .i64 k] w (OwnA (aheadU L x k L.length) w) := by
  obtain ⟨a, n, c, rfl, hn, hN⟩ := h.val
  have hk : k < n := by rw [hN.out]; exact (List.getElem?_eq_some_iff.1 hx).1
  have hk2 : n ≤ 1000000 := by rw [hN.out]; exact hl
  have ix := fun W => h.run_at (P := Try.prog) el_ins.under el_ins.size .i64 (k : Int) (by omega) (by omega) W
  simp only [Int.toNat_natCast] at ix
  have HD := Lib.hid h
  have HX := Lib.hid hx
  have HOK := Lib.hid hok
  have HL := Lib.hid hl
  have HN := Lib.hid hN.out
  obtain ⟨y, hy⟩ : ∃ y, (whatS x).getD Wh.zero = y := ⟨_, rfl⟩
  obtain ⟨k12, hk12⟩ : ∃ z, (y.kind != 12) = z := ⟨_, rfl⟩
  obtain ⟨k9, hk9⟩ : ∃ z, (y.kind != 9) = z := ⟨_, rfl⟩
  have hgo : goesOn x = (k12 && k9) := by unfold goesOn whatZ; rw [hy, hk12, hk9]
  have HGO := Lib.hid hgo
  have HY := Lib.hid hy
  clear h hx hok hl hy hgo
  obtain ⟨c0, c1, c2, c3, c4⟩ := ins_cells HD.out HX.out
  go_enter Try.func62, Try.ntmps62
  go_upto_region 2 with fail
  go_cut [6] from 6 to 20 (fun v6 wx => ∃ q, v6 = .pointer (some ⟨q, 0, none⟩) ∧ Hid (Ext w wx ∧ wx.heap[q]? = some (whObj y)))
  case first =>
    go_wp2_with fail
    refine (r_What x _ HOK.out).mono ?_
    unfold WhatA
    rw [HY.out]
    rintro e w7 ⟨rfl, hE7⟩
    have HE7 := Lib.hid hE7
    clear hE7
    go_wp2_with fail
    go_meet
    refine ⟨_, rfl, Lib.hid ⟨HE7.out.alloc' _, ?_⟩⟩
    (repeat (first | (refine obj_top _ _ ?_; simp; done) | refine obj_old _ ?_))
  case rest =>
    obtain ⟨q, rfl, HW⟩ := hcut
    clear c0 c1 c2 c3 c4 ix
    go_wp2_with fail
    refine (r_Next _ L k x _ (HD.out.ext HW.out.1) HL.out HX.out).mono ?_
    rintro e w3 ⟨rfl, hE3⟩
    have HE3 := Lib.hid (HW.out.1.trans' hE3)
    have HQ3 := Lib.hid (hE3.obj HW.out.2)
    clear hE3 HW
    go_wp2_with fail
    refine (r_Target _ L k x _ (HD.out.ext HE3.out) HL.out HX.out HOK.out).mono ?_
    unfold OptA
    obtain ⟨o, ho⟩ : ∃ o, targetS L x k = o := ⟨_, rfl⟩
    rw [ho]
    rintro e w4 ⟨rfl, hE4⟩
    have HE4 := Lib.hid (HE3.out.trans' hE4)
    have HQ4 := Lib.hid (hE4.obj HQ3.out)
    have HTO := Lib.hid ho
    clear hE4 ho HE3 HQ3
    obtain ⟨t0, ht0⟩ : ∃ t0, o.getD 0 = t0 := ⟨_, rfl⟩
    obtain ⟨bs, hbs⟩ : ∃ bs, o.isSome = bs := ⟨_, rfl⟩
    rw [ht0, hbs]
    have HOT : Hid (∀ m : Nat, (o == some (m : Int)) = (bs && ((m : Int) == t0))) := Lib.hid (fun m => by
      rw [← ht0, ← hbs]
      cases o with
      | none => rfl
      | some u =>
        by_cases e : u = (m : Int)
        · subst e; simp
        · have h2 : ¬ (m : Int) = u := fun h => e h.symm
          have : (some u == some (m : Int)) = false := by simpa using e
          rw [this]
          simp [h2])
    have hnx : nextI x k ≤ 1000002 := by have := nextI_le x k; omega
    obtain ⟨nx, hnx2⟩ : ∃ nx, nextI x k = nx := ⟨_, rfl⟩
    rw [hnx2] at hnx
    have HNX := Lib.hid hnx2
    clear ht0 hbs
    rw [hnx2]
    clear hnx2
    go_wp2_with fail
    go_loopw [5, 11] (fun o5 q11 wr => ∃ m : Nat, m ≤ n ∧ q11 = .int .i64 m ∧ (∃ a n c, o5 = .slice a n c) ∧ Hid (Own wr w4.heap.size 3 1 encI o5 (aheadU L x k m) ∧ Ext w wr ∧ Ext w4 wr)) (fun _ q11 _ => n - (intOf q11).toNat)
    case atStart => exact ⟨0, Nat.zero_le _, rfl, ⟨_, _, _, rfl⟩, Lib.hid ⟨Own.nil _ _ _ _ _, HE4.out, Ext.rfl' _⟩⟩
    case round =>
      obtain ⟨m, hm, rfl, ⟨oa, on, oc, rfl⟩, HI⟩ := hrel
      by_cases hlt : (m : Int) < n
      · have q0 := cell_obj (i := 0) (HI.out.2.2.obj HQ4.out)
        simp only [List.getElem?_toArray, List.getElem?_cons_zero, List.getElem?_cons_succ] at q0
        obtain ⟨z1, hz1⟩ : ∃ z, ((m : Int) == (nx : Int)) = z := ⟨_, rfl⟩
        obtain ⟨z2, hz2⟩ : ∃ z, ((m : Int) == t0) = z := ⟨_, rfl⟩
        have hz1' : (m == nx) = z1 := by
          rw [← hz1, Bool.eq_iff_iff]
          simp only [beq_iff_eq]
          omega
        have hon : onR L x k m = ((z1 && (k12 && k9)) || (bs && z2)) := by unfold onR; rw [HNX.out, HTO.out, HOT.out, hz1', hz2, HGO.out]
        have HON := Lib.hid hon
        clear hon hz1'
        go_upto_region 8 with fail
        go_cut [12] from 36 to 48 (fun v12 wx => v12 = .bool (z1 && (k12 && k9)) ∧ wx = wr)
        case first =>
          cases z1
          · go_wp2_with fail
            go_meet
            exact ⟨rfl, rfl⟩
          · cases k12
            · go_wp2_with fail
              go_meet
              exact ⟨rfl, rfl⟩
            · go_wp2_with fail
              go_meet
              exact ⟨rfl, rfl⟩
        case rest =>
          obtain ⟨rfl, hwc⟩ := hcut
          obtain rfl := hwc.symm
          generalize (z1 && (k12 && k9)) = on0 at *
          go_upto_region 9 with fail
          go_cut [57] from 49 to 57 (fun v57 wx => v57 = .bool (on0 || (bs && z2)) ∧ wx = wr)
          case first =>
            cases on0
            · cases bs
              · go_wp2_with fail
                go_meet
                exact ⟨rfl, rfl⟩
              · go_wp2_with fail
                go_meet
                exact ⟨rfl, rfl⟩
            · go_wp2_with fail
              go_meet
              exact ⟨rfl, rfl⟩
          case rest =>
            obtain ⟨rfl, hwc⟩ := hcut
            obtain rfl := hwc.symm
            generalize (on0 || (bs && z2)) = fin at *
            clear q0 hz1 hz2
            cases fin with
            | false =>
              go_wp2_with fail
              go_roundw
              case rel => exact ⟨m + 1, by omega, by go_num, ⟨_, _, _, rfl⟩, Lib.hid ⟨by rw [aheadU_succ, HON.out]; simpa [appV] using HI.out.1, HI.out.2⟩⟩
              case measure => simp [intOf]; omega
            | true =>
              go_wp2_with (at_builtin; refine app_own el_int (enc_int .i64) rfl _ _ rfl rfl (HI.out.1.alloc _) rfl (ys := [(m : Int)]) ?q1 ?q2 ?q3 ?q4)
              case q1 => exact rd_one _ _
              case q2 => have := aheadU_length L x k m; (try simp); omega
              case q3 => have := HI.out.2.2.size; (try simp); omega
              intro v' w9 hown hgrow hmv
              have HO := Lib.hid hown
              have HE49 : Hid (Ext w4 w9) := Lib.hid (hmv _ _ (HI.out.2.2.alloc' _) (Nat.le_refl _))
              have HE9 : Hid (Ext w w9) := Lib.hid (HE4.out.trans' HE49.out)
              clear hown hgrow hmv
              obtain ⟨qa, qn, qc, hqv, hqn, hQN⟩ := (HO.out.rd (enc_int .i64)).val
              subst hqv
              go_wp2_with fail
              go_roundw
              case rel => exact ⟨m + 1, by omega, by go_num, ⟨_, _, _, rfl⟩, Lib.hid ⟨by rw [aheadU_succ, HON.out]; exact HO.out, HE9.out, HE49.out⟩⟩
              case measure => simp [intOf]; omega
      · obtain rfl : m = n := by omega
        go_wp2_with fail
        go_returns
        exact ⟨_, rfl, by rw [← HN.out]; exact HI.out.1.mono HE4.out.size, HI.out.2.1⟩
theorem r16_ahead (v : Value) (L : List Ins) (k : Nat) (x : Ins) (w : World) (h : Rd w 5 Ins.enc v L) (hl : L.length ≤ 1000000) (hp : progS L = true) (hs : (stF false L)[k]? = some true) (hx : L[k]? = some x) (hok : x.Ok) : Calls Try.prog 62 #[v, .int .i64 k] w (OwnA (aheadL L x k) w) := by
  rw [← aheadU_eq (ProgF.of hp) hs hx]
  exact r16_aheadU v L k x w h hl hx hok
theorem r16_Ahead (v : Value) (L : List Ins) (i : Int) (w : World) (h : Rd w 5 Ins.enc v L) (hl : L.length ≤ 1000000) (hok : InsOk L) : Calls Try.prog 20 #[v, .int .i64 i] w (OwnA (aheadV L i) w) := by
  have HD := Lib.hid h
  have HOK := Lib.hid hok
  have HL := Lib.hid hl
  clear h hok hl
  unfold aheadV
  cases hb : beginsS L i with
  | false =>
    have HB := Lib.hid hb
    clear hb
    simp only [Bool.false_eq_true, if_false]
    go_enter Try.func20, Try.ntmps20
    go_wp2_with fail
    refine (r16_begins _ L i _ HD.out HL.out HOK.out).mono ?_
    rw [HB.out]
    rintro e w5 ⟨rfl, hE⟩
    have HE := Lib.hid hE
    clear hE
    go_wp2_with fail
    go_returns
    exact ⟨_, rfl, Own.nil _ _ _ _ _, HE.out⟩
  | true =>
    obtain ⟨hp, h0, h1, hs⟩ := begins_iff.1 hb
    obtain ⟨k, rfl⟩ : ∃ k : Nat, i = k := ⟨i.toNat, by omega⟩
    obtain ⟨x, hx⟩ := at_of_lt (xs := L) (k := k) (by omega)
    rw [Int.toNat_natCast] at hs
    simp only [if_true, Int.toNat_natCast, hx]
    have HB := Lib.hid hb
    have HX := Lib.hid hx
    have HP := Lib.hid hp
    have HS := Lib.hid hs
    clear hb hx h0 h1 hp hs
    go_enter Try.func20, Try.ntmps20
    go_wp2_with fail
    refine (r16_begins _ L k _ HD.out HL.out HOK.out).mono ?_
    rw [HB.out]
    rintro e w5 ⟨rfl, hE⟩
    have HE := Lib.hid hE
    clear hE
    go_wp2_with fail
    refine (r16_ahead _ L k x _ (HD.out.ext HE.out) HL.out HP.out HS.out HX.out (HOK.out.at HX.out)).mono ?_
    rintro e w6 ⟨v6, rfl, hO, hE6⟩
    have HO := Lib.hid hO
    have HE6 := Lib.hid hE6
    clear hO hE6
    go_wp2_with fail
    go_returns
    exact ⟨_, rfl, HO.out.mono HE.out.size, HE.out.trans' HE6.out⟩
set_option maxHeartbeats 400000 in
theorem r16_in (v : Value) (xs : List Int) (y : Int) (w : World) (h : Rd w 1 encI v xs) :
    Calls Try.prog 63 #[v, .int .i64 y] w fun e w' => e = .returned (.bool (xs.contains y)) ∧ w' = w := by
  obtain ⟨a, n, c, rfl, hn, hN⟩ := h.val
  have HV := Lib.hid h
  clear h
  go_enter Try.func63, Try.ntmps63
  go_wp2
  go_loop [5] (fun i => ∃ k : Nat, k ≤ n ∧ i = .int .i64 k ∧ Hid ((xs.take k).contains y = false)) (fun i => n - (intOf i).toNat)
  case atStart => exact ⟨0, Nat.zero_le _, rfl, Lib.hid rfl⟩
  case round =>
    obtain ⟨k, hk, rfl, HK⟩ := hrel
    by_cases hlt : k < n
    · obtain ⟨x, hx⟩ := at_of_lt (xs := xs) (k := k) (by have := hN.out; omega)
      have ia := fun W => HV.out.run_at (P := Try.prog) el_int.under el_int.size .i64 (k : Int) (by omega) (by omega) W
      have ca := HV.out.cell hx (j := 0) rfl
      simp only [Nat.mul_one, Nat.add_zero, Int.toNat_natCast] at ia ca
      have HX := Lib.hid hx
      clear hx
      by_cases hy : y = x
      · have hb : (x == y) = true := by simpa using hy.symm
        have HY := Lib.hid hy
        clear hy
        go_wp2
        go_returns
        have : y ∈ xs := by rw [HY.out]; exact List.mem_of_getElem? HX.out
        exact ⟨by simp [this], rfl⟩
      · have hb : (x == y) = false := by simpa using fun e => hy e.symm
        have HY := Lib.hid hy
        clear hy
        go_wp2
        go_round
        case rel => exact ⟨k + 1, by omega, by go_num, Lib.hid (contains_take HK.out HX.out HY.out)⟩
        case measure => simp [intOf]; omega
    · go_wp2
      go_returns
      have h := HK.out
      rw [List.take_of_length_le (by have := hN.out; omega)] at h
      exact ⟨by rw [show decide (y ∈ xs) = false by simpa using h]; rfl, rfl⟩
set_option maxRecDepth 20000 in
set_option maxHeartbeats 4000000 in
theorem r16_Behind (v : Value) (L : List Ins) (i : Int) (w : World) (h : Rd w 5 Ins.enc v L) (hl : L.length ≤ 1000000) (hok : InsOk L) : Calls Try.prog 21 #[v, .int .i64 i] w (OwnA (behindL L i) w) := by
  obtain ⟨a, n, c, rfl, hn, hN⟩ := h.val
  have hk2 : n ≤ 1000000 := by rw [hN.out]; exact hl
  have HD := Lib.hid h
  have HOK := Lib.hid hok
  have HL := Lib.hid hl
  clear h hok hl
  unfold behindL
  cases hb : beginsS L i with
  | false =>
    have HB := Lib.hid hb
    clear hb
    simp only [Bool.false_eq_true, if_false]
    go_enter Try.func21, Try.ntmps21
    go_wp2_with fail
    refine (r16_begins _ L i _ HD.out HL.out HOK.out).mono ?_
    rw [HB.out]
    rintro e w5 ⟨rfl, hE⟩
    have HE := Lib.hid hE
    clear hE
    go_wp2_with fail
    go_returns
    exact ⟨_, rfl, Own.nil _ _ _ _ _, HE.out⟩
  | true =>
    have HP := Lib.hid (begins_iff.1 hb).1
    have HB := Lib.hid hb
    clear hb
    simp only [if_true]
    go_enter Try.func21, Try.ntmps21
    go_wp2_with fail
    refine (r16_begins _ L i _ HD.out HL.out HOK.out).mono ?_
    rw [HB.out]
    rintro e w5 ⟨rfl, hE⟩
    have HE := Lib.hid hE
    clear hE
    go_wp2_with fail
    refine (r_Starts _ L _ (HD.out.ext HE.out) HL.out).mono ?_
    rintro e w6 ⟨s, rfl, hO, hE6⟩
    have hR := hO.rd enc_bool
    obtain ⟨sa, sn, sc, rfl, hsn, hSN⟩ := hR.val
    obtain rfl : sn = n := by rw [hSN.out, stF_length, hN.out]
    have HR := Lib.hid hR
    have HE6 := Lib.hid (HE.out.trans' hE6)
    clear hO hR hE6 HE
    go_wp2_with fail
    go_loopw [7, 5] (fun q o wr => ∃ k : Nat, k ≤ sn ∧ q = .int .i64 k ∧ (∃ a n c, o = .slice a n c) ∧ Hid (Own wr w6.heap.size 3 1 encI o (behUpto L i k) ∧ Ext w wr ∧ Ext w6 wr)) (fun q _ _ => sn - (intOf q).toNat)
    case atStart => exact ⟨0, Nat.zero_le _, rfl, ⟨_, _, _, rfl⟩, Lib.hid ⟨Own.nil _ _ _ _ _, HE6.out, Ext.rfl' _⟩⟩
    case round =>
      obtain ⟨k, hk, rfl, ⟨oa, on, oc, rfl⟩, HI⟩ := hrel
      by_cases hlt : (k : Int) < sn
      · obtain ⟨b, hb⟩ := at_of_lt (xs := stF false L) (k := k) (by have := hSN.out; omega)
        obtain ⟨x, hx⟩ := at_of_lt (xs := L) (k := k) (by have := hN.out; omega)
        have ix := fun W => (HR.out.ext HI.out.2.2).run_at (P := Try.prog) el_bool.under el_bool.size .i64 (k : Int) (by omega) (by omega) W
        have cb := (HR.out.ext HI.out.2.2).cell hb (j := 0) rfl
        simp only [Nat.mul_one, Nat.add_zero, Int.toNat_natCast] at ix cb
        have HSB := Lib.hid hb
        have HX := Lib.hid hx
        clear hb hx
        cases b with
        | false =>
          have hz : isBehind L i k = false := by unfold isBehind; rw [HSB.out]
          have HZ := Lib.hid hz
          clear hz
          go_wp2_with fail
          go_roundw
          case rel => exact ⟨k + 1, by omega, by go_num, ⟨_, _, _, rfl⟩, Lib.hid ⟨by rw [behUpto_succ, HZ.out]; simpa [appV] using HI.out.1, HI.out.2⟩⟩
          case measure => simp [intOf]; omega
        | true =>
          go_wp2_with fail
          refine (r16_ahead _ L k x _ (HD.out.ext HI.out.2.1) HL.out HP.out HSB.out HX.out (HOK.out.at HX.out)).mono ?_
          rintro e w7 ⟨v7, rfl, hO7, hE7⟩
          have hR7 := hO7.rd (enc_int .i64)
          have HR7 := Lib.hid hR7
          have HE7 := Lib.hid hE7
          clear hO7 hE7
          obtain ⟨ta, tn, tc, htv, htn, hTN⟩ := hR7.val
          clear hR7
          subst htv
          go_wp2_with fail
          refine (r16_in _ _ i _ HR7.out).mono ?_
          obtain ⟨z, hz⟩ : ∃ z, (aheadL L x k).contains i = z := ⟨_, rfl⟩
          rw [hz]
          have hz2 : isBehind L i k = z := by unfold isBehind; rw [HSB.out, HX.out]; exact hz
          have HZ := Lib.hid hz2
          clear hz hz2
          rintro e w8 ⟨rfl, rfl⟩
          cases z with
          | false =>
            go_wp2_with fail
            go_roundw
            case rel => exact ⟨k + 1, by omega, by go_num, ⟨_, _, _, rfl⟩, Lib.hid ⟨by rw [behUpto_succ, HZ.out]; simpa [appV] using HI.out.1.ext HE7.out, HI.out.2.1.trans' HE7.out, HI.out.2.2.trans' HE7.out⟩⟩
            case measure => simp [intOf]; omega
          | true =>
            go_wp2_with (at_builtin; refine app_own el_int (enc_int .i64) rfl _ _ rfl rfl ((HI.out.1.ext HE7.out).alloc _) rfl (ys := [(k : Int)]) ?q1 ?q2 ?q3 ?q4)
            case q1 => exact rd_one _ _
            case q2 => have := behUpto_length L i k; simp; omega
            case q3 => have := HI.out.2.2.size; have := HE7.out.size; simp; omega
            intro v' w9 hown hgrow hmv
            have HO := Lib.hid hown
            have HE69 : Hid (Ext w6 w9) := Lib.hid (hmv _ _ ((HI.out.2.2.trans' HE7.out).alloc' _) (Nat.le_refl _))
            have HE9 : Hid (Ext w w9) := Lib.hid (HE6.out.trans' HE69.out)
            clear hown hgrow hmv
            obtain ⟨qa, qn, qc, hqv, hqn, hQN⟩ := (HO.out.rd (enc_int .i64)).val
            subst hqv
            go_wp2_with fail
            go_roundw
            case rel => exact ⟨k + 1, by omega, by go_num, ⟨_, _, _, rfl⟩, Lib.hid ⟨by rw [behUpto_succ, HZ.out]; exact HO.out, HE9.out, HE69.out⟩⟩
            case measure => simp [intOf]; omega
      · obtain rfl : k = sn := by omega
        have HNN := Lib.hid hN.out
        go_wp2_with fail
        go_returns
        exact ⟨_, rfl, by rw [← HNN.out]; exact HI.out.1.mono HE6.out.size, HI.out.2.1⟩
end Go.Proofs.Ytkogkcjiachphaa
