/- hackleref16: begins, ahead, Ahead. · hackleref16: reach. · hackleref16: Reach, Loops. · hackleref16: Heads. -/
import Derived.Test.YtkogkcjiachphaaGHeads
namespace Go.Proofs.Ytkogkcjiachphaa
open Go.RowKit
set_option linter.unusedVariables false
set_option linter.unusedSimpArgs false

theorem filter_two {f : Nat → Bool} {p q : Nat} (hpq : p < q) : ∀ n, q < n → (∀ j, j < n → (f j = true ↔ j = p ∨ j = q)) → (List.range n).filter f = [p, q]
  | 0, h, _ => absurd h (Nat.not_lt_zero _)
  | n + 1, h, hf => by
    rw [List.range_succ, List.filter_append]
    by_cases e : q = n
    · subst e
      rw [filter_one q hpq (fun j hj => by
        have := hf j (by omega)
        rw [this]
        omega)]
      simp [(hf q (by omega)).2 (.inr rfl)]
    · rw [filter_two hpq n (by omega) (fun j hj => hf j (by omega))]
      have : f n = false := by
        rw [Bool.eq_false_iff]
        intro h2
        have := (hf n (by omega)).1 h2
        omega
      simp [this]
def onR (L : List Ins) (x : Ins) (k i : Nat) : Bool := ((i == nextI x k) && goesOn x) || (targetS L x k == some (i : Int))
def aheadU (L : List Ins) (x : Ins) (k m : Nat) : List Int := ((List.range m).filter (onR L x k)).map (fun j : Nat => (j : Int))
theorem aheadU_succ (L : List Ins) (x : Ins) (k m : Nat) : aheadU L x k (m + 1) = aheadU L x k m ++ appV (onR L x k m) m := by
  unfold aheadU appV
  rw [List.range_succ, List.filter_append, List.map_append]
  cases h : onR L x k m <;> simp [h]
theorem aheadU_length (L : List Ins) (x : Ins) (k m : Nat) : (aheadU L x k m).length ≤ m := by
  unfold aheadU
  rw [List.length_map]
  exact Nat.le_trans (List.length_filter_le _ _) (by simp)
/-- Where a program goes on, place by place. -/
theorem aheadU_eq {L : List Ins} (hp : ProgF L) {k : Nat} {x : Ins} (hk : (stF false L)[k]? = some true) (hx : L[k]? = some x) : aheadU L x k L.length = aheadL L x k := by
  have hin := fun t (ht : t ∈ aheadL L x k) => ahead_start hp hk hx ht
  have hon : ∀ j : Nat, onR L x k j = true ↔ (j : Int) ∈ aheadL L x k := fun j => by
    rw [mem_ahead]
    unfold onR
    simp only [Bool.or_eq_true, Bool.and_eq_true, beq_iff_eq]
    constructor
    · rintro (⟨h1, h2⟩ | h)
      · exact .inl ⟨h2, by omega⟩
      · exact .inr h
    · rintro (⟨h1, h2⟩ | h)
      · exact .inl ⟨by omega, h1⟩
      · exact .inr h
  rw [ahead_two] at hin hon ⊢
  unfold aheadU
  generalize goesOn x = o at *
  generalize nextI x k = a at *
  generalize ht : targetS L x k = p at *
  cases o <;> cases p
  · simp only [two, Bool.false_eq_true, if_false] at *
    rw [List.filter_eq_nil_iff.2 (fun j hj => by rw [hon]; simp)]
    rfl
  · rename_i t
    simp only [two, Bool.false_eq_true, if_false] at *
    obtain ⟨h0, h1, _⟩ := hin t (by simp)
    obtain ⟨tn, rfl⟩ : ∃ tn : Nat, t = tn := ⟨t.toNat, by omega⟩
    rw [filter_one L.length (p := tn) (by omega) (fun j hj => by rw [hon]; simp; omega)]
    rfl
  · simp only [two, if_true] at *
    obtain ⟨h0, h1, _⟩ := hin a (by simp)
    rw [filter_one L.length (p := a) (by omega) (fun j hj => by rw [hon]; simp; omega)]
    rfl
  · rename_i t
    simp only [two, if_true] at *
    by_cases h1 : (a : Int) < t
    · rw [if_pos h1] at hin hon ⊢
      obtain ⟨h0, h2, _⟩ := hin t (by simp)
      obtain ⟨tn, rfl⟩ : ∃ tn : Nat, t = tn := ⟨t.toNat, by omega⟩
      rw [filter_two (p := a) (q := tn) (by omega) L.length (by omega) (fun j hj => by rw [hon]; simp; omega)]
      rfl
    · rw [if_neg h1] at hin hon ⊢
      by_cases h2 : t < (a : Int)
      · rw [if_pos h2] at hin hon ⊢
        obtain ⟨h0, h3, _⟩ := hin t (by simp)
        obtain ⟨g0, g3, _⟩ := hin a (by simp)
        obtain ⟨tn, rfl⟩ : ∃ tn : Nat, t = tn := ⟨t.toNat, by omega⟩
        rw [filter_two (p := tn) (q := a) (by omega) L.length (by omega) (fun j hj => by rw [hon]; simp; omega)]
        rfl
      · rw [if_neg h2] at hin hon ⊢
        obtain ⟨g0, g3, _⟩ := hin a (by simp)
        rw [filter_one L.length (p := a) (by omega) (fun j hj => by rw [hon]; simp; omega)]
        rfl
set_option maxRecDepth 20000 in
set_option maxHeartbeats 1000000 in
theorem r16_begins (v : Value) (L : List Ins) (i : Int) (w : World) (h : Rd w 5 Ins.enc v L) (hl : L.length ≤ 1000000) (hok : InsOk L) : Calls Try.prog 61 #[v, .int .i64 i] w fun e w' => e = .returned (.bool (beginsS L i)) ∧ Ext w w' := by
  obtain ⟨a, n, c, rfl, hn, hN⟩ := h.val
  have HD := Lib.hid h
  have HOK := Lib.hid hok
  have HL := Lib.hid hl
  obtain ⟨R, hR⟩ : ∃ R, R = beginsS L i := ⟨_, rfl⟩
  rw [← hR]
  unfold beginsS at hR
  obtain ⟨p, hp⟩ : ∃ p, progS L = p := ⟨_, rfl⟩
  rw [hp, ← hN.out] at hR
  have HR := Lib.hid hR
  have HP := Lib.hid hp
  clear h hok hl hR hp
  go_enter Try.func61, Try.ntmps61
  go_wp2_with fail
  refine (r_Check _ L _ HD.out HL.out HOK.out).mono ?_
  rintro e w5 ⟨at_, er, rfl, her, hE⟩
  rw [HP.out] at her
  have HE := Lib.hid hE
  clear hE
  cases p with
  | false =>
    have hne : (er == 0) = false := by simpa using her
    clear her
    go_wp2_with fail
    go_returns
    exact ⟨by rw [HR.out]; rfl, HE.out⟩
  | true =>
    obtain rfl : er = 0 := by simpa using her
    clear her
    by_cases h0 : 0 ≤ i
    · by_cases h1 : i < n
      · go_wp2_with fail
        refine (r_Starts _ L _ (HD.out.ext HE.out) HL.out).mono ?_
        rintro e w6 ⟨s, rfl, hO, hE6⟩
        have hRd := hO.rd enc_bool
        obtain ⟨sa, sn, sc, rfl, hsn, hSN⟩ := hRd.val
        obtain rfl : sn = n := by rw [hSN.out, stF_length, hN.out]
        obtain ⟨b, hb⟩ := at_of_lt (xs := stF false L) (k := i.toNat) (by have := hSN.out; omega)
        have ix := fun W => hRd.run_at (P := Try.prog) el_bool.under el_bool.size .i64 i (by omega) (by omega) W
        have cb := hRd.cell hb (j := 0) rfl
        simp only [Nat.mul_one, Nat.add_zero] at ix cb
        have HB := Lib.hid hb
        have HE6 := Lib.hid hE6
        clear hb hE6 hO hRd
        go_wp2_with fail
        go_returns
        exact ⟨by rw [HR.out, HB.out, decide_eq_true h0, decide_eq_true h1]; cases b <;> rfl, HE.out.trans' HE6.out⟩
      · go_wp2_with fail
        go_returns
        exact ⟨by rw [HR.out, decide_eq_false (by omega : ¬ i < (n : Int))]; simp, HE.out⟩
    · go_wp2_with fail
      go_returns
      exact ⟨by rw [HR.out, decide_eq_false (by omega : ¬ 0 ≤ i)]; simp, HE.out⟩
set_option maxRecDepth 20000 in
set_option maxHeartbeats 4000000 in
theorem r16_aheadU (v : Value) (L : List Ins) (k : Nat) (x : Ins) (w : World) (h : Rd w 5 Ins.enc v L) (hl : L.length ≤ 1000000) (hx : L[k]? = some x) (hok : x.Ok) : Calls Try.prog 62 #[v, .int .i64 k] w (OwnA (aheadU L x k L.length) w) := by
  obtain ⟨a, n, c, rfl, hn, hN⟩ := h.val
  have hk : k < n := by rw [hN.out]; exact (List.getElem?_eq_some_iff.1 hx).1
  have hk2 : n ≤ 1000000 := by rw [hN.out]; exact hl
  have ix := fun W => h.run_at (P := Try.prog) el_ins.under el_ins.size .i64 (k : Int) (by omega) (by omega) W
  simp only [Int.toNat_natCast] at ix
  have HD := Lib.hid h
  have HX := Lib.hid hx
  have HOK := Lib.hid hok
  have HL := Lib.hid hl
  have HN := Lib.hid hN.out
  obtain ⟨y, hy⟩ : ∃ y, (whatS x).getD Wh.zero = y := ⟨_, rfl⟩
  obtain ⟨k12, hk12⟩ : ∃ z, (y.kind != 12) = z := ⟨_, rfl⟩
  obtain ⟨k9, hk9⟩ : ∃ z, (y.kind != 9) = z := ⟨_, rfl⟩
  have hgo : goesOn x = (k12 && k9) := by unfold goesOn whatZ; rw [hy, hk12, hk9]
  have HGO := Lib.hid hgo
  have HY := Lib.hid hy
  clear h hx hok hl hy hgo
  obtain ⟨c0, c1, c2, c3, c4⟩ := ins_cells HD.out HX.out
  go_enter Try.func62, Try.ntmps62
  go_upto_region 2 with fail
  go_cut [6] from 6 to 20 (fun v6 wx => ∃ q, v6 = .pointer (some ⟨q, 0, none⟩) ∧ Hid (Ext w wx ∧ wx.heap[q]? = some (whObj y)))
  case first =>
    go_wp2_with fail
    refine (r_What x _ HOK.out).mono ?_
    unfold WhatA
    rw [HY.out]
    rintro e w7 ⟨rfl, hE7⟩
    have HE7 := Lib.hid hE7
    clear hE7
    go_wp2_with fail
    go_meet
    refine ⟨_, rfl, Lib.hid ⟨HE7.out.alloc' _, ?_⟩⟩
    (repeat (first | (refine obj_top _ _ ?_; simp; done) | refine obj_old _ ?_))
  case rest =>
    obtain ⟨q, rfl, HW⟩ := hcut
    clear c0 c1 c2 c3 c4 ix
    go_wp2_with fail
    refine (r_Next _ L k x _ (HD.out.ext HW.out.1) HL.out HX.out).mono ?_
    rintro e w3 ⟨rfl, hE3⟩
    have HE3 := Lib.hid (HW.out.1.trans' hE3)
    have HQ3 := Lib.hid (hE3.obj HW.out.2)
    clear hE3 HW
    go_wp2_with fail
    refine (r_Target _ L k x _ (HD.out.ext HE3.out) HL.out HX.out HOK.out).mono ?_
    unfold OptA
    obtain ⟨o, ho⟩ : ∃ o, targetS L x k = o := ⟨_, rfl⟩
    rw [ho]
    rintro e w4 ⟨rfl, hE4⟩
    have HE4 := Lib.hid (HE3.out.trans' hE4)
    have HQ4 := Lib.hid (hE4.obj HQ3.out)
    have HTO := Lib.hid ho
    clear hE4 ho HE3 HQ3
    obtain ⟨t0, ht0⟩ : ∃ t0, o.getD 0 = t0 := ⟨_, rfl⟩
    obtain ⟨bs, hbs⟩ : ∃ bs, o.isSome = bs := ⟨_, rfl⟩
    rw [ht0, hbs]
    have HOT : Hid (∀ m : Nat, (o == some (m : Int)) = (bs && ((m : Int) == t0))) := Lib.hid (fun m => by
      rw [← ht0, ← hbs]
      cases o with
      | none => rfl
      | some u =>
        by_cases e : u = (m : Int)
        · subst e; simp
        · have h2 : ¬ (m : Int) = u := fun h => e h.symm
          have : (some u == some (m : Int)) = false := by simpa using e
          rw [this]
          simp [h2])
    have hnx : nextI x k ≤ 1000002 := by have := nextI_le x k; omega
    obtain ⟨nx, hnx2⟩ : ∃ nx, nextI x k = nx := ⟨_, rfl⟩
    rw [hnx2] at hnx
    have HNX := Lib.hid hnx2
    clear ht0 hbs
    rw [hnx2]
    clear hnx2
    go_wp2_with fail
    go_loopw [5, 11] (fun o5 q11 wr => ∃ m : Nat, m ≤ n ∧ q11 = .int .i64 m ∧ (∃ a n c, o5 = .slice a n c) ∧ Hid (Own wr w4.heap.size 3 1 encI o5 (aheadU L x k m) ∧ Ext w wr ∧ Ext w4 wr)) (fun _ q11 _ => n - (intOf q11).toNat)
    case atStart => exact ⟨0, Nat.zero_le _, rfl, ⟨_, _, _, rfl⟩, Lib.hid ⟨Own.nil _ _ _ _ _, HE4.out, Ext.rfl' _⟩⟩
    case round =>
      obtain ⟨m, hm, rfl, ⟨oa, on, oc, rfl⟩, HI⟩ := hrel
      by_cases hlt : (m : Int) < n
      · have q0 := cell_obj (i := 0) (HI.out.2.2.obj HQ4.out)
        simp only [List.getElem?_toArray, List.getElem?_cons_zero, List.getElem?_cons_succ] at q0
        obtain ⟨z1, hz1⟩ : ∃ z, ((m : Int) == (nx : Int)) = z := ⟨_, rfl⟩
        obtain ⟨z2, hz2⟩ : ∃ z, ((m : Int) == t0) = z := ⟨_, rfl⟩
        have hz1' : (m == nx) = z1 := by
          rw [← hz1, Bool.eq_iff_iff]
          simp only [beq_iff_eq]
          omega
        have hon : onR L x k m = ((z1 && (k12 && k9)) || (bs && z2)) := by unfold onR; rw [HNX.out, HTO.out, HOT.out, hz1', hz2, HGO.out]
        have HON := Lib.hid hon
        clear hon hz1'
        go_upto_region 8 with fail
        go_cut [12] from 36 to 48 (fun v12 wx => v12 = .bool (z1 && (k12 && k9)) ∧ wx = wr)
        case first =>
          cases z1
          · go_wp2_with fail
            go_meet
            exact ⟨rfl, rfl⟩
          · cases k12
            · go_wp2_with fail
              go_meet
              exact ⟨rfl, rfl⟩
            · go_wp2_with fail
              go_meet
              exact ⟨rfl, rfl⟩
        case rest =>
          obtain ⟨rfl, hwc⟩ := hcut
          obtain rfl := hwc.symm
          generalize (z1 && (k12 && k9)) = on0 at *
          go_upto_region 9 with fail
          go_cut [57] from 49 to 57 (fun v57 wx => v57 = .bool (on0 || (bs && z2)) ∧ wx = wr)
          case first =>
            cases on0
            · cases bs
              · go_wp2_with fail
                go_meet
                exact ⟨rfl, rfl⟩
              · go_wp2_with fail
                go_meet
                exact ⟨rfl, rfl⟩
            · go_wp2_with fail
              go_meet
              exact ⟨rfl, rfl⟩
          case rest =>
            obtain ⟨rfl, hwc⟩ := hcut
            obtain rfl := hwc.symm
            generalize (on0 || (bs && z2)) = fin at *
            clear q0 hz1 hz2
            cases fin with
            | false =>
              go_wp2_with fail
              go_roundw
              case rel => exact ⟨m + 1, by omega, by go_num, ⟨_, _, _, rfl⟩, Lib.hid ⟨by rw [aheadU_succ, HON.out]; simpa [appV] using HI.out.1, HI.out.2⟩⟩
              case measure => simp [intOf]; omega
            | true =>
              go_wp2_with (at_builtin; refine app_own el_int (enc_int .i64) rfl _ _ rfl rfl (HI.out.1.alloc _) rfl (ys := [(m : Int)]) ?q1 ?q2 ?q3 ?q4)
              case q1 => exact rd_one _ _
              case q2 => have := aheadU_length L x k m; (try simp); omega
              case q3 => have := HI.out.2.2.size; (try simp); omega
              intro v' w9 hown hgrow hmv
              have HO := Lib.hid hown
              have HE49 : Hid (Ext w4 w9) := Lib.hid (hmv _ _ (HI.out.2.2.alloc' _) (Nat.le_refl _))
              have HE9 : Hid (Ext w w9) := Lib.hid (HE4.out.trans' HE49.out)
              clear hown hgrow hmv
              obtain ⟨qa, qn, qc, hqv, hqn, hQN⟩ := (HO.out.rd (enc_int .i64)).val
              subst hqv
              go_wp2_with fail
              go_roundw
              case rel => exact ⟨m + 1, by omega, by go_num, ⟨_, _, _, rfl⟩, Lib.hid ⟨by rw [aheadU_succ, HON.out]; exact HO.out, HE9.out, HE49.out⟩⟩
              case measure => simp [intOf]; omega
      · obtain rfl : m = n := by omega
        go_wp2_with fail
        go_returns
        exact ⟨_, rfl, by rw [← HN.out]; exact HI.out.1.mono HE4.out.size, HI.out.2.1⟩
theorem r16_ahead (v : Value) (L : List Ins) (k : Nat) (x : Ins) (w : World) (h : Rd w 5 Ins.enc v L) (hl : L.length ≤ 1000000) (hp : progS L = true) (hs : (stF false L)[k]? = some true) (hx : L[k]? = some x) (hok : x.Ok) : Calls Try.prog 62 #[v, .int .i64 k] w (OwnA (aheadL L x k) w) := by
  rw [← aheadU_eq (ProgF.of hp) hs hx]
  exact r16_aheadU v L k x w h hl hx hok
theorem r16_Ahead (v : Value) (L : List Ins) (i : Int) (w : World) (h : Rd w 5 Ins.enc v L) (hl : L.length ≤ 1000000) (hok : InsOk L) : Calls Try.prog 20 #[v, .int .i64 i] w (OwnA (aheadV L i) w) := by
  have HD := Lib.hid h
  have HOK := Lib.hid hok
  have HL := Lib.hid hl
  clear h hok hl
  unfold aheadV
  cases hb : beginsS L i with
  | false =>
    have HB := Lib.hid hb
    clear hb
    simp only [Bool.false_eq_true, if_false]
    go_enter Try.func20, Try.ntmps20
    go_wp2_with fail
    refine (r16_begins _ L i _ HD.out HL.out HOK.out).mono ?_
    rw [HB.out]
    rintro e w5 ⟨rfl, hE⟩
    have HE := Lib.hid hE
    clear hE
    go_wp2_with fail
    go_returns
    exact ⟨_, rfl, Own.nil _ _ _ _ _, HE.out⟩
  | true =>
    obtain ⟨hp, h0, h1, hs⟩ := begins_iff.1 hb
    obtain ⟨k, rfl⟩ : ∃ k : Nat, i = k := ⟨i.toNat, by omega⟩
    obtain ⟨x, hx⟩ := at_of_lt (xs := L) (k := k) (by omega)
    rw [Int.toNat_natCast] at hs
    simp only [if_true, Int.toNat_natCast, hx]
    have HB := Lib.hid hb
    have HX := Lib.hid hx
    have HP := Lib.hid hp
    have HS := Lib.hid hs
    clear hb hx h0 h1 hp hs
    go_enter Try.func20, Try.ntmps20
    go_wp2_with fail
    refine (r16_begins _ L k _ HD.out HL.out HOK.out).mono ?_
    rw [HB.out]
    rintro e w5 ⟨rfl, hE⟩
    have HE := Lib.hid hE
    clear hE
    go_wp2_with fail
    refine (r16_ahead _ L k x _ (HD.out.ext HE.out) HL.out HP.out HS.out HX.out (HOK.out.at HX.out)).mono ?_
    rintro e w6 ⟨v6, rfl, hO, hE6⟩
    have HO := Lib.hid hO
    have HE6 := Lib.hid hE6
    clear hO hE6
    go_wp2_with fail
    go_returns
    exact ⟨_, rfl, HO.out.mono HE.out.size, HE.out.trans' HE6.out⟩
set_option maxHeartbeats 400000 in
theorem r16_in (v : Value) (xs : List Int) (y : Int) (w : World) (h : Rd w 1 encI v xs) :
    Calls Try.prog 63 #[v, .int .i64 y] w fun e w' => e = .returned (.bool (xs.contains y)) ∧ w' = w := by
  obtain ⟨a, n, c, rfl, hn, hN⟩ := h.val
  have HV := Lib.hid h
  clear h
  go_enter Try.func63, Try.ntmps63
  go_wp2
  go_loop [5] (fun i => ∃ k : Nat, k ≤ n ∧ i = .int .i64 k ∧ Hid ((xs.take k).contains y = false)) (fun i => n - (intOf i).toNat)
  case atStart => exact ⟨0, Nat.zero_le _, rfl, Lib.hid rfl⟩
  case round =>
    obtain ⟨k, hk, rfl, HK⟩ := hrel
    by_cases hlt : k < n
    · obtain ⟨x, hx⟩ := at_of_lt (xs := xs) (k := k) (by have := hN.out; omega)
      have ia := fun W => HV.out.run_at (P := Try.prog) el_int.under el_int.size .i64 (k : Int) (by omega) (by omega) W
      have ca := HV.out.cell hx (j := 0) rfl
      simp only [Nat.mul_one, Nat.add_zero, Int.toNat_natCast] at ia ca
      have HX := Lib.hid hx
      clear hx
      by_cases hy : y = x
      · have hb : (x == y) = true := by simpa using hy.symm
        have HY := Lib.hid hy
        clear hy
        go_wp2
        go_returns
        have : y ∈ xs := by rw [HY.out]; exact List.mem_of_getElem? HX.out
        exact ⟨by simp [this], rfl⟩
      · have hb : (x == y) = false := by simpa using fun e => hy e.symm
        have HY := Lib.hid hy
        clear hy
        go_wp2
        go_round
        case rel => exact ⟨k + 1, by omega, by go_num, Lib.hid (contains_take HK.out HX.out HY.out)⟩
        case measure => simp [intOf]; omega
    · go_wp2
      go_returns
      have h := HK.out
      rw [List.take_of_length_le (by have := hN.out; omega)] at h
      exact ⟨by rw [show decide (y ∈ xs) = false by simpa using h]; rfl, rfl⟩
set_option maxRecDepth 20000 in
set_option maxHeartbeats 4000000 in
theorem r16_Behind (v : Value) (L : List Ins) (i : Int) (w : World) (h : Rd w 5 Ins.enc v L) (hl : L.length ≤ 1000000) (hok : InsOk L) : Calls Try.prog 21 #[v, .int .i64 i] w (OwnA (behindL L i) w) := by
  obtain ⟨a, n, c, rfl, hn, hN⟩ := h.val
  have hk2 : n ≤ 1000000 := by rw [hN.out]; exact hl
  have HD := Lib.hid h
  have HOK := Lib.hid hok
  have HL := Lib.hid hl
  clear h hok hl
  unfold behindL
  cases hb : beginsS L i with
  | false =>
    have HB := Lib.hid hb
    clear hb
    simp only [Bool.false_eq_true, if_false]
    go_enter Try.func21, Try.ntmps21
    go_wp2_with fail
    refine (r16_begins _ L i _ HD.out HL.out HOK.out).mono ?_
    rw [HB.out]
    rintro e w5 ⟨rfl, hE⟩
    have HE := Lib.hid hE
    clear hE
    go_wp2_with fail
    go_returns
    exact ⟨_, rfl, Own.nil _ _ _ _ _, HE.out⟩
  | true =>
    have HP := Lib.hid (begins_iff.1 hb).1
    have HB := Lib.hid hb
    clear hb
    simp only [if_true]
    go_enter Try.func21, Try.ntmps21
    go_wp2_with fail
    refine (r16_begins _ L i _ HD.out HL.out HOK.out).mono ?_
    rw [HB.out]
    rintro e w5 ⟨rfl, hE⟩
    have HE := Lib.hid hE
    clear hE
    go_wp2_with fail
    refine (r_Starts _ L _ (HD.out.ext HE.out) HL.out).mono ?_
    rintro e w6 ⟨s, rfl, hO, hE6⟩
    have hR := hO.rd enc_bool
    obtain ⟨sa, sn, sc, rfl, hsn, hSN⟩ := hR.val
    obtain rfl : sn = n := by rw [hSN.out, stF_length, hN.out]
    have HR := Lib.hid hR
    have HE6 := Lib.hid (HE.out.trans' hE6)
    clear hO hR hE6 HE
    go_wp2_with fail
    go_loopw [7, 5] (fun q o wr => ∃ k : Nat, k ≤ sn ∧ q = .int .i64 k ∧ (∃ a n c, o = .slice a n c) ∧ Hid (Own wr w6.heap.size 3 1 encI o (behUpto L i k) ∧ Ext w wr ∧ Ext w6 wr)) (fun q _ _ => sn - (intOf q).toNat)
    case atStart => exact ⟨0, Nat.zero_le _, rfl, ⟨_, _, _, rfl⟩, Lib.hid ⟨Own.nil _ _ _ _ _, HE6.out, Ext.rfl' _⟩⟩
    case round =>
      obtain ⟨k, hk, rfl, ⟨oa, on, oc, rfl⟩, HI⟩ := hrel
      by_cases hlt : (k : Int) < sn
      · obtain ⟨b, hb⟩ := at_of_lt (xs := stF false L) (k := k) (by have := hSN.out; omega)
        obtain ⟨x, hx⟩ := at_of_lt (xs := L) (k := k) (by have := hN.out; omega)
        have ix := fun W => (HR.out.ext HI.out.2.2).run_at (P := Try.prog) el_bool.under el_bool.size .i64 (k : Int) (by omega) (by omega) W
        have cb := (HR.out.ext HI.out.2.2).cell hb (j := 0) rfl
        simp only [Nat.mul_one, Nat.add_zero, Int.toNat_natCast] at ix cb
        have HSB := Lib.hid hb
        have HX := Lib.hid hx
        clear hb hx
        cases b with
        | false =>
          have hz : isBehind L i k = false := by unfold isBehind; rw [HSB.out]
          have HZ := Lib.hid hz
          clear hz
          go_wp2_with fail
          go_roundw
          case rel => exact ⟨k + 1, by omega, by go_num, ⟨_, _, _, rfl⟩, Lib.hid ⟨by rw [behUpto_succ, HZ.out]; simpa [appV] using HI.out.1, HI.out.2⟩⟩
          case measure => simp [intOf]; omega
        | true =>
          go_wp2_with fail
          refine (r16_ahead _ L k x _ (HD.out.ext HI.out.2.1) HL.out HP.out HSB.out HX.out (HOK.out.at HX.out)).mono ?_
          rintro e w7 ⟨v7, rfl, hO7, hE7⟩
          have hR7 := hO7.rd (enc_int .i64)
          have HR7 := Lib.hid hR7
          have HE7 := Lib.hid hE7
          clear hO7 hE7
          obtain ⟨ta, tn, tc, htv, htn, hTN⟩ := hR7.val
          clear hR7
          subst htv
          go_wp2_with fail
          refine (r16_in _ _ i _ HR7.out).mono ?_
          obtain ⟨z, hz⟩ : ∃ z, (aheadL L x k).contains i = z := ⟨_, rfl⟩
          rw [hz]
          have hz2 : isBehind L i k = z := by unfold isBehind; rw [HSB.out, HX.out]; exact hz
          have HZ := Lib.hid hz2
          clear hz hz2
          rintro e w8 ⟨rfl, rfl⟩
          cases z with
          | false =>
            go_wp2_with fail
            go_roundw
            case rel => exact ⟨k + 1, by omega, by go_num, ⟨_, _, _, rfl⟩, Lib.hid ⟨by rw [behUpto_succ, HZ.out]; simpa [appV] using HI.out.1.ext HE7.out, HI.out.2.1.trans' HE7.out, HI.out.2.2.trans' HE7.out⟩⟩
            case measure => simp [intOf]; omega
          | true =>
            go_wp2_with (at_builtin; refine app_own el_int (enc_int .i64) rfl _ _ rfl rfl ((HI.out.1.ext HE7.out).alloc _) rfl (ys := [(k : Int)]) ?q1 ?q2 ?q3 ?q4)
            case q1 => exact rd_one _ _
            case q2 => have := behUpto_length L i k; simp; omega
            case q3 => have := HI.out.2.2.size; have := HE7.out.size; simp; omega
            intro v' w9 hown hgrow hmv
            have HO := Lib.hid hown
            have HE69 : Hid (Ext w6 w9) := Lib.hid (hmv _ _ ((HI.out.2.2.trans' HE7.out).alloc' _) (Nat.le_refl _))
            have HE9 : Hid (Ext w w9) := Lib.hid (HE6.out.trans' HE69.out)
            clear hown hgrow hmv
            obtain ⟨qa, qn, qc, hqv, hqn, hQN⟩ := (HO.out.rd (enc_int .i64)).val
            subst hqv
            go_wp2_with fail
            go_roundw
            case rel => exact ⟨k + 1, by omega, by go_num, ⟨_, _, _, rfl⟩, Lib.hid ⟨by rw [behUpto_succ, HZ.out]; exact HO.out, HE9.out, HE69.out⟩⟩
            case measure => simp [intOf]; omega
      · obtain rfl : k = sn := by omega
        have HNN := Lib.hid hN.out
        go_wp2_with fail
        go_returns
        exact ⟨_, rfl, by rw [← HNN.out]; exact HI.out.1.mono HE6.out.size, HI.out.2.1⟩
end Go.Proofs.Ytkogkcjiachphaa
namespace Go.Proofs.Ytkogkcjiachphaa
open Go.RowKit
set_option linter.unusedVariables false
set_option linter.unusedSimpArgs false

theorem mset {M : List Bool} {k : Nat} (hk : k < M.length) (j : Nat) : (M.set k true)[j]? = some true ↔ j = k ∨ M[j]? = some true := by
  by_cases e : j = k
  · subst e; simp [hk]
  · rw [List.getElem?_set_ne (Ne.symm e)]; simp [e]
/-- What is marked, while it is looked for what one comes to from the places fs. -/
structure SInv (A : Nat → List Int) (fs : List Int) (n : Nat) (M : List Bool) : Prop where
  len : M.length = n
  sound : ∀ k : Nat, M[k]? = some true → ∃ s ∈ fs, Conn A s.toNat k
def BaseM (fs : List Int) (M : List Bool) : Prop := ∀ s ∈ fs, M[s.toNat]? = some true
def ClosedTo (A : Nat → List Int) (M : List Bool) (i : Nat) : Prop := ∀ j : Nat, j < i → M[j]? = some true → ∀ t ∈ A j, M[t.toNat]? = some true
theorem SInv.add {A : Nat → List Int} {fs : List Int} {n : Nat} {M : List Bool} (h : SInv A fs n M) {k : Nat} (hk : k < n) (hs : ∃ s ∈ fs, Conn A s.toNat k) : SInv A fs n (M.set k true) :=
  ⟨by simpa using h.len, fun j hj => by
    rcases (mset (by rw [h.len]; exact hk) j).1 hj with rfl | hj
    · exact hs
    · exact h.sound j hj⟩
theorem BaseM.add {fs : List Int} {M : List Bool} (h : BaseM fs M) {k : Nat} (hk : k < M.length) : BaseM fs (M.set k true) := fun s hs => (mset hk _).2 (.inr (h s hs))
open Classical in
/-- To which instructions one may come from some. -/
noncomputable def reachF (L : List Ins) (fs : List Int) : List Bool := (List.range L.length).map (fun k => decide (∃ s ∈ fs, Conn (aheadAt L) s.toNat k))
theorem reachF_length (L : List Ins) (fs : List Int) : (reachF L fs).length = L.length := by simp [reachF]
theorem reachF_at (L : List Ins) (fs : List Int) {k : Nat} (hk : k < L.length) : (reachF L fs)[k]? = some true ↔ ∃ s ∈ fs, Conn (aheadAt L) s.toNat k := by
  simp [reachF, hk]
theorem bools_eq {M N : List Bool} (hl : M.length = N.length) (h : ∀ k, k < M.length → (M[k]? = some true ↔ N[k]? = some true)) : M = N := by
  apply List.ext_getElem?
  intro k
  by_cases hk : k < M.length
  · have h1 := h k hk
    obtain ⟨x, hx⟩ := at_of_lt hk
    obtain ⟨y, hy⟩ := at_of_lt (xs := N) (k := k) (by omega)
    rw [hx, hy] at h1 ⊢
    cases x <;> cases y <;> simp_all
  · rw [List.getElem?_eq_none (by omega), List.getElem?_eq_none (by omega)]
theorem SInv.done {L : List Ins} {fs : List Int} {M : List Bool} (h : SInv (aheadAt L) fs L.length M) (hb : BaseM fs M) (hc : ClosedTo (aheadAt L) M L.length) : M = reachF L fs := by
  refine bools_eq (by rw [h.len, reachF_length]) (fun k hk => ?_)
  rw [reachF_at L fs (by rw [← h.len]; exact hk)]
  refine ⟨h.sound k, fun ⟨s, hs, hc'⟩ => hc' (fun x => M[x]? = some true) (hb s hs) (fun i j hi hj => ?_)⟩
  have := hc i (by rw [← h.len]; exact (List.getElem?_eq_some_iff.1 hi).1) hi _ hj
  simpa using this
def midOk (A : Nat → List Int) (M : List Bool) (i : Nat) (c : Bool) (u0 : Nat) : Prop := (c = false → ClosedTo A M i) ∧ unm M + (if c then 1 else 0) ≤ u0
def innerOk (A : Nat → List Int) (M : List Bool) (i j : Nat) (X : List Int) (c : Bool) (u0 : Nat) : Prop := M[i]? = some true ∧ (c = false → ClosedTo A M i ∧ ∀ t ∈ X.take j, M[t.toNat]? = some true) ∧ unm M + (if c then 1 else 0) ≤ u0
theorem inner_skip {A : Nat → List Int} {M : List Bool} {i j : Nat} {X : List Int} {c : Bool} {u0 : Nat} (h : innerOk A M i j X c u0) {t : Int} (ht : X[j]? = some t) (hm : M[t.toNat]? = some true) : innerOk A M i (j + 1) X c u0 :=
  ⟨h.1, fun hc => ⟨(h.2.1 hc).1, fun u hu => by
    rw [List.take_add_one, ht] at hu
    rcases List.mem_append.1 hu with hu | hu
    · exact (h.2.1 hc).2 u hu
    · simp at hu; rw [hu]; exact hm⟩, h.2.2⟩
theorem inner_mark {A : Nat → List Int} {M : List Bool} {i j : Nat} {X : List Int} {c : Bool} {u0 : Nat} (h : innerOk A M i j X c u0) {t : Nat} (hm : M[t]? = some false) : innerOk A (M.set t true) i (j + 1) X true u0 := by
  have hl : t < M.length := (List.getElem?_eq_some_iff.1 hm).1
  refine ⟨(mset hl i).2 (.inr h.1), (fun hc => by cases hc), ?_⟩
  have h1 := unm_set M t hm
  have h2 := h.2.2
  simp only [if_true]
  omega
theorem inner_end {A : Nat → List Int} {M : List Bool} {i : Nat} {c : Bool} {u0 : Nat} (h : innerOk A M i (A i).length (A i) c u0) : midOk A M (i + 1) c u0 :=
  ⟨fun hc j hj hmj t ht => by
    by_cases e : j = i
    · subst e
      exact (h.2.1 hc).2 t (by rw [List.take_length]; exact ht)
    · exact (h.2.1 hc).1 j (by omega) hmj t ht, h.2.2⟩
theorem mid_skip {A : Nat → List Int} {M : List Bool} {i : Nat} {c : Bool} {u0 : Nat} (h : midOk A M i c u0) (hm : M[i]? = some false) : midOk A M (i + 1) c u0 :=
  ⟨fun hc j hj hmj t ht => by
    by_cases e : j = i
    · subst e; rw [hm] at hmj; cases hmj
    · exact h.1 hc j (by omega) hmj t ht, h.2⟩
theorem inner_start {A : Nat → List Int} {M : List Bool} {i : Nat} {c : Bool} {u0 : Nat} (h : midOk A M i c u0) (hm : M[i]? = some true) (X : List Int) : innerOk A M i 0 X c u0 :=
  ⟨hm, fun hc => ⟨h.1 hc, fun t ht => by simp at ht⟩, h.2⟩
set_option maxRecDepth 20000 in
set_option maxHeartbeats 4000000 in
theorem r16_reach (v vf : Value) (L : List Ins) (fs : List Int) (w : World) (h : Rd w 5 Ins.enc v L) (hf : Rd w 1 encI vf fs) (hl : L.length ≤ 1000000) (hok : InsOk L) (hp : progS L = true) (hfs : ∀ s ∈ fs, 0 ≤ s ∧ s < L.length ∧ (stF false L)[s.toNat]? = some true) :
    Calls Try.prog 67 #[v, vf] w (OwnB (reachF L fs) w) := by
  obtain ⟨a, n, c, rfl, hn, hN⟩ := h.val
  obtain ⟨fa, fn, fc, rfl, hfn, hFN⟩ := hf.val
  have hk2 : n ≤ 1000000 := by rw [hN.out]; exact hl
  have HD := Lib.hid h
  have HF := Lib.hid hf
  have HOK := Lib.hid hok
  have HL := Lib.hid hl
  have HN := Lib.hid hN.out
  have HP := Lib.hid hp
  have HFS := Lib.hid hfs
  have hmk := run_make_bool n hk2
  have HSD : Hid (∀ M, SInv (aheadAt L) fs L.length M → BaseM fs M → ClosedTo (aheadAt L) M L.length → M = reachF L fs) := Lib.hid (fun M h1 h2 h3 => h1.done h2 h3)
  obtain ⟨R, hR⟩ : ∃ R, R = reachF L fs := ⟨_, rfl⟩
  rw [← hR] at HSD ⊢
  clear h hf hl hok hp hfs hR
  go_enter Try.func67, Try.ntmps67
  go_upto_region 1 with fail
  go_cut [5] from 5 to 13 (fun v5 wx => ∃ g, v5 = .slice (some ⟨g, 0, none⟩) n n ∧ g < wx.heap.size ∧ Hid (Own wx w.heap.size 4 1 encB v5 (List.replicate n false) ∧ Ext w wx))
  case first =>
    go_wp2_with fail
    go_meet
    exact ⟨_, rfl, by simp, Lib.hid ⟨own_made_bool _ _ hk2 _ (Nat.le_refl _), by (repeat (first | exact Ext.rfl' _ | assumption | refine Ext.drewN' ?_ _ | refine Ext.drew' ?_ | refine Ext.alloc' ?_ _ | refine Ext.trans' ?_ (by assumption)))⟩⟩
  case rest =>
    obtain ⟨g, rfl, hg, HO⟩ := hcut
    clear hmk
    go_wp2_with fail
    go_loopw [6] (fun q wr => ∃ m : Nat, m ≤ fn ∧ q = .int .i64 m ∧ Hid (∃ M, Own wr w.heap.size 4 1 encB (.slice (some ⟨g, 0, none⟩) n n) M ∧ Ext w wr ∧ SInv (aheadAt L) fs n M ∧ ∀ s ∈ fs.take m, M[s.toNat]? = some true)) (fun q _ => fn - (intOf q).toNat)
    case atStart =>
      refine ⟨0, Nat.zero_le _, rfl, Lib.hid ⟨_, HO.out.1, HO.out.2, ⟨by simp, fun k hk => ?_⟩, fun s hs => by simp at hs⟩⟩
      rw [List.getElem?_replicate] at hk
      split at hk <;> simp at hk
    case round =>
      obtain ⟨m, hm, rfl, HI⟩ := hrel
      obtain ⟨M, hO, hX, hS, hB⟩ := HI.out
      have HO1 := Lib.hid hO
      have HX1 := Lib.hid hX
      have HS1 := Lib.hid hS
      have HB1 := Lib.hid hB
      clear hO hX hS hB HI
      by_cases hlt : (m : Int) < fn
      · obtain ⟨t, ht⟩ := at_of_lt (xs := fs) (k := m) (by have := hFN.out; omega)
        obtain ⟨t0, t1, t2⟩ := HFS.out t (List.mem_of_getElem? ht)
        have t1' : t < n := by rw [HN.out]; exact t1
        obtain ⟨b, hb⟩ := at_of_lt (xs := M) (k := t.toNat) (by rw [HS1.out.len]; omega)
        have iy := fun W => HF.out.run_at (P := Try.prog) el_int.under el_int.size .i64 (m : Int) (by omega) (by omega) W
        have cy := (HF.out.ext HX1.out).cell ht (j := 0) rfl
        have iz := fun W => (HO1.out.rd enc_bool).run_at (P := Try.prog) el_bool.under el_bool.size .i64 t (by omega) (by omega) W
        simp only [Nat.mul_one, Nat.add_zero, Int.toNat_natCast] at iy cy iz
        obtain ⟨f1, f2, f3, f4, f5⟩ := HO1.out.at hb
        have HO2 := Lib.hid (f5 true)
        have HT := Lib.hid ht
        clear f5 f3 hb ht t2 t1
        go_wp2_with fail
        go_roundw
        case rel =>
          refine ⟨m + 1, by omega, by go_num, Lib.hid ⟨M.set t.toNat true, HO2.out.1, HO2.out.2 _ _ HX1.out (Nat.le_refl _), HS1.out.add (by omega) ⟨t, List.mem_of_getElem? HT.out, Conn.rfl' _⟩, fun s hs => ?_⟩⟩
          rw [List.take_add_one, HT.out] at hs
          rw [mset (by rw [HS1.out.len]; omega)]
          rcases List.mem_append.1 hs with hs | hs
          · exact .inr (HB1.out s hs)
          · simp at hs; rw [hs]; exact .inl rfl
        case measure => simp [intOf]; omega
      · have HBM : Hid (BaseM fs M) := Lib.hid (fun s hs => HB1.out s (by rw [List.take_of_length_le (by have := hFN.out; omega)]; exact hs))
        clear HB1
        go_wp2_with fail
        go_loopg [7] (n + 1) (fun gk s7 wr2 => ∃ cc : Bool, s7 = .bool cc ∧ Hid (∃ M, Own wr2 w.heap.size 4 1 encB (.slice (some ⟨g, 0, none⟩) n n) M ∧ Ext w wr2 ∧ SInv (aheadAt L) fs n M ∧ BaseM fs M ∧ (cc = false → ClosedTo (aheadAt L) M n) ∧ unm M + (if cc then 1 else 0) ≤ gk))
        case atStart => exact ⟨true, rfl, Lib.hid ⟨M, HO1.out, HX1.out, HS1.out, HBM.out, (fun h => by cases h), by have := unm_le M; rw [HS1.out.len] at this; simp; omega⟩⟩
        case round =>
          obtain ⟨cc, rfl, HI⟩ := hrel
          obtain ⟨M2, hO, hX, hS, hB, hC, hU⟩ := HI.out
          have HO2 := Lib.hid hO
          have HX2 := Lib.hid hX
          have HS2 := Lib.hid hS
          have HB2 := Lib.hid hB
          have HC2 := Lib.hid hC
          have HU2 := Lib.hid hU
          clear hO hX hS hB hC hU HI
          cases cc with
          | false =>
            go_wp2_with fail
            go_returns
            refine ⟨_, rfl, ?_, HX2.out⟩
            rw [← HSD.out M2 (by rw [← HN.out]; exact HS2.out) HB2.out (by rw [← HN.out]; exact HC2.out trivial)]
            exact HO2.out
          | true =>
            go_wp2_with fail
            go_loopw [7, 8] (fun s7 s8 wr3 => ∃ (i : Nat) (c3 : Bool), i ≤ n ∧ s8 = .int .i64 i ∧ s7 = .bool c3 ∧ Hid (∃ M, Own wr3 w.heap.size 4 1 encB (.slice (some ⟨g, 0, none⟩) n n) M ∧ Ext w wr3 ∧ SInv (aheadAt L) fs n M ∧ BaseM fs M ∧ midOk (aheadAt L) M i c3 (gk - 1))) (fun _ s8 _ => n - (intOf s8).toNat)
            case atStart => exact ⟨0, false, Nat.zero_le _, rfl, rfl, Lib.hid ⟨M2, HO2.out, HX2.out, HS2.out, HB2.out, fun _ j hj => absurd hj (Nat.not_lt_zero _), by have := HU2.out; simp at this ⊢; omega⟩⟩
            case round =>
              obtain ⟨i, c3, hi, rfl, rfl, HI⟩ := hrel
              obtain ⟨M3, hO, hX, hS, hB, hK⟩ := HI.out
              have HO3 := Lib.hid hO
              have HX3 := Lib.hid hX
              have HS3 := Lib.hid hS
              have HB3 := Lib.hid hB
              have HK3 := Lib.hid hK
              clear hO hX hS hB hK HI
              by_cases hlt3 : (i : Int) < n
              · obtain ⟨b, hb⟩ := at_of_lt (xs := M3) (k := i) (by rw [HS3.out.len]; omega)
                have iz := fun W => (HO3.out.rd enc_bool).run_at (P := Try.prog) el_bool.under el_bool.size .i64 (i : Int) (by omega) (by omega) W
                have cz := (HO3.out.rd enc_bool).cell hb (j := 0) rfl
                simp only [Nat.mul_one, Nat.add_zero, Int.toNat_natCast] at iz cz
                have HBI := Lib.hid hb
                clear hb
                cases b with
                | false =>
                  go_wp2_with fail
                  go_roundw
                  case rel => exact ⟨i + 1, c3, by omega, by go_num, rfl, Lib.hid ⟨M3, HO3.out, HX3.out, HS3.out, HB3.out, mid_skip HK3.out HBI.out⟩⟩
                  case measure => simp [intOf]; omega
                | true =>
                  obtain ⟨s0, hs0, hcs⟩ := HS3.out.sound i HBI.out
                  have HCS := Lib.hid hcs
                  have hst := conn_start HP.out (HFS.out s0 hs0).2.2 hcs
                  obtain ⟨x, hx⟩ := at_of_lt (xs := L) (k := i) (by rw [← HN.out]; omega)
                  have hA : aheadAt L i = aheadL L x i := by unfold aheadAt; rw [hx]
                  have HA := Lib.hid hA
                  have HX := Lib.hid hx
                  have HST := Lib.hid hst
                  have HS0 := Lib.hid hs0
                  have HXIN := Lib.hid (fun t (ht : t ∈ aheadL L x i) => within HP.out hst t (by rw [hA]; exact ht))
                  have hgl := (HO3.out.lt (k := g) rfl).2
                  clear hcs hst hx hA hs0
                  go_wp2_with fail
                  refine (r16_ahead _ L i x _ (HD.out.ext HX3.out) HL.out HP.out HST.out HX.out (HOK.out.at HX.out)).mono ?_
                  rintro e w5 ⟨v5, rfl, hO5, hE5⟩
                  obtain ⟨xa, xn, xc, hxv, hxn, hXN⟩ := (hO5.rd (enc_int .i64)).val
                  subst hxv
                  have HO5 := Lib.hid hO5
                  have HE5 := Lib.hid hE5
                  clear hO5 hE5 iz cz
                  go_wp2_with fail
                  go_loopw [7, 10] (fun s7 s10 wr4 => ∃ (j : Nat) (c4 : Bool), j ≤ xn ∧ s10 = .int .i64 j ∧ s7 = .bool c4 ∧ Hid (∃ M, Own wr4 w.heap.size 4 1 encB (.slice (some ⟨g, 0, none⟩) n n) M ∧ Own wr4 wr.heap.size 3 1 encI (.slice xa xn xc) (aheadL L x i) ∧ Ext w wr4 ∧ SInv (aheadAt L) fs n M ∧ BaseM fs M ∧ innerOk (aheadAt L) M i j (aheadL L x i) c4 (gk - 1))) (fun _ s10 _ => xn - (intOf s10).toNat)
                  case atStart => exact ⟨0, c3, Nat.zero_le _, rfl, rfl, Lib.hid ⟨M3, HO3.out.ext HE5.out, HO5.out, HX3.out.trans' HE5.out, HS3.out, HB3.out, inner_start HK3.out HBI.out _⟩⟩
                  case round =>
                    obtain ⟨j, c4, hj, rfl, rfl, HI⟩ := hrel
                    obtain ⟨M4, hO, hOX, hX, hS, hB, hK⟩ := HI.out
                    have HO4 := Lib.hid hO
                    have HOX := Lib.hid hOX
                    have HX4 := Lib.hid hX
                    have HS4 := Lib.hid hS
                    have HB4 := Lib.hid hB
                    have HK4 := Lib.hid hK
                    clear hO hX hS hB hK HI hOX
                    by_cases hlt4 : (j : Int) < xn
                    · obtain ⟨t, ht⟩ := at_of_lt (xs := aheadL L x i) (k := j) (by have := hXN.out; omega)
                      obtain ⟨t0, t1, t2⟩ := HXIN.out t (List.mem_of_getElem? ht)
                      obtain ⟨tn, rfl⟩ : ∃ tn : Nat, t = tn := ⟨t.toNat, by omega⟩
                      have t1' : (tn : Int) < n := by rw [HN.out]; exact t1
                      obtain ⟨b, hb⟩ := at_of_lt (xs := M4) (k := tn) (by rw [HS4.out.len]; omega)
                      have iy := fun W => (HOX.out.rd (enc_int .i64)).run_at (P := Try.prog) el_int.under el_int.size .i64 (j : Int) (by omega) (by omega) W
                      have cy := (HOX.out.rd (enc_int .i64)).cell ht (j := 0) rfl
                      have iz := fun W => (HO4.out.rd enc_bool).run_at (P := Try.prog) el_bool.under el_bool.size .i64 (tn : Int) (by omega) (by omega) W
                      have cz := (HO4.out.rd enc_bool).cell hb (j := 0) rfl
                      simp only [Nat.mul_one, Nat.add_zero, Int.toNat_natCast] at iy cy iz cz
                      have HT := Lib.hid ht
                      have HBT := Lib.hid hb
                      clear ht t1 t2 t0
                      cases b with
                      | true =>
                        clear hb
                        go_wp2_with fail
                        go_roundw
                        case rel => exact ⟨j + 1, c4, by omega, by go_num, rfl, Lib.hid ⟨M4, HO4.out, HOX.out, HX4.out, HS4.out, HB4.out, inner_skip HK4.out HT.out (by simpa using HBT.out)⟩⟩
                        case measure => simp [intOf]; omega
                      | false =>
                        obtain ⟨f1, f2, f3, f4, f5⟩ := HO4.out.at hb
                        have HO6 := Lib.hid (f5 true)
                        have HOY := Lib.hid (HOX.out.other (a := elt (.slice (some ⟨g, 0, none⟩) n n) tn) (by rw [elt_block]; exact hgl) (.bool true))
                        clear f5 f3 hb
                        go_wp2_with fail
                        go_roundw
                        case rel => exact ⟨j + 1, true, by omega, by go_num, rfl, Lib.hid ⟨M4.set tn true, HO6.out.1, HOY.out, HO6.out.2 _ _ HX4.out (Nat.le_refl _), HS4.out.add (by omega) ⟨s0, HS0.out, HCS.out.step (by rw [HA.out]; exact List.mem_of_getElem? HT.out)⟩, HB4.out.add (by rw [HS4.out.len]; omega), inner_mark HK4.out HBT.out⟩⟩
                        case measure => simp [intOf]; omega
                    · obtain rfl : j = (aheadL L x i).length := by have := hXN.out; omega
                      have HMO : Hid (midOk (aheadAt L) M4 (i + 1) c4 (gk - 1)) := Lib.hid (inner_end (by have := HK4.out; rw [HA.out]; exact this))
                      go_wp2_with fail
                      go_roundw
                      case rel => exact ⟨i + 1, c4, by omega, by go_num, rfl, Lib.hid ⟨M4, HO4.out, HX4.out, HS4.out, HB4.out, HMO.out⟩⟩
                      case measure => simp [intOf]; omega
              · obtain rfl : i = n := by omega
                go_wp2_with fail
                go_roundg (gk - 1)
                case measure => have := HU2.out; simp at this; omega
                case rel => exact ⟨c3, rfl, Lib.hid ⟨M3, HO3.out, HX3.out, HS3.out, HB3.out, HK3.out.1, HK3.out.2⟩⟩
end Go.Proofs.Ytkogkcjiachphaa
namespace Go.Proofs.Ytkogkcjiachphaa
open Go.RowKit
set_option linter.unusedVariables false
set_option linter.unusedSimpArgs false

theorem reachF_one {L : List Ins} (hp : progS L = true) {i : Int} (hb : beginsS L i = true) : reachF L [i] = reachL L i := by
  refine bools_eq (by rw [reachF_length, reachL_length hp]) (fun k hk => ?_)
  rw [reachF_length] at hk
  rw [reachF_at L [i] hk, reachL_at hp i hk, hb]
  simp
theorem one_start {L : List Ins} {i : Int} (hb : beginsS L i = true) : ∀ s ∈ [i], 0 ≤ s ∧ s < L.length ∧ (stF false L)[s.toNat]? = some true := fun s hs => by
  simp only [List.mem_singleton] at hs
  subst hs
  exact (begins_iff.1 hb).2
set_option maxRecDepth 20000 in
set_option maxHeartbeats 2000000 in
theorem r16_Reach (v : Value) (L : List Ins) (i : Int) (w : World) (h : Rd w 5 Ins.enc v L) (hl : L.length ≤ 1000000) (hok : InsOk L) : Calls Try.prog 24 #[v, .int .i64 i] w (OwnB (reachL L i) w) := by
  obtain ⟨a, n, c, rfl, hn, hN⟩ := h.val
  have hk2 : n ≤ 1000000 := by rw [hN.out]; exact hl
  have HD := Lib.hid h
  have HOK := Lib.hid hok
  have HL := Lib.hid hl
  have HN := Lib.hid hN.out
  have hmk := run_make_bool n hk2
  clear h hok hl
  cases hp : progS L with
  | false =>
    have HP := Lib.hid hp
    clear hp
    go_enter Try.func24, Try.ntmps24
    go_wp2_with fail
    refine (r_Check _ L _ HD.out HL.out HOK.out).mono ?_
    rintro e w5 ⟨at_, er, rfl, her, hE⟩
    rw [HP.out] at her
    have hne : (er != 0) = true := by simpa using her
    have HE := Lib.hid hE
    clear her hE
    go_wp2_with fail
    go_returns
    exact ⟨_, rfl, by rw [reachL, HP.out]; exact Own.nil _ _ _ _ _, HE.out⟩
  | true =>
    have HP := Lib.hid hp
    obtain ⟨bi, hbi⟩ : ∃ bi, beginsS L i = bi := ⟨_, rfl⟩
    have HBI := Lib.hid hbi
    clear hp hbi
    go_enter Try.func24, Try.ntmps24
    go_wp2_with fail
    refine (r_Check _ L _ HD.out HL.out HOK.out).mono ?_
    rintro e w5 ⟨at_, er, rfl, her, hE⟩
    rw [HP.out] at her
    obtain rfl : er = 0 := by simpa using her
    have HE := Lib.hid hE
    clear her hE
    go_wp2_with fail
    refine (r16_begins _ L i _ (HD.out.ext HE.out) HL.out HOK.out).mono ?_
    rw [HBI.out]
    rintro e w6 ⟨rfl, hE6⟩
    have HE6 := Lib.hid (HE.out.trans' hE6)
    clear hE6
    cases bi with
    | false =>
      go_wp2_with fail
      go_returns
      refine ⟨_, rfl, ?_, by have := HE6.out; (repeat (first | exact Ext.rfl' _ | assumption | refine Ext.drewN' ?_ _ | refine Ext.drew' ?_ | refine Ext.alloc' ?_ _ | refine Ext.trans' ?_ (by assumption)))⟩
      have : List.replicate n false = reachL L i := reachL_eq HP.out (by simpa using HN.out) (fun k hk => by rw [HBI.out, List.getElem?_replicate, HN.out, if_pos hk]; simp)
      rw [← this]
      exact own_made_bool _ _ hk2 _ HE6.out.size
    | true =>
      clear hmk
      have hlit : Rd (w6.alloc (.cells ([i].flatMap encI).toArray 3)) 1 encI (.slice (some ⟨w6.heap.size, 0, none⟩) 1 1) [i] := rd_ints w6 [i] _ _ rfl rfl (by simp)
      have HLIT := Lib.hid hlit
      clear hlit
      go_wp2_with fail
      refine (r16_reach _ _ L [i] _ (HD.out.ext (by have := HE6.out; (repeat (first | exact Ext.rfl' _ | assumption | refine Ext.drewN' ?_ _ | refine Ext.drew' ?_ | refine Ext.alloc' ?_ _ | refine Ext.trans' ?_ (by assumption))))) HLIT.out HL.out HOK.out HP.out (one_start HBI.out)).mono ?_
      rw [reachF_one HP.out HBI.out]
      rintro e w7 ⟨v7, rfl, hO7, hE7⟩
      have HO7 := Lib.hid hO7
      have HE7 : Hid (Ext w w7) := Lib.hid (Ext.trans' (HE6.out.alloc' _) hE7)
      clear hO7 hE7
      go_wp2_with fail
      go_returns
      exact ⟨_, rfl, HO7.out.mono (HE6.out.alloc' _).size, HE7.out⟩
set_option maxRecDepth 20000 in
set_option maxHeartbeats 2000000 in
theorem r16_Loops (v : Value) (L : List Ins) (w : World) (h : Rd w 5 Ins.enc v L) (hl : L.length ≤ 1000000) (hok : InsOk L) : Calls Try.prog 27 #[v] w fun e w' => e = .returned (.bool (loopsL L)) ∧ Ext w w' := by
  obtain ⟨a, n, c, rfl, hn, hN⟩ := h.val
  have hk2 : n ≤ 1000000 := by rw [hN.out]; exact hl
  have HD := Lib.hid h
  have HOK := Lib.hid hok
  have HL := Lib.hid hl
  have HN := Lib.hid hN.out
  clear h hok hl
  obtain ⟨lo, hlo⟩ : ∃ lo, loopsL L = lo := ⟨_, rfl⟩
  rw [hlo]
  have HLO := Lib.hid hlo
  clear hlo
  cases hp : progS L with
  | false =>
    have HP := Lib.hid hp
    clear hp
    go_enter Try.func27, Try.ntmps27
    go_wp2_with fail
    refine (r_Check _ L _ HD.out HL.out HOK.out).mono ?_
    rintro e w5 ⟨at_, er, rfl, her, hE⟩
    rw [HP.out] at her
    have hne : (er != 0) = true := by simpa using her
    have HE := Lib.hid hE
    clear her hE
    go_wp2_with fail
    go_returns
    exact ⟨by rw [← HLO.out, loopsL, HP.out]; rfl, HE.out⟩
  | true =>
    have HP := Lib.hid hp
    have HBZ := Lib.hid (begins_zero hp)
    have HIFF : Hid (lo = true ↔ ∃ i, Conn (aheadAt L) 0 i ∧ Back (aheadAt L) i) := Lib.hid (by rw [← HLO.out]; exact loops_iff hp)
    clear hp HLO
    go_enter Try.func27, Try.ntmps27
    go_wp2_with fail
    refine (r_Check _ L _ HD.out HL.out HOK.out).mono ?_
    rintro e w5 ⟨at_, er, rfl, her, hE⟩
    rw [HP.out] at her
    obtain rfl : er = 0 := by simpa using her
    have HE := Lib.hid hE
    have hlit : Rd (w5.alloc (.cells ([(0 : Int)].flatMap encI).toArray 3)) 1 encI (.slice (some ⟨w5.heap.size, 0, none⟩) 1 1) [0] := rd_ints w5 [0] _ _ rfl rfl (by simp)
    have HLIT := Lib.hid hlit
    clear her hE hlit
    go_wp2_with fail
    refine (r16_reach _ _ L [0] _ (HD.out.ext (by have := HE.out; (repeat (first | exact Ext.rfl' _ | assumption | refine Ext.drewN' ?_ _ | refine Ext.drew' ?_ | refine Ext.alloc' ?_ _ | refine Ext.trans' ?_ (by assumption))))) HLIT.out HL.out HOK.out HP.out (one_start HBZ.out)).mono ?_
    rintro e w6 ⟨v6, rfl, hO6, hE6⟩
    obtain ⟨ra, rn, rc, hrv, hrn, hRN⟩ := (hO6.rd enc_bool).val
    subst hrv
    have hnn : rn = n := by rw [hRN.out, reachF_length, HN.out]
    subst hnn
    have HR6 := Lib.hid (hO6.rd enc_bool)
    have HE6 : Hid (Ext w w6) := Lib.hid (Ext.trans' (HE.out.alloc' _) hE6)
    have HD6 := Lib.hid (HD.out.ext HE6.out)
    clear hO6 hE6
    have HAT : Hid (∀ k, k < L.length → ((reachF L [0])[k]? = some true ↔ Conn (aheadAt L) 0 k)) := Lib.hid (fun k hk => by rw [reachF_at L [0] hk]; simp)
    obtain ⟨M, hM⟩ : ∃ M, reachF L [0] = M := ⟨_, rfl⟩
    rw [hM] at HR6 hRN HAT
    clear hM
    go_wp2_with fail
    go_loopw [6] (fun q wr => ∃ k : Nat, k ≤ rn ∧ q = .int .i64 k ∧ Hid (Ext w6 wr ∧ ∀ j, j < k → Conn (aheadAt L) 0 j → ¬ Back (aheadAt L) j)) (fun q _ => rn - (intOf q).toNat)
    case atStart => exact ⟨0, Nat.zero_le _, rfl, Lib.hid ⟨Ext.rfl' _, fun j hj => absurd hj (Nat.not_lt_zero _)⟩⟩
    case round =>
      obtain ⟨k, hk, rfl, HI⟩ := hrel
      by_cases hlt : (k : Int) < rn
      · obtain ⟨b, hb⟩ := at_of_lt (xs := M) (k := k) (by have := hRN.out; omega)
        have hkL : k < L.length := by have := HN.out; omega
        have ix := fun W => HR6.out.run_at (P := Try.prog) el_bool.under el_bool.size .i64 (k : Int) (by omega) (by omega) W
        have cb := (HR6.out.ext HI.out.1).cell hb (j := 0) rfl
        simp only [Nat.mul_one, Nat.add_zero, Int.toNat_natCast] at ix cb
        have HBK := Lib.hid hb
        have HKL := Lib.hid hkL
        clear hb hkL
        cases b with
        | false =>
          go_wp2_with fail
          go_roundw
          case rel =>
            refine ⟨k + 1, by omega, by go_num, Lib.hid ⟨HI.out.1, fun j hj hc => ?_⟩⟩
            by_cases e : j = k
            · subst e
              have := (HAT.out j HKL.out).2 hc
              rw [HBK.out] at this
              cases this
            · exact HI.out.2 j (by omega) hc
          case measure => simp [intOf]; omega
        | true =>
          have hc := (HAT.out k HKL.out).1 HBK.out
          have h0s : (stF false L)[0]? = some true := (begins_iff.1 HBZ.out).2.2.2
          have hst := conn_start HP.out h0s hc
          obtain ⟨x, hx⟩ := at_of_lt (xs := L) (k := k) HKL.out
          have hA : aheadAt L k = aheadL L x k := by unfold aheadAt; rw [hx]
          have HC := Lib.hid hc
          have HST := Lib.hid hst
          have HX := Lib.hid hx
          have HA := Lib.hid hA
          have HXIN := Lib.hid (fun t (ht : t ∈ aheadL L x k) => within HP.out hst t (by rw [hA]; exact ht))
          clear hc h0s hst hx hA
          go_wp2_with fail
          refine (r16_ahead _ L k x _ (HD6.out.ext HI.out.1) HL.out HP.out HST.out HX.out (HOK.out.at HX.out)).mono ?_
          rintro e w7 ⟨v7, rfl, hO7, hE7⟩
          have HR7 := Lib.hid (hO7.rd (enc_int .i64))
          have HE7 := Lib.hid (HI.out.1.trans' hE7)
          clear hO7 hE7
          go_wp2_with fail
          refine (r16_reach _ _ L (aheadL L x k) _ (HD6.out.ext HE7.out) HR7.out HL.out HOK.out HP.out HXIN.out).mono ?_
          rintro e w8 ⟨v8, rfl, hO8, hE8⟩
          obtain ⟨qa, qn, qc, hqv, hqn, hQN⟩ := (hO8.rd enc_bool).val
          subst hqv
          have hnq : qn = rn := by rw [hQN.out, reachF_length, HN.out]
          subst hnq
          obtain ⟨b2, hb2⟩ := at_of_lt (xs := reachF L (aheadL L x k)) (k := k) (by rw [reachF_length]; exact HKL.out)
          have iy := fun W => (hO8.rd enc_bool).run_at (P := Try.prog) el_bool.under el_bool.size .i64 (k : Int) (by omega) (by omega) W
          have cy := (hO8.rd enc_bool).cell hb2 (j := 0) rfl
          simp only [Nat.mul_one, Nat.add_zero, Int.toNat_natCast] at iy cy
          have HE8 := Lib.hid (HE7.out.trans' hE8)
          have hbk : b2 = true ↔ Back (aheadAt L) k := by
            have h1 := reachF_at L (aheadL L x k) HKL.out
            rw [hb2] at h1
            constructor
            · rintro rfl
              obtain ⟨s, hs, hc⟩ := h1.1 rfl
              have := HXIN.out s hs
              exact ⟨s.toNat, by rw [HA.out, Int.toNat_of_nonneg this.1]; exact hs, hc⟩
            · rintro ⟨j, hj, hc⟩
              rw [HA.out] at hj
              have := h1.2 ⟨(j : Int), hj, by simpa using hc⟩
              simpa using this
          have HBB := Lib.hid hbk
          clear hO8 hE8 hb2 hbk
          cases b2 with
          | true =>
            have hl : lo = true := HIFF.out.2 ⟨k, HC.out, HBB.out.1 rfl⟩
            have HLT := Lib.hid hl
            clear hl
            go_wp2_with fail
            go_returns
            exact ⟨by rw [HLT.out]; rfl, HE6.out.trans' HE8.out⟩
          | false =>
            go_wp2_with fail
            go_roundw
            case rel =>
              refine ⟨k + 1, by omega, by go_num, Lib.hid ⟨HE8.out, fun j hj hc hbj => ?_⟩⟩
              by_cases e : j = k
              · subst e
                have := HBB.out.2 hbj
                cases this
              · exact HI.out.2 j (by omega) hc hbj
            case measure => simp [intOf]; omega
      · have hl : lo = false := by
          rw [Bool.eq_false_iff]
          intro h
          obtain ⟨i, hi, hbk⟩ := HIFF.out.1 h
          have hs := conn_start HP.out (begins_iff.1 HBZ.out).2.2.2 hi
          have := st_lt hs
          exact HI.out.2 i (by have := HN.out; omega) hi hbk
        have HLF := Lib.hid hl
        clear hl
        go_wp2_with fail
        go_returns
        exact ⟨by rw [HLF.out]; rfl, HE6.out.trans' HI.out.1⟩
end Go.Proofs.Ytkogkcjiachphaa
namespace Go.Proofs.Ytkogkcjiachphaa
open Go.RowKit
set_option linter.unusedVariables false
set_option linter.unusedSimpArgs false

/-- In a program each jump has a target. -/
theorem goes_ref {L : List Ins} (hp : ProgF L) {m : Nat} {x : Ins} (hs : (stF false L)[m]? = some true) (hx : L[m]? = some x) : goesK x = ((targetS L x m).isSome || (whatZ x).kind == 12) := by
  have h2 := hp.o2 m (st_lt hs)
  rw [(ok1_at hs hx).2.1] at h2
  unfold goesK targetS
  unfold toS at h2 ⊢
  by_cases hk : (whatZ x).kind = 9 ∨ (whatZ x).kind = 10
  · rw [if_pos hk] at h2 ⊢
    simp only [] at h2 ⊢
    unfold jumpOk at h2
    simp only [Bool.and_eq_true, decide_eq_true_eq] at h2
    rw [if_pos ⟨h2.1, h2.2.1⟩]
    rcases hk with e | e <;> simp [e]
  · rw [if_neg hk]
    have h9 : ((whatZ x).kind == 9) = false := by simpa using fun e => hk (.inl e)
    have h10 : ((whatZ x).kind == 10) = false := by simpa using fun e => hk (.inr e)
    rw [h9, h10]
    simp
set_option maxRecDepth 20000 in
set_option maxHeartbeats 8000000 in
theorem r16_Heads (v : Value) (L : List Ins) (w : World) (h : Rd w 5 Ins.enc v L) (hl : L.length ≤ 1000000) (hok : InsOk L) : Calls Try.prog 25 #[v] w (OwnB (headsL L) w) := by
  obtain ⟨a, n, c, rfl, hn, hN⟩ := h.val
  have hk2 : n ≤ 1000000 := by rw [hN.out]; exact hl
  have HD := Lib.hid h
  have HOK := Lib.hid hok
  have HL := Lib.hid hl
  have HN := Lib.hid hN.out
  clear h hok hl
  unfold headsL
  cases hb : progS L with
  | false =>
    have HB := Lib.hid hb
    clear hb
    simp only [Bool.false_eq_true, if_false]
    go_enter Try.func25, Try.ntmps25
    go_wp2_with fail
    refine (r_Check _ L _ HD.out HL.out HOK.out).mono ?_
    rintro e w5 ⟨at_, er, rfl, her, hE⟩
    rw [HB.out] at her
    have hne : (er != 0) = true := by simpa using her
    have HE := Lib.hid hE
    clear her hE
    go_wp2_with fail
    go_returns
    exact ⟨_, rfl, Own.nil _ _ _ _ _, HE.out⟩
  | true =>
    have h1 : 1 ≤ n := by rw [hN.out]; exact (ProgF.of hb).len.1
    have HB := Lib.hid hb
    have HGR := Lib.hid (fun (m : Nat) (x : Ins) => goes_ref (L := L) (m := m) (x := x) (ProgF.of hb))
    clear hb
    have hmk := run_make_bool n hk2
    simp only [if_true]
    go_enter Try.func25, Try.ntmps25
    go_wp2_with fail
    refine (r_Check _ L _ HD.out HL.out HOK.out).mono ?_
    rintro e w5 ⟨at_, er, rfl, her, hE⟩
    rw [HB.out] at her
    obtain rfl : er = 0 := by simpa using her
    have HE := Lib.hid hE
    clear her hE
    go_upto_region 4 with fail
    go_cut [5] from 20 to 22 (fun v3 wx => ∃ g, v3 = .slice (some ⟨g, 0, none⟩) n n ∧ g < wx.heap.size ∧ Hid (Own wx w.heap.size 4 1 encB v3 (List.replicate n false) ∧ Ext w wx))
    case first =>
      go_wp2_with fail
      go_meet
      exact ⟨_, rfl, by simp, Lib.hid ⟨own_made_bool _ _ hk2 _ HE.out.size, HE.out.alloc' _⟩⟩
    case rest =>
      obtain ⟨g, rfl, hg, HO⟩ := hcut
      obtain ⟨a3, c3, hv3⟩ : ∃ a3 c3, a3 = some (⟨g, 0, none⟩ : Addr) ∧ c3 = n := ⟨_, _, rfl, rfl⟩
      have hrd := HO.out.1.rd enc_bool
      have i0 := fun W => hrd.run_at (P := Try.prog) el_bool.under el_bool.size .i64 0 (by omega) (by omega) W
      obtain ⟨e1, e2, e3, e4, e5⟩ := HO.out.1.at (k := 0) (x := false) (by rw [List.getElem?_replicate, if_pos (by omega)])
      simp only [Nat.mul_one, Int.toNat_zero] at i0
      have HO0 := Lib.hid (e5 true)
      clear e5 e3 hrd hmk hv3
      go_upto_region 6 with fail
      have hO1 := HO0.out.1
      have hE1 : Ext w _ := HO0.out.2 _ _ HO.out.2 (Nat.le_refl _)
      have hg1 : g < (wc.setCell (elt (.slice (some ⟨g, 0, none⟩) n n) 0) (.bool true)).heap.size := by simpa using hg
      have hz : headUpto L 0 = (List.replicate n false).set 0 true := by rw [HN.out]; exact headUpto_zero (by rw [← HN.out]; exact h1)
      rw [← hz] at hO1
      generalize hF : wc.setCell (elt (.slice (some ⟨g, 0, none⟩) n n) 0) (.bool true) = wF at hO1 hE1 hg1 ⊢
      clear hF hz e1 e2 e4 HO0 HO i0 hg
      have HO1 := Lib.hid hO1
      have HE1 := Lib.hid hE1
      clear hO1 hE1
      go_wp2_with fail
      refine (r_Starts _ L _ (HD.out.ext HE1.out) HL.out).mono ?_
      rintro e w6 ⟨s, rfl, hO, hE6⟩
      obtain ⟨sa, sn, sc, hsv, hsn, hSN⟩ := (hO.rd enc_bool).val
      have HS := Lib.hid hO
      have HE6 := Lib.hid hE6
      clear hO hE6
      subst hsv
      obtain rfl : sn = n := by rw [hSN.out, stF_length, HN.out]
      go_wp2_with fail
      go_loopw [7] (fun q wr => ∃ m : Nat, m ≤ sn ∧ q = .int .i64 m ∧ Hid (Own wr w.heap.size 4 1 encB (.slice (some ⟨g, 0, none⟩) sn sn) (headUpto L m) ∧ Ext w wr ∧ Own wr wF.heap.size 4 1 encB (.slice sa sn sc) (stF false L))) (fun q _ => sn - (intOf q).toNat)
      case atStart => exact ⟨0, Nat.zero_le _, rfl, Lib.hid ⟨HO1.out.ext HE6.out, HE1.out.trans' HE6.out, HS.out⟩⟩
      case round =>
        obtain ⟨m, hm, rfl, HI⟩ := hrel
        by_cases hlt : (m : Int) < sn
        · obtain ⟨b, hb⟩ := at_of_lt (xs := stF false L) (k := m) (by have := hSN.out; omega)
          obtain ⟨x, hx⟩ := at_of_lt (xs := L) (k := m) (by have := HN.out; omega)
          have hrs := HI.out.2.2.rd enc_bool
          have ix := fun W => hrs.run_at (P := Try.prog) el_bool.under el_bool.size .i64 (m : Int) (by omega) (by omega) W
          have cb := hrs.cell hb (j := 0) rfl
          have iy := fun W => HD.out.run_at (P := Try.prog) el_ins.under el_ins.size .i64 (m : Int) (by omega) (by omega) W
          obtain ⟨c0, c1, c2, c3, c4⟩ := ins_cells (HD.out.ext HI.out.2.1) hx
          simp only [Nat.mul_one, Nat.add_zero, Int.toNat_natCast] at ix cb iy
          have HSB := Lib.hid hb
          have HX := Lib.hid hx
          obtain ⟨y, hy⟩ : ∃ y, (whatS x).getD Wh.zero = y := ⟨_, rfl⟩
          obtain ⟨bb, hbb⟩ : ∃ y, (whatS x).isSome = y := ⟨_, rfl⟩
          obtain ⟨z12, hz12⟩ : ∃ z, (y.kind == 12) = z := ⟨_, rfl⟩
          have HY := Lib.hid hy
          have HBB := Lib.hid hbb
          have HZZ : Hid (((whatZ x).kind == 12) = z12) := Lib.hid (by unfold whatZ; rw [hy]; exact hz12)
          clear hb hx hrs hy hbb
          go_upto_region 10 with fail
          go_cut [8, 9] from 33 to 40 (fun v6 v9 wx => ∃ q, v6 = .pointer (some ⟨q, 0, none⟩) ∧ v9 = .bool bb ∧ Hid (Ext wr wx ∧ wx.heap[q]? = some (whObj y)))
          case first =>
            go_wp2_with fail
            refine (r_What x _ (HOK.out.at HX.out)).mono ?_
            unfold WhatA
            rw [HY.out, HBB.out]
            rintro e w7 ⟨rfl, hE7⟩
            have HE7 := Lib.hid hE7
            clear hE7
            go_wp2_with fail
            go_meet
            refine ⟨_, rfl, rfl, Lib.hid ⟨HE7.out.alloc' _, ?_⟩⟩
            (repeat (first | (refine obj_top _ _ ?_; simp; done) | refine obj_old _ ?_))
          case rest =>
            obtain ⟨q, rfl, rfl, HW⟩ := hcut
            replace cb := HW.out.1.cellOf cb
            clear c0 c1 c2 c3 c4 iy
            cases b with
            | false =>
              go_wp2_with fail
              go_roundw
              case rel => exact ⟨m + 1, by omega, by go_num, Lib.hid ⟨by rw [headUpto_skip (fun k _ => by unfold marks; rw [HSB.out])]; exact HI.out.1.ext HW.out.1, HI.out.2.1.trans' HW.out.1, HI.out.2.2.ext HW.out.1⟩⟩
              case measure => simp [intOf]; omega
            | true =>
              have hmk : ∀ k, marks L m k = markX L x m k := fun k => by unfold marks; rw [HSB.out, HX.out]
              have HMK := Lib.hid hmk
              have hgx := HGR.out m x HSB.out HX.out
              rw [HZZ.out] at hgx
              have HGX := Lib.hid hgx
              clear hmk hgx
              go_wp2_with fail
              refine (r_Target _ L m x _ (HD.out.ext (HI.out.2.1.trans' HW.out.1)) HL.out HX.out (HOK.out.at HX.out)).mono ?_
              unfold OptA
              obtain ⟨o, ho⟩ : ∃ o, targetS L x m = o := ⟨_, rfl⟩
              rw [ho]
              rintro e w8 ⟨rfl, hE8⟩
              have HE8 := Lib.hid (HW.out.1.trans' hE8)
              have HQ8 := Lib.hid (hE8.obj HW.out.2)
              have HTO := Lib.hid ho
              clear hE8 ho ix cb
              cases o with
              | none =>
                simp only [Option.getD_none, Option.isSome_none]
                go_wp2_with fail
                refine (r_Next _ L m x _ (HD.out.ext (HI.out.2.1.trans' HE8.out)) HL.out HX.out).mono ?_
                rintro e w9 ⟨rfl, hE9⟩
                have HE9 := Lib.hid hE9
                have q0 := cell_obj (i := 0) (hE9.obj HQ8.out)
                simp only [List.getElem?_toArray, List.getElem?_cons_zero, List.getElem?_cons_succ] at q0
                clear hE9
                have HO9 := Lib.hid ((HI.out.1.ext HE8.out).ext HE9.out)
                have HS9 := Lib.hid ((HI.out.2.2.ext HE8.out).ext HE9.out)
                have HX9 : Hid (Ext w w9) := Lib.hid (Ext.trans' (HI.out.2.1.trans' HE8.out) HE9.out)
                cases z12 with
                | false =>
                  have hgf : goesK x = false := by rw [HGX.out, HTO.out]; rfl
                  have HGF := Lib.hid hgf
                  clear hgf
                  go_wp2_with fail
                  go_roundw
                  case rel => exact ⟨m + 1, by omega, by go_num, Lib.hid ⟨by rw [headUpto_skip (fun k _ => by rw [HMK.out, markX, HGF.out]; rfl)]; exact HO9.out, HX9.out, HS9.out⟩⟩
                  case measure => simp [intOf]; omega
                | true =>
                  have hgt : goesK x = true := by rw [HGX.out, HTO.out]; rfl
                  have HMM := Lib.hid (headUpto_mark HMK.out hgt)
                  clear hgt
                  by_cases hnx : ((nextI x m : Nat) : Int) < sn
                  · obtain ⟨z, hz⟩ := at_of_lt (xs := headUpto L m) (k := nextI x m) (by have := HN.out; have := headUpto_length L m; simp; omega)
                    have iz := fun W => (HO9.out.rd enc_bool).run_at (P := Try.prog) el_bool.under el_bool.size .i64 ((nextI x m : Nat) : Int) (by omega) (by omega) W
                    simp only [Nat.mul_one, Nat.add_zero, Int.toNat_natCast] at iz
                    obtain ⟨f1, f2, f3, f4, f5⟩ := HO9.out.at hz
                    have HO10 := Lib.hid (f5 true)
                    clear f5 f3 hz
                    go_wp2_with fail
                    go_roundw
                    case rel => exact ⟨m + 1, by omega, by go_num, Lib.hid ⟨by rw [HMM.out, HTO.out]; exact HO10.out.1, HO10.out.2 _ _ HX9.out (Nat.le_refl _), HS9.out.other (by rw [elt_block]; exact hg1) _⟩⟩
                    case measure => simp [intOf]; omega
                  · go_wp2_with fail
                    go_roundw
                    case rel => exact ⟨m + 1, by omega, by go_num, Lib.hid ⟨by rw [HMM.out, HTO.out, List.set_eq_of_length_le (by have := HN.out; have := headUpto_length L m; simp; omega)]; exact HO9.out, HX9.out, HS9.out⟩⟩
                    case measure => simp [intOf]; omega
              | some t =>
                have hgt : goesK x = true := by rw [HGX.out, HTO.out]; rfl
                have HMM := Lib.hid (headUpto_mark HMK.out hgt)
                clear hgt
                simp only [Option.getD_some, Option.isSome_some]
                obtain ⟨t0, t1⟩ := target_lt HTO.out
                rw [← HN.out] at t1
                have HO8 := Lib.hid (HI.out.1.ext HE8.out)
                obtain ⟨z, hz⟩ := at_of_lt (xs := headUpto L m) (k := t.toNat) (by have := HN.out; have := headUpto_length L m; omega)
                have it := fun W => (HO8.out.rd enc_bool).run_at (P := Try.prog) el_bool.under el_bool.size .i64 t (by omega) (by omega) W
                simp only [Nat.mul_one, Nat.add_zero] at it
                obtain ⟨f1, f2, f3, f4, f5⟩ := HO8.out.at hz
                have HQ8 := Lib.hid (f5 true)
                clear f5 f3 hz
                have HEQ : Hid (Ext w (w8.setCell (elt (.slice (some ⟨g, 0, none⟩) sn sn) t.toNat) (.bool true))) := Lib.hid (HQ8.out.2 _ _ (HI.out.2.1.trans' HE8.out) (Nat.le_refl _))
                have HSQ := Lib.hid ((HI.out.2.2.ext HE8.out).other (a := elt (.slice (some ⟨g, 0, none⟩) sn sn) t.toNat) (by rw [elt_block]; exact hg1) (.bool true))
                go_wp2_with fail
                refine (r_Next _ L m x _ (HD.out.ext HEQ.out) HL.out HX.out).mono ?_
                rintro e w9 ⟨rfl, hE9⟩
                have HE9 := Lib.hid hE9
                clear hE9
                have HO9 := Lib.hid (HQ8.out.1.ext HE9.out)
                have HS9 := Lib.hid (HSQ.out.ext HE9.out)
                have HX9 : Hid (Ext w w9) := Lib.hid (Ext.trans' HEQ.out HE9.out)
                by_cases hnx : ((nextI x m : Nat) : Int) < sn
                · obtain ⟨z, hz⟩ := at_of_lt (xs := (headUpto L m).set t.toNat true) (k := nextI x m) (by have := HN.out; have := headUpto_length L m; simp; omega)
                  have iz := fun W => (HO9.out.rd enc_bool).run_at (P := Try.prog) el_bool.under el_bool.size .i64 ((nextI x m : Nat) : Int) (by omega) (by omega) W
                  simp only [Nat.mul_one, Nat.add_zero, Int.toNat_natCast] at iz
                  obtain ⟨f1, f2, f3, f4, f5⟩ := HO9.out.at hz
                  have HO10 := Lib.hid (f5 true)
                  clear f5 f3 hz
                  go_wp2_with fail
                  go_roundw
                  case rel => exact ⟨m + 1, by omega, by go_num, Lib.hid ⟨by rw [HMM.out, HTO.out]; exact HO10.out.1, HO10.out.2 _ _ HX9.out (Nat.le_refl _), HS9.out.other (by rw [elt_block]; exact hg1) _⟩⟩
                  case measure => simp [intOf]; omega
                · go_wp2_with fail
                  go_roundw
                  case rel => exact ⟨m + 1, by omega, by go_num, Lib.hid ⟨by rw [HMM.out, HTO.out, List.set_eq_of_length_le (by have := HN.out; have := headUpto_length L m; simp; omega)]; exact HO9.out, HX9.out, HS9.out⟩⟩
                  case measure => simp [intOf]; omega
        · obtain rfl : m = sn := by omega
          go_wp2_with fail
          go_returns
          exact ⟨_, rfl, by rw [← HN.out]; exact HI.out.1, HI.out.2.1⟩
end Go.Proofs.Ytkogkcjiachphaa
