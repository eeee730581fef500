/- GraphHeads: why it is true, and the walk. -/
import Derived.Test.YtkogkcjiachphaaGL
import Derived.Test.YtkogkcjiachphaaR7G
namespace Go.Proofs.Ytkogkcjiachphaa
open Go.RowKit
set_option linter.unusedVariables false
set_option linter.unusedSimpArgs false

theorem st_lt {L : List Ins} {k : Nat} {b : Bool} (h : (stF false L)[k]? = some b) : k < L.length := by rw [← stF_length false L]; exact (List.getElem?_eq_some_iff.1 h).1
theorem next_start {L : List Ins} {k : Nat} {x : Ins} (hk : (stF false L)[k]? = some true) (hx : L[k]? = some x) (hn : nextI x k < L.length) : (stF false L)[nextI x k]? = some true :=
  st_head (st_step (st_at false L k hk) hx).2.1 hn
/-- Between an instruction and the next one none begins. -/
theorem next_gap {L : List Ins} {k j : Nat} {x : Ins} (hk : (stF false L)[k]? = some true) (hx : L[k]? = some x) (h1 : k < j) (h2 : j < nextI x k) : (stF false L)[j]? ≠ some true := by
  intro h
  unfold nextI at h2
  split at h2
  · rename_i ho
    obtain rfl : j = k + 1 := by omega
    rw [(st_step (st_at false L k hk) hx).2.2 ho (st_lt h)] at h
    cases h
  · omega
theorem marks_at {L : List Ins} {i k : Nat} (h : marks L i k = true) : ∃ x, (stF false L)[i]? = some true ∧ L[i]? = some x ∧ goesK x = true ∧ (targetS L x i = some (k : Int) ∨ nextI x i = k) := by
  unfold marks at h
  split at h
  · rename_i x hs hx
    unfold markX at h
    simp only [Bool.and_eq_true, Bool.or_eq_true, beq_iff_eq] at h
    exact ⟨x, hs, hx, h.1, h.2⟩
  · cases h
theorem target_start {L : List Ins} (hp : ProgF L) {i : Nat} {x : Ins} (hs : (stF false L)[i]? = some true) (hx : L[i]? = some x) {t : Int} (ht : targetS L x i = some t) : (stF false L)[t.toNat]? = some true :=
  (ahead_start hp hs hx (mem_ahead.2 (.inr ht))).2.2
/-- Where no instruction begins no block does. -/
theorem head_start {L : List Ins} (hp : progS L = true) {k : Nat} (hk : (stF false L)[k]? = some false) : headB L L.length k = false := by
  have h1 := (ProgF.of hp).len.1
  have h0 : (stF false L)[0]? = some true := st_head rfl h1
  rw [Bool.eq_false_iff]
  intro h
  unfold headB at h
  simp only [Bool.or_eq_true, beq_iff_eq, List.any_eq_true, List.mem_range] at h
  rcases h with rfl | ⟨i, hi, hm⟩
  · rw [h0] at hk; cases hk
  · obtain ⟨x, hs, hx, _, ht | hn⟩ := marks_at hm
    · have := target_start (ProgF.of hp) hs hx ht
      rw [Int.toNat_natCast, hk] at this
      cases this
    · have := next_start hs hx (by rw [hn]; exact st_lt hk)
      rw [hn, hk] at this
      cases this
theorem lastS_spec {L : List Ins} (h0 : (stF false L)[0]? = some true) : ∀ k, 0 < k → (stF false L)[lastS L k]? = some true ∧ lastS L k < k ∧ ∀ j, lastS L k < j → j < k → (stF false L)[j]? ≠ some true
  | 0, h => absurd h (Nat.not_lt_zero _)
  | k + 1, _ => by
    unfold lastS
    split
    · rename_i h
      exact ⟨h, by omega, fun j h1 h2 => by omega⟩
    · rename_i h
      by_cases hk : k = 0
      · subst hk; exact absurd h0 h
      · obtain ⟨a, b, c⟩ := lastS_spec h0 k (by omega)
        refine ⟨a, by omega, fun j h1 h2 => ?_⟩
        by_cases e : j = k
        · subst e; exact h
        · exact c j h1 (by omega)
theorem filter_one {f : Nat → Bool} {p : Nat} : ∀ n, p < n → (∀ j, j < n → (f j = true ↔ j = p)) → (List.range n).filter f = [p]
  | 0, h, _ => absurd h (Nat.not_lt_zero _)
  | n + 1, h, hf => by
    rw [List.range_succ, List.filter_append]
    by_cases e : p = n
    · subst e
      have h1 : (List.range p).filter f = [] := List.filter_eq_nil_iff.2 (fun j hj => by
        have hj' : j < p := by simpa using hj
        have := (hf j (by omega))
        intro h2
        have := this.1 h2
        omega)
      rw [h1]
      simp [(hf p (by omega)).2 rfl]
    · rw [filter_one n (by omega) (fun j hj => hf j (by omega))]
      have : f n = false := by
        rw [Bool.eq_false_iff]
        intro h2
        exact e ((hf n (by omega)).1 h2).symm
      simp [this]
/-- What begins no block has just the one ahead of it Behind, and that goes nowhere else. -/
theorem heads_law {L : List Ins} (hp : progS L = true) {k : Nat} (hk : (stF false L)[k]? = some true) (hh : headB L L.length k = false) :
    behindL L k = [((lastS L k : Nat) : Int)] ∧ aheadV L (lastS L k : Nat) = [(k : Int)] := by
  have h1 := (ProgF.of hp).len.1
  have h0 : (stF false L)[0]? = some true := st_head rfl h1
  have hkl := st_lt hk
  unfold headB at hh
  simp only [Bool.or_eq_false_iff, beq_eq_false_iff_ne, ne_eq, List.any_eq_false, List.mem_range] at hh
  obtain ⟨hk0, hm⟩ := hh
  obtain ⟨p1, p2, p3⟩ := lastS_spec h0 k (by omega)
  generalize lastS L k = p at p1 p2 p3 ⊢
  have hpl := st_lt p1
  obtain ⟨x, hx⟩ := at_of_lt hpl
  have hnx : nextI x p = k := by
    rcases Nat.lt_trichotomy (nextI x p) k with h | h | h
    · exact absurd (next_start p1 hx (by omega)) (p3 _ (by have := nextI_le x p; omega) h)
    · exact h
    · exact absurd hk (next_gap p1 hx p2 h)
  have nomark : ∀ i y, (stF false L)[i]? = some true → L[i]? = some y → (targetS L y i = some (k : Int) ∨ nextI y i = k) → goesK y = false := fun i y hs hy ht => by
    have := hm i (st_lt hs)
    unfold marks at this
    rw [hs, hy] at this
    simp only [markX] at this
    cases hg : goesK y with
    | false => rfl
    | true =>
      rw [hg] at this
      simp only [Bool.true_and, Bool.or_eq_true, beq_iff_eq] at this
      exact absurd ht this
  have tgt : ∀ {i : Nat} {y : Ins} {t : Int}, targetS L y i = some t → goesK y = true := fun {i y t} h => by
    unfold targetS at h
    cases hto : toS y i with
    | none => rw [hto] at h; cases h
    | some u =>
      unfold toS at hto
      split at hto
      · rename_i hkk
        unfold goesK
        rcases hkk with e | e <;> simp [e]
      · cases hto
  have hgx := nomark p x p1 hx (.inr hnx)
  have hA : aheadL L x p = [(k : Int)] := by
    rw [ahead_two, hnx]
    have hon : goesOn x = true := by
      unfold goesK at hgx
      unfold goesOn
      simp only [Bool.or_eq_false_iff, beq_eq_false_iff_ne, ne_eq] at hgx
      simp [hgx.1, hgx.2.1]
    have hnt : targetS L x p = none := by
      cases ht : targetS L x p with
      | none => rfl
      | some t => rw [tgt ht] at hgx; cases hgx
    rw [hon, hnt]
    rfl
  refine ⟨?_, ?_⟩
  · unfold behindL
    rw [begins_st hp hk, if_pos rfl]
    unfold behUpto
    rw [filter_one L.length hpl (p := p) (fun j hj => ?_)]
    · rfl
    · constructor
      · intro hb
        unfold isBehind at hb
        split at hb
        · rename_i y hs hy
          have hb' : (k : Int) ∈ aheadL L y j := by simpa using hb
          rcases mem_ahead.1 hb' with ⟨_, e⟩ | e
          · have e' : nextI y j = k := by omega
            rcases Nat.lt_trichotomy j p with h | h | h
            · exact absurd p1 (next_gap hs hy h (by omega))
            · exact h
            · exact absurd hs (p3 j h (by have := nextI_le y j; omega))
          · have := nomark j y hs hy (.inl e)
            rw [tgt e] at this
            cases this
        · cases hb
      · rintro rfl
        unfold isBehind
        rw [p1, hx]
        simp only [hA]
        simp
  · unfold aheadV
    rw [begins_st hp p1, if_pos rfl, Int.toNat_natCast, hx]
    exact hA
theorem heads_at {L : List Ins} (hp : progS L = true) {k : Nat} (hk : k < L.length) : (headsL L)[k]? = some (headB L L.length k) := by
  unfold headsL headUpto
  rw [if_pos hp]
  simp [hk]
theorem heads_len {L : List Ins} (hp : progS L = true) : (headsL L).length = L.length := by
  unfold headsL
  rw [if_pos hp, headUpto_length]
set_option maxRecDepth 20000 in
set_option maxHeartbeats 4000000 in
theorem heads_any (v : Value) (L0 : List Ins) (w : World) (h : Rd w 5 Ins.enc v L0) (hok0 : InsOk L0) : Calls Try.prog 4 #[v] w fun e w' => e = .returned (.bool true) ∧ Ext w w' := by
  have HD0 := Lib.hid h
  have hok : InsOk (L0.take 150) := fun x hx => hok0 x (List.mem_of_mem_take hx)
  have hl : (L0.take 150).length ≤ 1000000 := by simp; omega
  have HFEW := Lib.hid (fun W => p_few v L0 W)
  obtain ⟨L, hL⟩ : ∃ L, L0.take 150 = L := ⟨_, rfl⟩
  rw [hL] at hok hl
  have HTK := Lib.hid hL
  have HOK := Lib.hid hok
  have HL := Lib.hid hl
  clear h hok0 hok hl hL
  go_enter Try.func4, Try.ntmps4
  go_wp2_with fail
  refine (p_shown _).mono ?_
  rintro e w1 ⟨rfl, hE1⟩
  have HE1 := Lib.hid hE1
  clear hE1
  go_wp2_with fail
  refine (HFEW.out _ (HD0.out.ext HE1.out)).mono ?_
  rw [HTK.out]
  rintro e w2 ⟨v2, rfl, hR2, hE2⟩
  have HD := Lib.hid hR2
  have HE2 := Lib.hid (HE1.out.trans' hE2)
  obtain ⟨xa, xn, xc, hxv, hxn, hXN⟩ := hR2.val
  subst hxv
  clear hR2 hE2 HE1
  go_wp2_with fail
  refine (p_Heads _ L _ HD.out HL.out HOK.out).mono ?_
  rintro e w3 ⟨v3, rfl, hO3, hE3⟩
  have hr3 := hO3.rd enc_bool
  obtain ⟨ra, rn, rc, hrv, hrn, hRN⟩ := hr3.val
  subst hrv
  have HR3 := Lib.hid hr3
  have HE3 := Lib.hid (HE2.out.trans' hE3)
  have HD3 := Lib.hid (HD.out.ext hE3)
  clear hr3 hO3 hE3 HE2
  go_wp2_with fail
  refine (r_Check _ L _ HD3.out HL.out HOK.out).mono ?_
  rintro e w4 ⟨at_, er, rfl, her, hE4⟩
  have HE4 := Lib.hid (HE3.out.trans' hE4)
  have HR4 := Lib.hid (HR3.out.ext hE4)
  have HD4 := Lib.hid (HD3.out.ext hE4)
  clear hE4 HE3 HR3 HD3
  cases hp : progS L with
  | false =>
    have hne : (er != 0) = true := by
      rw [hp] at her
      simpa using her
    have hz : rn = 0 := by rw [hRN.out]; unfold headsL; rw [hp]; rfl
    subst hz
    clear her hp
    go_wp2_with fail
    go_returns
    exact ⟨rfl, HE4.out⟩
  | true =>
    have hne : er = 0 := by
      rw [hp] at her
      simpa using her
    subst hne
    have hnn : rn = xn := by rw [hRN.out, heads_len hp, hXN.out]
    subst hnn
    have h1 := (ProgF.of hp).len.1
    have hn1 : 1 ≤ rn := by rw [hXN.out]; exact h1
    have hb0 : (headsL L)[0]? = some true := by rw [heads_at hp (by omega)]; rfl
    have i0 := fun W => HR4.out.run_at (P := Try.prog) el_bool.under el_bool.size .i64 0 (by omega) (by omega) W
    have c0 := HR4.out.cell hb0 (j := 0) rfl
    simp only [Nat.mul_one, Nat.add_zero, Int.toNat_zero] at i0 c0
    have HP := Lib.hid hp
    clear her hp hb0 h1
    go_wp2_with fail
    refine (r_Starts _ L _ HD4.out HL.out).mono ?_
    rintro e w5 ⟨s5, rfl, hO5, hE5⟩
    have hr5 := hO5.rd enc_bool
    obtain ⟨sa, sn, sc, hsv, hsn, hSN⟩ := hr5.val
    subst hsv
    have hnn : sn = rn := by rw [hSN.out, stF_length, hXN.out]
    subst hnn
    have HS5 := Lib.hid hr5
    have HE5 := Lib.hid (HE4.out.trans' hE5)
    have HR5 := Lib.hid (HR4.out.ext hE5)
    have HD5 := Lib.hid (HD4.out.ext hE5)
    clear hr5 hO5 hE5 HE4 HR4 HD4 i0 c0
    go_wp2_with fail
    go_loopw [8, 43] (fun l q wr => ∃ k : Nat, k ≤ sn ∧ q = .int .i64 k ∧ l = .int .i64 (lastS L k : Nat) ∧ Hid (Ext w5 wr)) (fun _ q _ => sn - (intOf q).toNat)
    case atStart => exact ⟨0, Nat.zero_le _, rfl, rfl, Lib.hid (Ext.rfl' _)⟩
    case round =>
      obtain ⟨k, hk, rfl, rfl, HI⟩ := hrel
      by_cases hlt : (k : Int) < sn
      · obtain ⟨b, hb⟩ := at_of_lt (xs := stF false L) (k := k) (by have := hSN.out; omega)
        have hkL : k < L.length := by have := hXN.out; omega
        have hh := heads_at HP.out hkL
        have ix := fun W => HS5.out.run_at (P := Try.prog) el_bool.under el_bool.size .i64 (k : Int) (by omega) (by omega) W
        have cb := (HS5.out.ext HI.out).cell hb (j := 0) rfl
        have iy := fun W => HR5.out.run_at (P := Try.prog) el_bool.under el_bool.size .i64 (k : Int) (by omega) (by omega) W
        have cy := (HR5.out.ext HI.out).cell hh (j := 0) rfl
        simp only [Nat.mul_one, Nat.add_zero, Int.toNat_natCast] at ix cb iy cy
        obtain ⟨x, hx⟩ := at_of_lt hkL
        have HB := Lib.hid hb
        have HX := Lib.hid hx
        have hlk : lastS L k < 1000000 := by
          rcases Nat.eq_zero_or_pos k with rfl | hpos
          · simp [lastS]
          · have h0 : (stF false L)[0]? = some true := st_head rfl (by omega)
            have h2 := ((lastS_spec h0 k hpos).2.1)
            have h3 := hXN.out
            have h4 := (ProgF.of HP.out).len.2
            omega
        cases b with
        | false =>
          have hf : headB L L.length k = false := head_start HP.out hb
          rw [hf] at cy
          clear hb hh hx hf
          go_wp2_with fail
          go_roundw
          case rel => exact ⟨k + 1, by omega, by go_num, by rw [(ok1_skip HB.out).2.2], HI⟩
          case measure => simp [intOf]; omega
        | true =>
          have HLS := Lib.hid ((ok1_at hb hx).2.2)
          cases hv : headB L L.length k with
          | true =>
            rw [hv] at cy
            clear hb hh hx hv
            go_wp2_with fail
            go_roundw
            case rel => exact ⟨k + 1, by omega, by go_num, by rw [HLS.out], HI⟩
            case measure => simp [intOf]; omega
          | false =>
            have HLAW := Lib.hid (heads_law HP.out hb hv)
            rw [hv] at cy
            clear hb hh hx hv
            generalize lastS L k = lp at *
            go_wp2_with fail
            refine (p_Behind _ L k _ (HD5.out.ext HI.out) HL.out HOK.out).mono ?_
            rw [HLAW.out.1]
            rintro e w6 ⟨v6, rfl, hO6, hE6⟩
            have HR6 := Lib.hid (hO6.rd (enc_int .i64))
            have HE6 := Lib.hid hE6
            clear hO6 hE6
            go_wp2_with fail
            refine (p_ints v6 _ [(lp : Int)] [(lp : Int)] _ (HR6.out.ext (by (repeat (first | exact Ext.rfl' _ | assumption | refine Ext.drewN' ?_ _ | refine Ext.drew' ?_ | refine Ext.alloc' ?_ _ | refine Ext.trans' ?_ (by assumption))))) (rd_ints w6 [(lp : Int)] _ _ rfl rfl (by simp))).mono ?_
            rw [decide_eq_true rfl]
            rintro e w7 ⟨rfl, hE7⟩
            have HE7 : Hid (Ext w5 w7) := Lib.hid (HI.out.trans' (Ext.trans' (HE6.out.alloc' _) hE7))
            clear hE7 HR6 HE6
            go_wp2_with fail
            refine (p_AheadV _ L (lp : Int) _ (HD5.out.ext HE7.out) HL.out HOK.out).mono ?_
            rw [HLAW.out.2]
            rintro e w8 ⟨v8, rfl, hO8, hE8⟩
            have HR8 := Lib.hid (hO8.rd (enc_int .i64))
            have HE8 := Lib.hid hE8
            clear hO8 hE8
            go_wp2_with fail
            refine (p_ints v8 _ [(k : Int)] [(k : Int)] _ (HR8.out.ext (by (repeat (first | exact Ext.rfl' _ | assumption | refine Ext.drewN' ?_ _ | refine Ext.drew' ?_ | refine Ext.alloc' ?_ _ | refine Ext.trans' ?_ (by assumption))))) (rd_ints w8 [(k : Int)] _ _ rfl rfl (by simp))).mono ?_
            rw [decide_eq_true rfl]
            rintro e w9 ⟨rfl, hE9⟩
            have HE9 : Hid (Ext w5 w9) := Lib.hid (HE7.out.trans' (Ext.trans' (HE8.out.alloc' _) hE9))
            clear hE9 HR8 HE8
            go_wp2_with fail
            go_roundw
            case rel => exact ⟨k + 1, by omega, by go_num, by rw [HLS.out], HE9⟩
            case measure => simp [intOf]; omega
      · go_wp2_with fail
        go_returns
        exact ⟨rfl, HE5.out.trans' HI.out⟩
end Go.Proofs.Ytkogkcjiachphaa
