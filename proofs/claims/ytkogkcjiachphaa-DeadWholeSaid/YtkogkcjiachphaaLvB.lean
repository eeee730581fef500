/- live: begins, Reads, Writes; hackleref17: bit, begins. · hackleref17.Writes. · hackleref17.Reads. -/
import Derived.Test.YtkogkcjiachphaaR16A
import Derived.Test.YtkogkcjiachphaaLvA
namespace Go.Proofs.Ytkogkcjiachphaa
open Go.RowKit
set_option linter.unusedVariables false
set_option linter.unusedSimpArgs false

set_option maxRecDepth 20000 in
set_option maxHeartbeats 1000000 in
theorem l_begins (v : Value) (L : List Ins) (i : Int) (w : World) (h : Rd w 5 Ins.enc v L) (hl : L.length ≤ 1000000) (hok : InsOk L) : Calls Try.prog 71 #[v, .int .i64 i] w fun e w' => e = .returned (.bool (beginsS L i)) ∧ Ext w w' := by
  obtain ⟨a, n, c, rfl, hn, hN⟩ := h.val
  have HD := Lib.hid h
  have HOK := Lib.hid hok
  have HL := Lib.hid hl
  obtain ⟨R, hR⟩ : ∃ R, R = beginsS L i := ⟨_, rfl⟩
  rw [← hR]
  unfold beginsS at hR
  obtain ⟨p, hp⟩ : ∃ p, progS L = p := ⟨_, rfl⟩
  rw [hp, ← hN.out] at hR
  have HR := Lib.hid hR
  have HP := Lib.hid hp
  clear h hok hl hR hp
  go_enter Try.func71, Try.ntmps71
  go_wp2_with fail
  refine (p_Check _ L _ HD.out HL.out HOK.out).mono ?_
  rintro e w5 ⟨at_, er, rfl, her, hE⟩
  rw [HP.out] at her
  have HE := Lib.hid hE
  clear hE
  cases p with
  | false =>
    have hne : (er != 0) = true := by simpa using her
    clear her
    go_wp2_with fail
    go_returns
    exact ⟨by rw [HR.out]; rfl, HE.out⟩
  | true =>
    obtain rfl : er = 0 := by simpa using her
    clear her
    by_cases h0 : 0 ≤ i
    · by_cases h1 : i < n
      · have d0 : decide (i < 0) = false := by simpa using h0
        have d1 : decide ((n : Int) ≤ i) = false := by simpa using h1
        go_wp2_with fail
        refine (p_Starts _ L _ (HD.out.ext HE.out) HL.out).mono ?_
        rintro e w6 ⟨s, rfl, hO, hE6⟩
        have hRd := hO.rd enc_bool
        obtain ⟨sa, sn, sc, rfl, hsn, hSN⟩ := hRd.val
        obtain rfl : sn = n := by rw [hSN.out, stF_length, hN.out]
        obtain ⟨b, hb⟩ := at_of_lt (xs := stF false L) (k := i.toNat) (by have := hSN.out; omega)
        have ix := fun W => hRd.run_at (P := Try.prog) el_bool.under el_bool.size .i64 i (by omega) (by omega) W
        have cb := hRd.cell hb (j := 0) rfl
        simp only [Nat.mul_one, Nat.add_zero] at ix cb
        have HB := Lib.hid hb
        have HE6 := Lib.hid hE6
        clear hb hE6 hO hRd
        go_wp2_with fail
        go_returns
        exact ⟨by rw [HR.out, HB.out, decide_eq_true h0, decide_eq_true h1]; cases b <;> rfl, HE.out.trans' HE6.out⟩
      · have d0 : decide (i < 0) = false := by simpa using h0
        have d1 : decide ((n : Int) ≤ i) = true := by simpa using h1
        go_wp2_with fail
        go_returns
        exact ⟨by rw [HR.out, decide_eq_false (by omega : ¬ i < (n : Int))]; simp, HE.out⟩
    · have d0 : decide (i < 0) = true := by simpa using h0
      go_wp2_with fail
      go_returns
      exact ⟨by rw [HR.out, decide_eq_false (by omega : ¬ 0 ≤ i)]; simp, HE.out⟩
theorem begins_at {L : List Ins} {i : Int} (hb : beginsS L i = true) : ∃ k : Nat, i = k ∧ k < L.length ∧ ∃ x, L[k]? = some x := by
  unfold beginsS at hb
  simp only [Bool.and_eq_true, decide_eq_true_eq] at hb
  obtain ⟨x, hx⟩ := at_of_lt (xs := L) (k := i.toNat) (by omega)
  exact ⟨i.toNat, by omega, by omega, x, hx⟩
/-- What is said of an instruction, where one begins. -/
def atS (f : Ins → Nat) (L : List Ins) (i : Int) : Nat := if beginsS L i then (match L[i.toNat]? with | some x => f x | none => 0) else 0
set_option maxRecDepth 20000 in
set_option maxHeartbeats 1000000 in
theorem l_Reads (v : Value) (L : List Ins) (i : Int) (w : World) (h : Rd w 5 Ins.enc v L) (hl : L.length ≤ 1000000) (hok : InsOk L) : Calls Try.prog 32 #[v, .int .i64 i] w fun e w' => e = .returned (.int .u16 ((atS readsS L i : Nat) : Int)) ∧ Ext w w' := by
  obtain ⟨a, n, c, rfl, hn, hN⟩ := h.val
  have HD := Lib.hid h
  have HOK := Lib.hid hok
  have HL := Lib.hid hl
  unfold atS
  cases hb : beginsS L i with
  | false =>
    have HB := Lib.hid hb
    clear h hok hl hb
    go_enter Try.func32, Try.ntmps32
    go_wp2_with fail
    refine (l_begins _ L i _ HD.out HL.out HOK.out).mono ?_
    rw [HB.out]
    rintro e w5 ⟨rfl, hE⟩
    have HE := Lib.hid hE
    clear hE
    go_wp2_with fail
    go_returns
    exact ⟨rfl, HE.out⟩
  | true =>
    obtain ⟨k, rfl, hk, x, hx⟩ := begins_at hb
    simp only [if_true, Int.toNat_natCast, hx]
    have HB := Lib.hid hb
    have HX := Lib.hid hx
    have hk1 : k < n := by rw [hN.out]; exact hk
    have hk2 : n ≤ 1000000 := by rw [hN.out]; exact hl
    clear h hok hl hb hx hk
    go_enter Try.func32, Try.ntmps32
    go_wp2_with fail
    refine (l_begins _ L k _ HD.out HL.out HOK.out).mono ?_
    rw [HB.out]
    rintro e w5 ⟨rfl, hE⟩
    have HE := Lib.hid hE
    have HD5 := Lib.hid (HD.out.ext hE)
    clear hE
    have ix := fun W => HD5.out.run_at (P := Try.prog) el_ins.under el_ins.size .i64 (k : Int) (by omega) (by omega) W
    simp only [Int.toNat_natCast] at ix
    obtain ⟨c0, c1, c2, c3, c4⟩ := ins_cells HD5.out HX.out
    go_wp2_with fail
    refine (l_reads x _ (HOK.out.at HX.out)).mono ?_
    rintro e w6 ⟨rfl, hE6⟩
    have HE6 := Lib.hid hE6
    clear hE6
    go_wp2_with fail
    go_returns
    exact ⟨rfl, HE.out.trans' HE6.out⟩
set_option maxRecDepth 20000 in
set_option maxHeartbeats 1000000 in
theorem l_Writes (v : Value) (L : List Ins) (i : Int) (w : World) (h : Rd w 5 Ins.enc v L) (hl : L.length ≤ 1000000) (hok : InsOk L) : Calls Try.prog 34 #[v, .int .i64 i] w fun e w' => e = .returned (.int .u16 ((atS writesS L i : Nat) : Int)) ∧ Ext w w' := by
  obtain ⟨a, n, c, rfl, hn, hN⟩ := h.val
  have HD := Lib.hid h
  have HOK := Lib.hid hok
  have HL := Lib.hid hl
  unfold atS
  cases hb : beginsS L i with
  | false =>
    have HB := Lib.hid hb
    clear h hok hl hb
    go_enter Try.func34, Try.ntmps34
    go_wp2_with fail
    refine (l_begins _ L i _ HD.out HL.out HOK.out).mono ?_
    rw [HB.out]
    rintro e w5 ⟨rfl, hE⟩
    have HE := Lib.hid hE
    clear hE
    go_wp2_with fail
    go_returns
    exact ⟨rfl, HE.out⟩
  | true =>
    obtain ⟨k, rfl, hk, x, hx⟩ := begins_at hb
    simp only [if_true, Int.toNat_natCast, hx]
    have HB := Lib.hid hb
    have HX := Lib.hid hx
    have hk1 : k < n := by rw [hN.out]; exact hk
    have hk2 : n ≤ 1000000 := by rw [hN.out]; exact hl
    clear h hok hl hb hx hk
    go_enter Try.func34, Try.ntmps34
    go_wp2_with fail
    refine (l_begins _ L k _ HD.out HL.out HOK.out).mono ?_
    rw [HB.out]
    rintro e w5 ⟨rfl, hE⟩
    have HE := Lib.hid hE
    have HD5 := Lib.hid (HD.out.ext hE)
    clear hE
    have ix := fun W => HD5.out.run_at (P := Try.prog) el_ins.under el_ins.size .i64 (k : Int) (by omega) (by omega) W
    simp only [Int.toNat_natCast] at ix
    obtain ⟨c0, c1, c2, c3, c4⟩ := ins_cells HD5.out HX.out
    go_wp2_with fail
    refine (l_writes x _ (HOK.out.at HX.out)).mono ?_
    rintro e w6 ⟨rfl, hE6⟩
    have HE6 := Lib.hid hE6
    clear hE6
    go_wp2_with fail
    go_returns
    exact ⟨rfl, HE.out.trans' HE6.out⟩
set_option maxRecDepth 20000 in
set_option maxHeartbeats 1000000 in
theorem s_bit (i : Int) (w : World) (h0 : 0 ≤ i) (h1 : i ≤ 10) : Calls Try.prog 74 #[.int .u8 i] w fun e w' => e = .returned (.int .u16 ((bitS i : Nat) : Int)) ∧ w' = w := by
  have hi : i = 0 ∨ i = 1 ∨ i = 2 ∨ i = 3 ∨ i = 4 ∨ i = 5 ∨ i = 6 ∨ i = 7 ∨ i = 8 ∨ i = 9 ∨ i = 10 := by omega
  clear h0 h1
  rcases hi with rfl | rfl | rfl | rfl | rfl | rfl | rfl | rfl | rfl | rfl | rfl
  all_goals
    go_enter Try.func74, Try.ntmps74
    go_wp2
    go_returns
    exact ⟨rfl, rfl⟩
set_option maxRecDepth 20000 in
set_option maxHeartbeats 1000000 in
theorem s_begins (v : Value) (L : List Ins) (i : Int) (w : World) (h : Rd w 5 Ins.enc v L) (hl : L.length ≤ 1000000) (hok : InsOk L) : Calls Try.prog 73 #[v, .int .i64 i] w fun e w' => e = .returned (.bool (beginsS L i)) ∧ Ext w w' := by
  obtain ⟨a, n, c, rfl, hn, hN⟩ := h.val
  have HD := Lib.hid h
  have HOK := Lib.hid hok
  have HL := Lib.hid hl
  obtain ⟨R, hR⟩ : ∃ R, R = beginsS L i := ⟨_, rfl⟩
  rw [← hR]
  unfold beginsS at hR
  obtain ⟨p, hp⟩ : ∃ p, progS L = p := ⟨_, rfl⟩
  rw [hp, ← hN.out] at hR
  have HR := Lib.hid hR
  have HP := Lib.hid hp
  clear h hok hl hR hp
  go_enter Try.func73, Try.ntmps73
  go_wp2_with fail
  refine (r_Check _ L _ HD.out HL.out HOK.out).mono ?_
  rintro e w5 ⟨at_, er, rfl, her, hE⟩
  rw [HP.out] at her
  have HE := Lib.hid hE
  clear hE
  cases p with
  | false =>
    have hne : (er == 0) = false := by simpa using her
    clear her
    go_wp2_with fail
    go_returns
    exact ⟨by rw [HR.out]; rfl, HE.out⟩
  | true =>
    obtain rfl : er = 0 := by simpa using her
    clear her
    by_cases h0 : 0 ≤ i
    · by_cases h1 : i < n
      · go_wp2_with fail
        refine (r_Starts _ L _ (HD.out.ext HE.out) HL.out).mono ?_
        rintro e w6 ⟨s, rfl, hO, hE6⟩
        have hRd := hO.rd enc_bool
        obtain ⟨sa, sn, sc, rfl, hsn, hSN⟩ := hRd.val
        obtain rfl : sn = n := by rw [hSN.out, stF_length, hN.out]
        obtain ⟨b, hb⟩ := at_of_lt (xs := stF false L) (k := i.toNat) (by have := hSN.out; omega)
        have ix := fun W => hRd.run_at (P := Try.prog) el_bool.under el_bool.size .i64 i (by omega) (by omega) W
        have cb := hRd.cell hb (j := 0) rfl
        simp only [Nat.mul_one, Nat.add_zero] at ix cb
        have HB := Lib.hid hb
        have HE6 := Lib.hid hE6
        clear hb hE6 hO hRd
        go_wp2_with fail
        go_returns
        exact ⟨by rw [HR.out, HB.out, decide_eq_true h0, decide_eq_true h1]; cases b <;> rfl, HE.out.trans' HE6.out⟩
      · go_wp2_with fail
        go_returns
        exact ⟨by rw [HR.out, decide_eq_false (by omega : ¬ i < (n : Int))]; simp, HE.out⟩
    · go_wp2_with fail
      go_returns
      exact ⟨by rw [HR.out, decide_eq_false (by omega : ¬ 0 ≤ i)]; simp, HE.out⟩
end Go.Proofs.Ytkogkcjiachphaa
namespace Go.Proofs.Ytkogkcjiachphaa
open Go.RowKit
set_option linter.unusedVariables false
set_option linter.unusedSimpArgs false

set_option maxRecDepth 20000 in
set_option maxHeartbeats 2000000 in
theorem s_Writes (v : Value) (L : List Ins) (i : Int) (w : World) (h : Rd w 5 Ins.enc v L) (hl : L.length ≤ 1000000) (hok : InsOk L) : Calls Try.prog 35 #[v, .int .i64 i] w fun e w' => e = .returned (.int .u16 ((atS writesS L i : Nat) : Int)) ∧ Ext w w' := by
  obtain ⟨a, n, c, rfl, hn, hN⟩ := h.val
  have HD := Lib.hid h
  have HOK := Lib.hid hok
  have HL := Lib.hid hl
  unfold atS
  cases hb : beginsS L i with
  | false =>
    have HB := Lib.hid hb
    clear h hok hl hb
    go_enter Try.func35, Try.ntmps35
    go_wp2_with fail
    refine (s_begins _ L i _ HD.out HL.out HOK.out).mono ?_
    rw [HB.out]
    rintro e w5 ⟨rfl, hE⟩
    have HE := Lib.hid hE
    clear hE
    go_wp2_with fail
    go_returns
    exact ⟨rfl, HE.out⟩
  | true =>
    obtain ⟨k, rfl, hk, x, hx⟩ := begins_at hb
    simp only [if_true, Int.toNat_natCast, hx]
    have HB := Lib.hid hb
    have HX := Lib.hid hx
    have hk1 : k < n := by rw [hN.out]; exact hk
    have hk2 : n ≤ 1000000 := by rw [hN.out]; exact hl
    obtain ⟨y, hy⟩ : ∃ y, (whatS x).getD Wh.zero = y := ⟨_, rfl⟩
    have hka := kind_all hy
    have hrs : writesS x = if y.kind = 1 ∨ y.kind = 2 ∨ y.kind = 3 ∨ y.kind = 4 ∨ y.kind = 5 then bitS x.dst else if y.kind = 11 then 63 else 0 := by unfold writesS whatZ; rw [hy]
    obtain ⟨R, hR⟩ : ∃ R, writesS x = R := ⟨_, rfl⟩
    rw [hR]
    rw [hR] at hrs
    have HY := Lib.hid hy
    obtain ⟨kd, op, wd, rg, sg, sz⟩ := y
    simp only [] at hrs hka
    have HRS := Lib.hid hrs
    have HKA := Lib.hid hka
    have hd0 := (hok.at hx).dst.1
    clear h hok hl hb hx hk hy hR hrs hka
    go_enter Try.func35, Try.ntmps35
    go_wp2_with fail
    refine (s_begins _ L k _ HD.out HL.out HOK.out).mono ?_
    rw [HB.out]
    rintro e w5 ⟨rfl, hE⟩
    have HE := Lib.hid hE
    have HD5 := Lib.hid (HD.out.ext hE)
    clear hE
    have ix := fun W => HD5.out.run_at (P := Try.prog) el_ins.under el_ins.size .i64 (k : Int) (by omega) (by omega) W
    simp only [Int.toNat_natCast] at ix
    obtain ⟨c0, c1, c2, c3, c4⟩ := ins_cells HD5.out HX.out
    go_wp2_with fail
    refine (r_What x _ (HOK.out.at HX.out)).mono ?_
    unfold WhatA
    rw [HY.out]
    rintro e w7 ⟨rfl, hE7⟩
    have HE7 := Lib.hid hE7
    have HD7 := Lib.hid (HD5.out.ext hE7)
    have HD8 := Lib.hid (HD7.out.ext (Ext.alloc' (Ext.rfl' w7) (whObj ⟨kd, op, wd, rg, sg, sz⟩)))
    clear hE7 c0 c1 c2 c3 c4
    obtain ⟨c0, c1, c2, c3, c4⟩ := ins_cells HD8.out HX.out
    have hk13 : kd = 1 ∨ kd = 2 ∨ kd = 3 ∨ kd = 4 ∨ kd = 5 ∨ kd = 0 ∨ kd = 6 ∨ kd = 7 ∨ kd = 8 ∨ kd = 9 ∨ kd = 10 ∨ kd = 12 ∨ kd = 11 := by rcases HKA.out with h | h <;> omega
    have hreg : kd = 0 ∨ (x.dst ≤ 10 ∧ x.src ≤ 10) := by
      rcases HKA.out with h | h
      · exact .inl h.1
      · exact .inr h.2.2
    have HREG := Lib.hid hreg
    clear hreg
    rcases hk13 with rfl | rfl | rfl | rfl | rfl | rfl | rfl | rfl | rfl | rfl | rfl | rfl | rfl
    iterate 5
      have hd10 : x.dst ≤ 10 := by rcases HREG.out with h | h; (cases h); exact h.1
      go_wp2_with fail
      refine (s_bit x.dst _ hd0 hd10).mono ?_
      rintro e w9 ⟨rfl, rfl⟩
      go_wp2_with fail
      go_returns
      exact ⟨by rw [HRS.out]; rfl, by have := HE.out.trans' HE7.out; (repeat (first | exact Ext.rfl' _ | assumption | refine Ext.drewN' ?_ _ | refine Ext.drew' ?_ | refine Ext.alloc' ?_ _ | refine Ext.trans' ?_ (by assumption)))⟩
    all_goals
      go_wp2_with fail
      go_returns
      exact ⟨by rw [HRS.out]; rfl, by have := HE.out.trans' HE7.out; (repeat (first | exact Ext.rfl' _ | assumption | refine Ext.drewN' ?_ _ | refine Ext.drew' ?_ | refine Ext.alloc' ?_ _ | refine Ext.trans' ?_ (by assumption)))⟩
end Go.Proofs.Ytkogkcjiachphaa
namespace Go.Proofs.Ytkogkcjiachphaa
open Go.RowKit
set_option linter.unusedVariables false
set_option linter.unusedSimpArgs false

theorem reg_wide {x : Ins} {y : Wh} (e : wideS x = some y) : y.reg = false := by
  unfold wideS at e
  repeat' split at e
  all_goals first | (cases e; done) | (injection e with e; subst e; rfl)
theorem reg_swaps {x : Ins} {y : Wh} (e : swapsS x = some y) : y.reg = false := by
  unfold swapsS at e
  repeat' split at e
  all_goals first | (cases e; done) | (injection e with e; subst e; rfl)
theorem reg_jumps {x : Ins} {y : Wh} (e : jumpsS x = some y) : y.kind = 9 → y.reg = false := by
  unfold jumpsS at e
  repeat' split at e
  all_goals first | (cases e; done) | (injection e with e; subst e; intro h; first | rfl | (cases h; done) | (simp at h; done))
theorem reg_some {x : Ins} {y : Wh} (e : whatS x = some y) : (y.kind = 2 ∨ y.kind = 3 ∨ y.kind = 4 ∨ y.kind = 9) → y.reg = false := by
  unfold whatS at e
  repeat' split at e
  all_goals first | (cases e; done) | (have := reg_wide e; exact fun _ => this) | (have := reg_swaps e; exact fun _ => this) | (have := kind_arith e; intro h; omega) | (have := kind_moves e; intro h; omega) | (have := kind_jumps e; intro h; exact reg_jumps e (by omega))
theorem reg_all {x : Ins} {y : Wh} (e : (whatS x).getD Wh.zero = y) : (y.kind = 0 ∨ y.kind = 2 ∨ y.kind = 3 ∨ y.kind = 4 ∨ y.kind = 9) → y.reg = false := by
  cases hw : whatS x with
  | none => rw [hw] at e; subst e; exact fun _ => rfl
  | some z =>
    rw [hw] at e
    have : z = y := e
    subst this
    intro h
    have := kind_some hw
    exact reg_some hw (by omega)
set_option maxRecDepth 20000 in
set_option maxHeartbeats 600000 in
theorem s_Reads (v : Value) (L : List Ins) (i : Int) (w : World) (h : Rd w 5 Ins.enc v L) (hl : L.length ≤ 1000000) (hok : InsOk L) : Calls Try.prog 33 #[v, .int .i64 i] w fun e w' => e = .returned (.int .u16 ((atS readsS L i : Nat) : Int)) ∧ Ext w w' := by
  obtain ⟨a, n, c, rfl, hn, hN⟩ := h.val
  have HD := Lib.hid h
  have HOK := Lib.hid hok
  have HL := Lib.hid hl
  unfold atS
  cases hb : beginsS L i with
  | false =>
    have HB := Lib.hid hb
    clear h hok hl hb
    go_enter Try.func33, Try.ntmps33
    go_wp2_with fail
    refine (s_begins _ L i _ HD.out HL.out HOK.out).mono ?_
    rw [HB.out]
    rintro e w5 ⟨rfl, hE⟩
    have HE := Lib.hid hE
    clear hE
    go_wp2_with fail
    go_returns
    exact ⟨rfl, HE.out⟩
  | true =>
    obtain ⟨k, rfl, hk, x, hx⟩ := begins_at hb
    simp only [if_true, Int.toNat_natCast, hx]
    have HB := Lib.hid hb
    have HX := Lib.hid hx
    have hk1 : k < n := by rw [hN.out]; exact hk
    have hk2 : n ≤ 1000000 := by rw [hN.out]; exact hl
    obtain ⟨y, hy⟩ : ∃ y, (whatS x).getD Wh.zero = y := ⟨_, rfl⟩
    have hka := kind_all hy
    have hra := reg_all hy
    have hrs : readsS x = readsK y.kind y.op y.reg x := by unfold readsS whatZ; rw [hy]
    obtain ⟨R, hR⟩ : ∃ R, readsS x = R := ⟨_, rfl⟩
    rw [hR]
    rw [hR] at hrs
    have HY := Lib.hid hy
    obtain ⟨kd, op, wd, rg, sg, sz⟩ := y
    simp only [] at hrs hka hra
    have HRS := Lib.hid hrs
    have HKA := Lib.hid hka
    have HRA := Lib.hid hra
    have hd0 := (hok.at hx).dst.1
    have hs0 := (hok.at hx).src.1
    have HXO := Lib.hid (hok.at hx)
    clear h hok hl hb hx hk hy hR hrs hka hra
    go_enter Try.func33, Try.ntmps33
    go_wp2_with fail
    refine (s_begins _ L k _ HD.out HL.out HOK.out).mono ?_
    rw [HB.out]
    rintro e w5 ⟨rfl, hE⟩
    have HE5 := Lib.hid hE
    have HD5 := Lib.hid (HD.out.ext hE)
    clear hE
    have ix := fun W => HD5.out.run_at (P := Try.prog) el_ins.under el_ins.size .i64 (k : Int) (by omega) (by omega) W
    simp only [Int.toNat_natCast] at ix
    obtain ⟨c0, c1, c2, c3, c4⟩ := ins_cells HD5.out HX.out
    go_upto_region 3 with fail
    go_cut [5] (fun v5 wx => ∃ p, v5 = .pointer (some ⟨p, 0, none⟩) ∧ Hid (Ext w5 wx ∧ wx.heap[p]? = some (insObj x)))
    case first =>
      go_wp2_with fail
      go_meet
      refine ⟨_, rfl, Lib.hid ⟨Ext.alloc' (Ext.rfl' _) _, ?_⟩⟩
      (repeat (first | (refine obj_top _ _ ?_; simp; done) | refine obj_old _ ?_))
    case rest =>
      obtain ⟨p, rfl, HW⟩ := hcut
      have HO1 := Lib.hid HW.out.2
      have HE := Lib.hid (HE5.out.trans' HW.out.1)
      clear HW c0 c1 c2 c3 c4 ix HD5 HE5
      (have o1 := HO1.out; have a0 := cell_obj (i := 0) o1; have a1 := cell_obj (i := 1) o1; have a2 := cell_obj (i := 2) o1; have a3 := cell_obj (i := 3) o1; have a4 := cell_obj (i := 4) o1; simp only [List.getElem?_toArray, List.getElem?_cons_zero, List.getElem?_cons_succ] at a0 a1 a2 a3 a4; clear o1)
      have hl1 := heap_lt HO1.out
      go_upto_region 4 with fail
      go_cut [6] from 6 to 26 (fun v6 wx => ∃ q, v6 = .pointer (some ⟨q, 0, none⟩) ∧ Hid (Ext w wx ∧ wx.heap[p]? = some (insObj x) ∧ wx.heap[q]? = some (whObj ⟨kd, op, wd, rg, sg, sz⟩)))
      case first =>
        go_wp2_with fail
        refine (r_What x _ HXO.out).mono ?_
        unfold WhatA
        rw [HY.out]
        rintro e w7 ⟨rfl, hE7⟩
        have HE7 := Lib.hid hE7
        have HO7 := Lib.hid (hE7.obj HO1.out)
        clear hE7
        go_wp2_with fail
        go_meet
        refine ⟨_, rfl, Lib.hid ⟨(HE.out.trans' HE7.out).alloc' _, obj_old _ HO7.out, ?_⟩⟩
        (repeat (first | (refine obj_top _ _ ?_; simp; done) | refine obj_old _ ?_))
      case rest =>
        obtain ⟨q, rfl, HW⟩ := hcut
        replace HO1 := Lib.hid HW.out.2.1
        have HQ := Lib.hid HW.out.2.2
        replace HE := Lib.hid HW.out.1
        clear HW a0 a1 a2 a3 a4 hl1
        (have o1 := HO1.out; have a0 := cell_obj (i := 0) o1; have a1 := cell_obj (i := 1) o1; have a2 := cell_obj (i := 2) o1; have a3 := cell_obj (i := 3) o1; have a4 := cell_obj (i := 4) o1; simp only [List.getElem?_toArray, List.getElem?_cons_zero, List.getElem?_cons_succ] at a0 a1 a2 a3 a4; clear o1)
        have q0 := cell_obj (i := 0) HQ.out
        have q1 := cell_obj (i := 1) HQ.out
        have q3 := cell_obj (i := 3) HQ.out
        simp only [List.getElem?_toArray, List.getElem?_cons_zero, List.getElem?_cons_succ] at q0 q1 q3
        have hl1 := heap_lt HO1.out
        have hl2 := heap_lt HQ.out
        have hrg : rg = true → x.src ≤ 10 := fun h => by
          rcases HKA.out with h2 | h2
          · rw [h2.2] at h; cases h
          · exact h2.2.2.2
        have HSL := Lib.hid (regS_lt hs0 hrg)
        have HRG := Lib.hid hrg
        clear hrg
        have hreg : kd = 0 ∨ (x.dst ≤ 10 ∧ x.src ≤ 10) := by
          rcases HKA.out with h | h
          · exact .inl h.1
          · exact .inr h.2.2
        have HREG := Lib.hid hreg
        clear hreg
        go_upto_if 27 with fail
        go_cut [8] (fun v8 wx => v8 = .int .u16 ((regS rg x : Nat) : Int) ∧ Hid (wx = wc))
        case first =>
          cases rg
          · go_wp2_with fail
            go_meet
            exact ⟨rfl, Lib.hid rfl⟩
          · go_wp2_with fail
            refine (s_bit x.src _ hs0 (by simpa using HRG.out)).mono ?_
            rintro e w9 ⟨rfl, rfl⟩
            go_wp2_with fail
            go_meet
            exact ⟨rfl, Lib.hid rfl⟩
        case rest =>
          obtain ⟨rfl, HWC⟩ := hcut
          obtain rfl := HWC.out.symm
          have e_or := fun h => or_u16 (bitS_lt hd0 h) HSL.out
          have HOR := Lib.hid e_or
          clear e_or
          have hk13 : kd = 0 ∨ kd = 3 ∨ kd = 4 ∨ kd = 9 ∨ kd = 1 ∨ kd = 2 ∨ kd = 6 ∨ kd = 7 ∨ kd = 8 ∨ kd = 10 ∨ kd = 5 ∨ kd = 12 ∨ kd = 11 := by rcases HKA.out with h | h <;> omega
          rcases hk13 with rfl | rfl | rfl | rfl | rfl | rfl | rfl | rfl | rfl | rfl | rfl | rfl | rfl
          · go_wp2_with fail
            go_returns
            have hr0 : rg = false := HRA.out (by first | omega | simp)
            exact ⟨by (rw [HRS.out, hr0]; rfl), HE.out⟩
          · go_wp2_with fail
            go_returns
            have hr0 : rg = false := HRA.out (by first | omega | simp)
            exact ⟨by (rw [HRS.out, hr0]; rfl), HE.out⟩
          · go_wp2_with fail
            go_returns
            have hr0 : rg = false := HRA.out (by first | omega | simp)
            exact ⟨by (rw [HRS.out, hr0]; rfl), HE.out⟩
          · go_wp2_with fail
            go_returns
            have hr0 : rg = false := HRA.out (by first | omega | simp)
            exact ⟨by (rw [HRS.out, hr0]; rfl), HE.out⟩
          · have hd10 : x.dst ≤ 10 := by rcases HREG.out with h | h; (cases h); exact h.1
            have e_or := HOR.out hd10
            obtain ⟨z, hz⟩ : ∃ z, (op == 176) = z := ⟨_, rfl⟩
            cases z
            · go_wp2_with fail
              refine (s_bit x.dst _ hd0 hd10).mono ?_
              rintro e w9 ⟨rfl, rfl⟩
              go_wp2_with fail
              go_returns
              have h176 : ¬ op = 176 := by simpa using hz
              exact ⟨by (rw [HRS.out]; simp [readsK, h176, Nat.or_comm]), HE.out⟩
            · go_wp2_with fail
              go_returns
              have h176 : op = 176 := by simpa using hz
              exact ⟨by (rw [HRS.out, h176]; rfl), HE.out⟩
          · have hd10 : x.dst ≤ 10 := by rcases HREG.out with h | h; (cases h); exact h.1
            go_wp2_with fail
            refine (s_bit x.dst _ hd0 hd10).mono ?_
            rintro e w9 ⟨rfl, rfl⟩
            go_wp2_with fail
            go_returns
            have hr0 : rg = false := HRA.out (by first | omega | simp)
            exact ⟨by (rw [HRS.out, hr0]; simp [readsK, regS]), HE.out⟩
          iterate 4
            have hd10 : x.dst ≤ 10 := by rcases HREG.out with h | h; (cases h); exact h.1
            have e_or := HOR.out hd10
            go_wp2_with fail
            refine (s_bit x.dst _ hd0 hd10).mono ?_
            rintro e w9 ⟨rfl, rfl⟩
            go_wp2_with fail
            go_returns
            exact ⟨by (rw [HRS.out]; simp [readsK, Nat.or_comm]), HE.out⟩
          · have hs10 : x.src ≤ 10 := by rcases HREG.out with h | h; (cases h); exact h.2
            go_wp2_with fail
            refine (s_bit x.src _ hs0 hs10).mono ?_
            rintro e w9 ⟨rfl, rfl⟩
            go_wp2_with fail
            go_returns
            exact ⟨by (rw [HRS.out]; rfl), HE.out⟩
          · go_wp2_with fail
            refine (s_bit 0 _ (by omega) (by omega)).mono ?_
            rintro e w9 ⟨rfl, rfl⟩
            go_wp2_with fail
            go_returns
            exact ⟨by (rw [HRS.out]; rfl), HE.out⟩
          · have w4 : wrap64 x.imm = x.imm := by have := HXO.out.imm; unfold wrap64; omega
            go_wp2_with fail
            simp only [w4]
            refine (rsig x.imm _).mono ?_
            rintro e w9 ⟨sv, rfl, hsv, hE9⟩
            obtain ⟨ta, tn, tc, hsvv, htn, hTN⟩ := hsv.val
            subst hsvv
            have htl : (tolds x.imm).length = 0 ∨ (tolds x.imm).length = 2 ∨ (tolds x.imm).length = 4 := by
              unfold tolds
              split
              · exact .inr (.inl rfl)
              · split
                · exact .inr (.inr rfl)
                · split
                  · exact .inr (.inl rfl)
                  · exact .inl rfl
            have HE9 := Lib.hid hE9
            have HT := Lib.hid hTN.out
            clear hsv hE9 hTN w4
            rw [← HT.out] at htl
            rcases htl with rfl | rfl | rfl
            · go_wp2_with fail
              refine wp_loop_rounds 1 ?_
              rw [rounds_succ]
              go_wp2_with fail
              go_returns
              exact ⟨by (rw [HRS.out]; unfold readsK; simp only [← HT.out]; rfl), (HE.out.trans' HE9.out).alloc' _⟩
            · go_wp2_with fail
              refine wp_loop_rounds 3 ?_
              rw [rounds_succ]
              go_wp2_with fail
              refine (s_bit 1 _ (by omega) (by omega)).mono ?_
              rintro e w21 ⟨rfl, rfl⟩
              go_wp2_with fail
              rw [rounds_succ]
              go_wp2_with fail
              refine (s_bit 2 _ (by omega) (by omega)).mono ?_
              rintro e w22 ⟨rfl, rfl⟩
              go_wp2_with fail
              rw [rounds_succ]
              go_wp2_with fail
              go_returns
              exact ⟨by (rw [HRS.out]; unfold readsK; simp only [← HT.out]; rfl), (HE.out.trans' HE9.out).alloc' _⟩
            · go_wp2_with fail
              refine wp_loop_rounds 5 ?_
              rw [rounds_succ]
              go_wp2_with fail
              refine (s_bit 1 _ (by omega) (by omega)).mono ?_
              rintro e w21 ⟨rfl, rfl⟩
              go_wp2_with fail
              rw [rounds_succ]
              go_wp2_with fail
              refine (s_bit 2 _ (by omega) (by omega)).mono ?_
              rintro e w22 ⟨rfl, rfl⟩
              go_wp2_with fail
              rw [rounds_succ]
              go_wp2_with fail
              refine (s_bit 3 _ (by omega) (by omega)).mono ?_
              rintro e w23 ⟨rfl, rfl⟩
              go_wp2_with fail
              rw [rounds_succ]
              go_wp2_with fail
              refine (s_bit 4 _ (by omega) (by omega)).mono ?_
              rintro e w24 ⟨rfl, rfl⟩
              go_wp2_with fail
              rw [rounds_succ]
              go_wp2_with fail
              go_returns
              exact ⟨by (rw [HRS.out]; unfold readsK; simp only [← HT.out]; rfl), (HE.out.trans' HE9.out).alloc' _⟩
end Go.Proofs.Ytkogkcjiachphaa
