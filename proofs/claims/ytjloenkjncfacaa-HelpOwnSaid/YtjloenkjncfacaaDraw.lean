/- What is drawn. -/
import Derived.Test.YtjloenkjncfacaaHelp
namespace Go.Proofs.Ytjloenkjncfacaa
open Go.RowKit
set_option linter.unusedVariables false
set_option linter.unusedSimpArgs false

/-- Numbers of 64 bits. -/
def U64s (xs : List Int) : Prop := ∀ x ∈ xs, 0 ≤ x ∧ x ≤ 18446744073709551615
/-- What is drawn; the error; what is left. -/
def drawn (id : Int) (xs : List Int) : Int := if draws id = true then match xs with | [] => 0 | x :: _ => bits .and .u64 x (most id) else 0
def drawnErr (id : Int) (xs : List Int) : Int := if draws id = true then (if xs = [] then 100 else 0) else 1
def drawnRest (id : Int) (xs : List Int) : List Int := if draws id = true then xs.drop 1 else []
def DrawAns (id : Int) (xs : List Int) (w : World) (e : Ending) (w' : World) : Prop :=
  ∃ v, e = .returned (.tuple #[.int .u64 (drawn id xs), v, .int .i64 (drawnErr id xs)]) ∧ Sl w' .u64 v (drawnRest id xs) ∧ Ext w w'

/-- .. and what is left is the call's own. -/
def DrawOwn (id : Int) (xs : List Int) (w : World) (e : Ending) (w' : World) : Prop :=
  ∃ v, e = .returned (.tuple #[.int .u64 (drawn id xs), v, .int .i64 (drawnErr id xs)]) ∧ Own w' w.heap.size 25 1 (fun x => [Value.int .u64 x]) v (drawnRest id xs) ∧ Ext w w'
theorem DrawOwn.ans {id : Int} {xs : List Int} {w w' : World} {e : Ending} (h : DrawOwn id xs w e w') : DrawAns id xs w e w' := by
  obtain ⟨v, h1, h2, h3⟩ := h
  exact ⟨v, h1, h2.rd (enc_int _), h3⟩

set_option maxHeartbeats 1000000 in
theorem pdraw_own (id : Int) (l : Value) (xs : List Int) (w : World) (h : Sl w .u64 l xs) (hb : xs.length * 8 ≤ 140737488355328) :
    Calls Try.prog 10 #[.int .i64 id, l] w (DrawOwn id xs w) := by
  obtain ⟨la, ln, lc, rfl, hln, hN⟩ := h.val
  have HS := Lib.hid h
  by_cases hd : draws id = true
  · cases xs with
    | nil =>
      clear h
      obtain rfl : ln = 0 := hN.out
      go_enter Try.func10, Try.ntmps10
      go_wp2_with (go_at_call 9; refine (psig id _).mono ?_; rintro e w1 ⟨v, rfl, hv, he⟩; obtain ⟨sa, sn, sc, rfl, hsn, hSN⟩ := hv.val; have HV := Lib.hid hv; clear hv; obtain ⟨hc, hf⟩ := bcell he; have hz := he.size)
      go_returns
      exact ⟨.slice none 0 0, by simp [drawn, drawnErr, hd], by simp [drawnRest]; exact Own.nil _ _ _ _ _, by go_grown⟩
    | cons x xs =>
      have hl0 : (0 : Int) < ln := by have := hN.out; simp at this; omega
      have hl1 : ((ln : Int) == 0) = false := by simp; omega
      have hcut := fun W => h.run_cut_l (P := Try.prog) Try.underlying22 el_u64.size .i64 1 (by omega) (by omega) W
      have hat := fun W => h.run_at (P := Try.prog) Try.underlying22 el_u64.size .i64 0 (by omega) (by omega) W
      have hx := h.cell (i := 0) (x := x) rfl (j := 0) rfl
      simp only [Nat.zero_mul, Nat.add_zero, Int.toNat_zero, Int.toNat_one] at hx hat hcut
      have hx' := World.block_lt_of_cell? w _ hx
      clear h
      go_enter Try.func10, Try.ntmps10
      go_wp2_with (go_at_call 9; refine (psig id _).mono ?_; rintro e w1 ⟨v, rfl, hv, he⟩; obtain ⟨sa, sn, sc, rfl, hsn, hSN⟩ := hv.val; have HV := Lib.hid hv; clear hv; obtain ⟨hc, hf⟩ := bcell he; have hz := he.size)
      have hx1 := he.cellOf hx
      have hx2 := he.cellOf hx
      go_region_held3 (fun w' => w'.cell? (elt (.slice la ln lc) 0) = some (.int .u64 x) ∧ w'.cell? ⟨w1.heap.size, 3, none⟩ = some (.int .u64 (most id)))
        (first | go_keep | (go_split_ands; exact ⟨he2.cellOf (by assumption), he2.cellOf (by assumption)⟩))
        (first | (go_at_call 18; refine (clone_u64 _ xs _ ?_ ?_).mono ?_; (have := (HS.out.cut (l := 1) (m := ln) (by omega) (Nat.le_of_eq hN.out)); simp [hN.out] at this; rw [hN.out]; refine Rd.ext this ?_; go_grown); (simp at hb; omega); rintro e w2 ⟨v2, rfl, hv2, he2⟩))
      go_wp2
      go_returns
      exact ⟨v2, by simp [drawn, drawnErr, hd], by simp [drawnRest, hd]; exact hv2.mono (by simp; omega), (he.trans' (by go_grown)).trans' he2⟩
  · have hd' : draws id = false := by simpa using hd
    clear h
    go_enter Try.func10, Try.ntmps10
    go_wp2_with (go_at_call 9; refine (psig id _).mono ?_; rintro e w1 ⟨v, rfl, hv, he⟩; obtain ⟨sa, sn, sc, rfl, hsn, hSN⟩ := hv.val; have HV := Lib.hid hv; clear hv; obtain ⟨hc, hf⟩ := bcell he; have hz := he.size)
    go_returns
    exact ⟨.slice none 0 0, by simp [drawn, drawnErr, hd'], by simp [drawnRest, hd']; exact Own.nil _ _ _ _ _, by go_grown⟩

theorem pdraw (id : Int) (l : Value) (xs : List Int) (w : World) (h : Sl w .u64 l xs) (hb : xs.length * 8 ≤ 140737488355328) :
    Calls Try.prog 10 #[.int .i64 id, l] w (DrawAns id xs w) := (pdraw_own id l xs w h hb).mono fun _ _ h => h.ans

/-- The greatest numbers are powers of two, less one. -/
theorem and_most (id x : Int) (h0 : 0 ≤ x) (h1 : x ≤ 18446744073709551615) (hd : draws id = true) : bits .and .u64 x (most id) = x % (most id + 1) := by
  obtain ⟨n, rfl⟩ := Int.eq_ofNat_of_zero_le h0
  have hn : n < 18446744073709551616 := by omega
  have key : ∀ k, k ≤ 64 → bits .and .u64 (n : Int) ((2 ^ k - 1 : Nat) : Int) = (n : Int) % ((2 ^ k : Nat) : Int) := by
    intro k hk
    have hp : 2 ^ k ≤ 18446744073709551616 := by
      calc 2 ^ k ≤ 2 ^ 64 := Nat.pow_le_pow_right (by decide) hk
        _ = 18446744073709551616 := by decide
    have hpos : 0 < 2 ^ k := Nat.pow_pos (by decide)
    rw [bits_and_u64_nat n (2 ^ k - 1) hn (by omega), Nat.and_two_pow_sub_one_eq_mod]
    rfl
  simp only [draws, Bool.or_eq_true, beq_iff_eq] at hd
  rcases hd with (rfl | rfl) | rfl
  · exact key 64 (by decide)
  · exact key 32 (by decide)
  · exact key 6 (by decide)
theorem ret_drawn {id x n : Int} {xs : List Int} {v : Value} (hd : draws id = true) (hM : bits .and .u64 x (most id) = x % (most id + 1)) (hn : n = x % (most id + 1)) :
    Ending.returned (.tuple #[.int .u64 n, v, .int .i64 0]) = .returned (.tuple #[.int .u64 (drawn id (x :: xs)), v, .int .i64 (drawnErr id (x :: xs))]) := by
  subst hn
  simp only [drawn, drawnErr, hd, if_true]
  rw [hM]
  simp
theorem most_le (id : Int) : 0 ≤ most id ∧ most id ≤ 18446744073709551615 := by
  unfold most; split
  · omega
  · split
    · omega
    · split <;> omega

set_option maxHeartbeats 1000000 in
theorem rdraw_max (id x : Int) (xs : List Int) (la : Option Addr) (ln lc : Nat) (w : World) (h : Sl w .u64 (.slice la ln lc) (x :: xs)) (hb : (xs.length + 1) * 8 ≤ 140737488355328)
    (hN : Hid (ln = xs.length + 1)) (hd : draws id = true) (hx0 : 0 ≤ x) (HX : Hid (x ≤ 18446744073709551615)) (hmax : (most id != 18446744073709551615) = false) :
    Calls Try.prog 13 #[.int .i64 id, .slice la ln lc] w (DrawAns id (x :: xs) w) := by
  have hh : helper id = true := by simp [draws, helper] at hd ⊢; omega
  have hl0 : (0 : Int) < ln := by have := hN.out; omega
  have hl1 : ((ln : Int) == 0) = false := by simp; omega
  have hcut := fun W => h.run_cut_l (P := Try.prog) Try.underlying22 el_u64.size .i64 1 (by omega) (by omega) W
  have hat := fun W => h.run_at (P := Try.prog) Try.underlying22 el_u64.size .i64 0 (by omega) (by omega) W
  have hx := h.cell (i := 0) (x := x) rfl (j := 0) rfl
  simp only [Nat.zero_mul, Nat.add_zero, Int.toNat_zero, Int.toNat_one] at hx hat hcut
  have hx' := World.block_lt_of_cell? w _ hx
  have HT : Hid (Sl w .u64 (cutV (.slice la ln lc) 1 ln 1) xs) := by
    have h1 := h.cut (l := 1) (m := ln) (by omega) (Nat.le_of_eq hN.out)
    simp only [List.drop_succ_cons, List.drop_zero] at h1
    rw [List.take_of_length_le (by have := hN.out; omega)] at h1
    exact h1
  have HM := Lib.hid (and_most id x hx0 HX.out hd)
  have HE : Hid (x = x % (most id + 1)) := by
    have h2 := HX.out
    have h3 : most id = 18446744073709551615 := by simpa using hmax
    show x = _
    rw [h3, Int.emod_eq_of_lt hx0 (by omega)]
  clear h
  go_enter Try.func13, Try.ntmps13
  go_wp2_with (go_at_call 12; refine (rsig _ _).mono ?_; rintro e w1 ⟨v, rfl, hv, he⟩; obtain ⟨sa, sn, sc, rfl, hsn, hSN⟩ := hv.val; have HV := Lib.hid hv; clear hv; obtain ⟨hc, hf, hz⟩ := he.facts; obtain ⟨hx1, hx1'⟩ := he.keep hx)
  refine wp_loop_rounds 1 ?_
  rw [rounds_succ]
  go_wp2_with (at_builtin; refine app_own el_u64 (enc_int .u64) rfl _ _ rfl rfl (Own.made _ w.heap.size _ _ _ ?b0 ?b1) rfl (ys := xs) ?b2 ?b3 ?b4 ?b5)
  case b0 => simp
  case b1 => simp; omega
  case b2 => exact HT.out.ext (he.trans' (by go_grown))
  case b3 => exact ⟨by simp; omega, by simp; omega⟩
  case b4 => simp; omega
  intro v' w2 hown hgrow hbel
  go_wp2
  go_returns
  exact ⟨v', ret_drawn hd HM.out HE.out, by simp [drawnRest, hd]; exact hown.rd (enc_int _), hbel _ _ (by go_grown) (Nat.le_refl _)⟩

set_option maxHeartbeats 1000000 in
theorem rdraw_small (id x : Int) (xs : List Int) (la : Option Addr) (ln lc : Nat) (w : World) (h : Sl w .u64 (.slice la ln lc) (x :: xs)) (hb : (xs.length + 1) * 8 ≤ 140737488355328)
    (hN : Hid (ln = xs.length + 1)) (hd : draws id = true) (hx0 : 0 ≤ x) (HX : Hid (x ≤ 18446744073709551615)) (hmax : (most id != 18446744073709551615) = true) (hm0 : 0 ≤ most id) (hle : ¬ most id < x) :
    Calls Try.prog 13 #[.int .i64 id, .slice la ln lc] w (DrawAns id (x :: xs) w) := by
  have hh : helper id = true := by simp [draws, helper] at hd ⊢; omega
  have hl0 : (0 : Int) < ln := by have := hN.out; omega
  have hl1 : ((ln : Int) == 0) = false := by simp; omega
  have hcut := fun W => h.run_cut_l (P := Try.prog) Try.underlying22 el_u64.size .i64 1 (by omega) (by omega) W
  have hat := fun W => h.run_at (P := Try.prog) Try.underlying22 el_u64.size .i64 0 (by omega) (by omega) W
  have hx := h.cell (i := 0) (x := x) rfl (j := 0) rfl
  simp only [Nat.zero_mul, Nat.add_zero, Int.toNat_zero, Int.toNat_one] at hx hat hcut
  have hx' := World.block_lt_of_cell? w _ hx
  have HT : Hid (Sl w .u64 (cutV (.slice la ln lc) 1 ln 1) xs) := by
    have h1 := h.cut (l := 1) (m := ln) (by omega) (Nat.le_of_eq hN.out)
    simp only [List.drop_succ_cons, List.drop_zero] at h1
    rw [List.take_of_length_le (by have := hN.out; omega)] at h1
    exact h1
  have HM := Lib.hid (and_most id x hx0 HX.out hd)
  have HE : Hid (x = x % (most id + 1)) := by
    show x = _
    rw [Int.emod_eq_of_lt hx0 (by omega)]
  clear h
  go_enter Try.func13, Try.ntmps13
  go_wp2_with (go_at_call 12; refine (rsig _ _).mono ?_; rintro e w1 ⟨v, rfl, hv, he⟩; obtain ⟨sa, sn, sc, rfl, hsn, hSN⟩ := hv.val; have HV := Lib.hid hv; clear hv; obtain ⟨hc, hf, hz⟩ := he.facts; obtain ⟨hx1, hx1'⟩ := he.keep hx)
  refine wp_loop_rounds 1 ?_
  rw [rounds_succ]
  go_wp2_with (at_builtin; refine app_own el_u64 (enc_int .u64) rfl _ _ rfl rfl (Own.made _ w.heap.size _ _ _ ?b0 ?b1) rfl (ys := xs) ?b2 ?b3 ?b4 ?b5)
  case b0 => simp
  case b1 => simp; omega
  case b2 => exact HT.out.ext (he.trans' (by go_grown))
  case b3 => exact ⟨by simp; omega, by simp; omega⟩
  case b4 => simp; omega
  intro v' w2 hown hgrow hbel
  go_wp2
  go_returns
  exact ⟨v', ret_drawn hd HM.out HE.out, by simp [drawnRest, hd]; exact hown.rd (enc_int _), hbel _ _ (by go_grown) (Nat.le_refl _)⟩

set_option maxHeartbeats 1000000 in
theorem rdraw_big (id x : Int) (xs : List Int) (la : Option Addr) (ln lc : Nat) (w : World) (h : Sl w .u64 (.slice la ln lc) (x :: xs)) (hb : (xs.length + 1) * 8 ≤ 140737488355328)
    (hN : Hid (ln = xs.length + 1)) (hd : draws id = true) (hx0 : 0 ≤ x) (HX : Hid (x ≤ 18446744073709551615)) (hmax : (most id != 18446744073709551615) = true) (hm0 : 0 ≤ most id) (hm1 : most id ≤ 4294967295) (hgt : most id < x) (hr : ¬ most id < x % (most id + 1)) :
    Calls Try.prog 13 #[.int .i64 id, .slice la ln lc] w (DrawAns id (x :: xs) w) := by
  have hh : helper id = true := by simp [draws, helper] at hd ⊢; omega
  have hl0 : (0 : Int) < ln := by have := hN.out; omega
  have hl1 : ((ln : Int) == 0) = false := by simp; omega
  have hcut := fun W => h.run_cut_l (P := Try.prog) Try.underlying22 el_u64.size .i64 1 (by omega) (by omega) W
  have hat := fun W => h.run_at (P := Try.prog) Try.underlying22 el_u64.size .i64 0 (by omega) (by omega) W
  have hx := h.cell (i := 0) (x := x) rfl (j := 0) rfl
  simp only [Nat.zero_mul, Nat.add_zero, Int.toNat_zero, Int.toNat_one] at hx hat hcut
  have hx' := World.block_lt_of_cell? w _ hx
  have HT : Hid (Sl w .u64 (cutV (.slice la ln lc) 1 ln 1) xs) := by
    have h1 := h.cut (l := 1) (m := ln) (by omega) (Nat.le_of_eq hN.out)
    simp only [List.drop_succ_cons, List.drop_zero] at h1
    rw [List.take_of_length_le (by have := hN.out; omega)] at h1
    exact h1
  have HM := Lib.hid (and_most id x hx0 HX.out hd)
  clear h
  go_enter Try.func13, Try.ntmps13
  go_wp2_with (go_at_call 12; refine (rsig _ _).mono ?_; rintro e w1 ⟨v, rfl, hv, he⟩; obtain ⟨sa, sn, sc, rfl, hsn, hSN⟩ := hv.val; have HV := Lib.hid hv; clear hv; obtain ⟨hc, hf, hz⟩ := he.facts; obtain ⟨hx1, hx1'⟩ := he.keep hx)
  refine wp_loop_rounds 2 ?_
  rw [rounds_succ]
  go_wp2_with fail
  rw [rounds_succ]
  go_wp2_with (at_builtin; refine app_own el_u64 (enc_int .u64) rfl _ _ rfl rfl (Own.made _ w.heap.size _ _ _ ?b0 ?b1) rfl (ys := xs) ?b2 ?b3 ?b4 ?b5)
  case b0 => simp
  case b1 => simp; omega
  case b2 => exact HT.out.ext (he.trans' (by go_grown))
  case b3 => exact ⟨by simp; omega, by simp; omega⟩
  case b4 => simp; omega
  intro v' w2 hown hgrow hbel
  go_wp2
  go_returns
  exact ⟨v', ret_drawn hd HM.out rfl, by simp [drawnRest, hd]; exact hown.rd (enc_int _), hbel _ _ (by go_grown) (Nat.le_refl _)⟩

set_option maxHeartbeats 1000000 in
theorem rdraw (id : Int) (l : Value) (xs : List Int) (w : World) (h : Sl w .u64 l xs) (hb : xs.length * 8 ≤ 140737488355328) (hu : U64s xs) :
    Calls Try.prog 13 #[.int .i64 id, l] w (DrawAns id xs w) := by
  obtain ⟨la, ln, lc, rfl, hln, hN⟩ := h.val
  have HU := Lib.hid hu
  clear hu
  by_cases hd : draws id = true
  · have hh : helper id = true := by simp [draws, helper] at hd ⊢; omega
    cases xs with
    | nil =>
      clear h
      obtain rfl : ln = 0 := hN.out
      go_enter Try.func13, Try.ntmps13
      go_wp2_with (go_at_call 12; refine (rsig id _).mono ?_; rintro e w1 ⟨v, rfl, hv, he⟩; obtain ⟨sa, sn, sc, rfl, hsn, hSN⟩ := hv.val; have HV := Lib.hid hv; clear hv; obtain ⟨hc, hf, hz⟩ := he.facts)
      go_returns
      exact ⟨.slice none 0 0, by simp [drawn, drawnErr, hd], by simp [drawnRest]; exact sl_none _ _, by go_grown⟩
    | cons x xs =>
      have h1 := HU.out x List.mem_cons_self
      have hids : id = 5 ∨ id = 7 ∨ id = 8 := by simp [draws] at hd; omega
      have hm := most_le id
      by_cases hmax : (most id != 18446744073709551615) = true
      · have hm1 : most id ≤ 4294967295 := by rcases hids with rfl | rfl | rfl <;> first | (exact absurd hmax (by decide)) | decide
        by_cases hgt : most id < x
        · exact rdraw_big id x xs la ln lc w h (by simpa using hb) hN hd h1.1 h1.2 hmax hm.1 hm1 hgt (by have := Int.emod_lt_of_pos x (show 0 < most id + 1 by omega); omega)
        · exact rdraw_small id x xs la ln lc w h (by simpa using hb) hN hd h1.1 h1.2 hmax hm.1 hgt
      · exact rdraw_max id x xs la ln lc w h (by simpa using hb) hN hd h1.1 h1.2 (by simpa using hmax)
  · have hd' : draws id = false := by simpa using hd
    clear h
    cases hh : helper id
    all_goals
      go_enter Try.func13, Try.ntmps13
      go_wp2_with (go_at_call 12; refine (rsig id _).mono ?_; rintro e w1 ⟨v, rfl, hv, he⟩; obtain ⟨sa, sn, sc, rfl, hsn, hSN⟩ := hv.val; have HV := Lib.hid hv; clear hv; obtain ⟨hc, hf, hz⟩ := he.facts)
      go_returns
      exact ⟨.slice none 0 0, by simp [drawn, drawnErr, hd'], by simp [drawnRest, hd']; exact sl_none _ _, by go_grown⟩
end Go.Proofs.Ytjloenkjncfacaa
