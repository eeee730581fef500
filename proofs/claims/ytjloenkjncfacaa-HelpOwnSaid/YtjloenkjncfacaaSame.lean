/- Lists held against each other. -/
import Derived.Test.YtjloenkjncfacaaDraw
namespace Go.Proofs.Ytjloenkjncfacaa
open Go.RowKit
set_option linter.unusedVariables false
set_option linter.unusedSimpArgs false

theorem ret_bool {x y : Bool} (h : x = y) : Ending.returned (.bool x) = .returned (.bool y) := by rw [h]
/-- One step of two lists held against each other. -/
theorem take_step {α : Type} {xs ys : List α} {k : Nat} {x y : α} (h : xs.take k = ys.take k) (hx : xs[k]? = some x) (hy : ys[k]? = some y) (e : x = y) : xs.take (k + 1) = ys.take (k + 1) := by
  rw [List.take_add_one, List.take_add_one, h, hx, hy, e]
theorem ne_of_at {α : Type} {xs ys : List α} {k : Nat} {x y : α} (hx : xs[k]? = some x) (hy : ys[k]? = some y) (e : ¬ x = y) : ¬ xs = ys := by
  intro h; subst h; exact e (Option.some.inj (hx.symm.trans hy))
theorem at_of_lt {α : Type} {xs : List α} {k : Nat} (h : k < xs.length) : ∃ x, xs[k]? = some x := ⟨xs[k], List.getElem?_eq_getElem h⟩

set_option maxHeartbeats 1000000 in
theorem nums (a b : Value) (xs ys : List Int) (w : World) (ha : Sl w .u64 a xs) (hb : Sl w .u64 b ys) :
    Calls Try.prog 11 #[a, b] w fun e w' => e = .returned (.bool (decide (xs = ys))) ∧ ∃ n, w' = w.drewN n := by
  obtain ⟨aa, an, ac, rfl, han, hAN⟩ := ha.val
  obtain ⟨ba, bn, bc, rfl, hbn, hBN⟩ := hb.val
  have HA := Lib.hid ha
  have HB := Lib.hid hb
  clear ha hb
  by_cases hlen : an = bn
  · subst hlen
    go_enter Try.func11, Try.ntmps11
    go_wp2
    go_loopw [13] (fun i wr => ∃ k n : Nat, k ≤ an ∧ i = .int .i64 k ∧ wr = w.drewN n ∧ Hid (xs.take k = ys.take k)) (fun i _ => an - (intOf i).toNat)
    case atStart => exact ⟨0, 0, Nat.zero_le _, rfl, rfl, Lib.hid rfl⟩
    case round =>
      obtain ⟨k, n, hk, rfl, rfl, HT⟩ := hrel
      by_cases hlt : k < an
      · obtain ⟨x, hx⟩ := at_of_lt (xs := xs) (k := k) (by have := hAN.out; omega)
        obtain ⟨y, hy⟩ := at_of_lt (xs := ys) (k := k) (by have := hBN.out; omega)
        have ia := fun W => HA.out.run_at (P := Try.prog) el_u64.under el_u64.size .i64 (k : Int) (by omega) (by omega) W
        have ib := fun W => HB.out.run_at (P := Try.prog) el_u64.under el_u64.size .i64 (k : Int) (by omega) (by omega) W
        have ca := HA.out.cell hx (j := 0) rfl
        have cb := HB.out.cell hy (j := 0) rfl
        simp only [Nat.mul_one, Nat.add_zero, Int.toNat_natCast] at ia ib ca cb
        have HX := Lib.hid hx
        have HY := Lib.hid hy
        clear hx hy
        by_cases e : x = y
        · have he : (x != y) = false := by simp [e]
          have HE := Lib.hid e
          clear e
          go_wp2
          go_quiet (fail)
          go_wp2
          go_roundw
          case rel => exact ⟨k + 1, n + nq, by omega, by go_num, rfl, Lib.hid (take_step HT.out HX.out HY.out HE.out)⟩
          case measure => simp [intOf]; omega
        · have he : (x != y) = true := by simp [e]
          go_wp2
          go_quiet (fail)
          go_wp2
          go_returns
          exact ⟨ret_bool (decide_eq_false (ne_of_at HX.out HY.out e)).symm, n + nq, by rw [World.drewN_drewN]⟩
      · go_wp2
        go_returns
        have e1 : xs = ys := by
          have h := HT.out
          have h1 := hAN.out
          have h2 := hBN.out
          rwa [List.take_of_length_le (by omega), List.take_of_length_le (by omega)] at h
        exact ⟨ret_bool (decide_eq_true e1).symm, n, rfl⟩
  · have h1 : ((an : Int) != (bn : Int)) = true := by rw [bne_iff_ne]; omega
    go_enter Try.func11, Try.ntmps11
    go_wp2
    go_returns
    exact ⟨ret_bool (decide_eq_false (fun h => hlen (by rw [hAN.out, hBN.out, h]))).symm, 0, rfl⟩

set_option maxHeartbeats 1000000 in
theorem equal_u8 (a b : Value) (xs ys : List Int) (w : World) (ha : Sl w .u8 a xs) (hb : Sl w .u8 b ys) :
    Calls Try.prog 19 #[a, b] w fun e w' => e = .returned (.bool (decide (xs = ys))) ∧ ∃ n, w' = w.drewN n := by
  obtain ⟨aa, an, ac, rfl, han, hAN⟩ := ha.val
  obtain ⟨ba, bn, bc, rfl, hbn, hBN⟩ := hb.val
  have HA := Lib.hid ha
  have HB := Lib.hid hb
  clear ha hb
  by_cases hlen : an = bn
  · subst hlen
    go_enter Try.func19, Try.ntmps19
    go_wp2
    go_loopw [13] (fun i wr => ∃ k n : Nat, k ≤ an ∧ i = .int .i64 k ∧ wr = w.drewN n ∧ Hid (xs.take k = ys.take k)) (fun i _ => an - (intOf i).toNat)
    case atStart => exact ⟨0, 0, Nat.zero_le _, rfl, rfl, Lib.hid rfl⟩
    case round =>
      obtain ⟨k, n, hk, rfl, rfl, HT⟩ := hrel
      by_cases hlt : k < an
      · obtain ⟨x, hx⟩ := at_of_lt (xs := xs) (k := k) (by have := hAN.out; omega)
        obtain ⟨y, hy⟩ := at_of_lt (xs := ys) (k := k) (by have := hBN.out; omega)
        have ia := fun W => HA.out.run_at (P := Try.prog) el_u8.under el_u8.size .i64 (k : Int) (by omega) (by omega) W
        have ib := fun W => HB.out.run_at (P := Try.prog) el_u8.under el_u8.size .i64 (k : Int) (by omega) (by omega) W
        have ca := HA.out.cell hx (j := 0) rfl
        have cb := HB.out.cell hy (j := 0) rfl
        simp only [Nat.mul_one, Nat.add_zero, Int.toNat_natCast] at ia ib ca cb
        have HX := Lib.hid hx
        have HY := Lib.hid hy
        clear hx hy
        by_cases e : x = y
        · have he : (x != y) = false := by simp [e]
          have HE := Lib.hid e
          clear e
          go_wp2
          go_quiet (fail)
          go_wp2
          go_roundw
          case rel => exact ⟨k + 1, n + nq, by omega, by go_num, rfl, Lib.hid (take_step HT.out HX.out HY.out HE.out)⟩
          case measure => simp [intOf]; omega
        · have he : (x != y) = true := by simp [e]
          go_wp2
          go_quiet (fail)
          go_wp2
          go_returns
          exact ⟨ret_bool (decide_eq_false (ne_of_at HX.out HY.out e)).symm, n + nq, by rw [World.drewN_drewN]⟩
      · go_wp2
        go_returns
        have e1 : xs = ys := by
          have h := HT.out
          have h1 := hAN.out
          have h2 := hBN.out
          rwa [List.take_of_length_le (by omega), List.take_of_length_le (by omega)] at h
        exact ⟨ret_bool (decide_eq_true e1).symm, n, rfl⟩
  · have h1 : ((an : Int) != (bn : Int)) = true := by rw [bne_iff_ne]; omega
    go_enter Try.func19, Try.ntmps19
    go_wp2
    go_returns
    exact ⟨ret_bool (decide_eq_false (fun h => hlen (by rw [hAN.out, hBN.out, h]))).symm, 0, rfl⟩

end Go.Proofs.Ytjloenkjncfacaa
