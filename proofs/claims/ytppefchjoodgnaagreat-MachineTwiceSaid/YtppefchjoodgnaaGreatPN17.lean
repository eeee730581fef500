/- What the claim leans on: Contains. -/
import Derived.Test.YtppefchjoodgnaaGreatPN13
namespace Go.Proofs.YtppefchjoodgnaaGreat
open Go.RowKit
set_option linter.unusedVariables false
set_option linter.unusedSimpArgs false
def IdxI (xs : List Int) (y : Int) (w : World) (e : Ending) (w' : World) : Prop := ∃ i : Int, e = .returned (.int .i64 i) ∧ w' = w ∧ (decide (i ≥ 0) = xs.contains y)
theorem contains_take {xs : List Int} {y x : Int} {k : Nat} (h : (xs.take k).contains y = false) (hx : xs[k]? = some x) (hne : y ≠ x) : (xs.take (k + 1)).contains y = false := by
 rw [List.take_add_one, hx]
 simp only [List.contains_eq_mem, decide_eq_false_iff_not, List.mem_append, Option.mem_toList, Option.mem_some_iff, not_or, Option.some.injEq] at h ⊢
 exact ⟨h, fun e => hne e.symm⟩
theorem el_i32 : El Tryz.prog 214 21 1 4 (.int .i32 0) := ⟨Tryz.underlying214, by kernel_rfl, rfl, by decide, fun _ => by kernel_rfl⟩
set_option maxHeartbeats 400000 in
theorem index_i32 (v : Value) (xs : List Int) (y : Int) (w : World) (h : Rd w 1 (fun x => [Value.int .i32 x]) v xs) :
  Calls Tryz.prog 188 #[v, .int .i32 y] w (IdxI xs y w) := by
 obtain ⟨a, n, c, rfl, hn, hN⟩ := h.val
 have HV := η h
 clear h
 go_enter Tryz.func188, Tryz.ntmps188
 go_wp2
 go_loop [8] (fun i => ∃ k : Nat, k ≤ n ∧ i = .int .i64 k ∧ Hid ((xs.take k).contains y = false)) (fun i => n - (intOf i).toNat)
 case atStart => exact ⟨0, Nat.zero_le _, rfl, η rfl⟩
 case round =>
  obtain ⟨k, hk, rfl, HK⟩ := hrel
  by_cases hlt : k < n
  ·obtain ⟨x, hx⟩ := at_of_lt (xs := xs) (k := k) (by have := hN.out; omega)
   have ia := fun W => HV.out.run_at (P := Tryz.prog) el_i32.under el_i32.size .i64 (k : Int) (by omega) (by omega) W
   have ca := HV.out.cell hx (j := 0) rfl
   simp only [Nat.mul_one, Nat.add_zero, Int.toNat_natCast] at ia ca
   have HX := η hx
   clear hx
   by_cases hy : y = x
   ·have hb : (y == x) = true := by simpa using hy
    have HY := η hy
    clear hy
    go_wp2
    go_returns
    refine ⟨k, rfl, rfl, ?_⟩
    have : y ∈ xs := by rw [HY.out]; exact List.mem_of_getElem? HX.out
    simp [this]
   ·have hb : (y == x) = false := by simpa using hy
    have HY := η hy
    clear hy
    go_wp2
    go_round
    case rel => exact ⟨k + 1, by omega, by go_num, η (contains_take HK.out HX.out HY.out)⟩
    case measure => simp [intOf]; omega
  ·go_wp2
   go_returns
   refine ⟨-1, rfl, rfl, ?_⟩
   have h := HK.out
   rw [List.take_of_length_le (by have := hN.out; omega)] at h
   rw [h]; rfl
set_option maxHeartbeats 400000 in
theorem contains_i32 (v : Value) (xs : List Int) (y : Int) (w : World) (h : Rd w 1 (fun x => [Value.int .i32 x]) v xs) :
  Calls Tryz.prog 157 #[v, .int .i32 y] w fun e w' => e = .returned (.bool (xs.contains y)) ∧ w' = w := by
 have HV := η h
 clear h
 go_enter Tryz.func157, Tryz.ntmps157
 go_wp2_with fail
 refine (index_i32 v xs y _ HV.out).mono ?_
 rintro e w' ⟨i, rfl, rfl, hi⟩
 have HI := η hi
 clear hi
 go_wp2_with fail
 go_returns
 exact ⟨by simp only [HI.out]; rfl, rfl⟩
end Go.Proofs.YtppefchjoodgnaaGreat
