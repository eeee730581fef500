/- Memory: New, At, find. -/
import Derived.Test.YtlpeljpjgmapgaaGreatMem
namespace Go.Proofs.YtlpeljpjgmapgaaGreat
open Go.RowKit
set_option linter.unusedVariables false
set_option linter.unusedSimpArgs false

theorem el_u8 : El Tryz.prog 23 5 1 1 (.int .u8 0) := ⟨Tryz.underlying23, by kernel_rfl, rfl, by decide, fun _ => by kernel_rfl⟩
theorem el_bool : El Tryz.prog 106 4 1 1 (.bool false) := ⟨Tryz.underlying106, by kernel_rfl, rfl, by decide, fun _ => by kernel_rfl⟩
theorem zero_area (W : World) : (zeroValue 112).run Tryz.prog W = .ok (.pointer none) W := by kernel_rfl
theorem ret_int {k : IntKind} {a b : Int} (h : a = b) : Ending.returned (.int k a) = .returned (.int k b) := by rw [h]
theorem ret_u64 {a b : Int} (h : a = b) : Ending.returned (.int .u64 a) = .returned (.int .u64 b) := by rw [h]
theorem ret_bool {x y : Bool} (h : x = y) : Ending.returned (.bool x) = .returned (.bool y) := by rw [h]

/-- New: memory without areas, in blocks of its own. -/
def NewAns (w : World) (e : Ending) (w' : World) : Prop := ∃ b r, e = .returned (.pointer (some ⟨b, 0, none⟩)) ∧ MemAt w' b r [] ∧ w.heap.size ≤ b ∧ w.heap.size ≤ r ∧ Ext w w'
set_option maxHeartbeats 400000 in
theorem mem_new (w : World) : Calls Tryz.prog 23 #[] w (NewAns w) := by
  have hmm := @run_makeMap Tryz.prog
  go_enter Tryz.func23, Tryz.ntmps23
  go_wp2
  go_returns
  refine ⟨w.heap.size + 1, w.heap.size, rfl, ⟨?_, ⟨#[], 0, ?_, rfl⟩, fun x hx => by simp at hx, by simp, fun x hx => by simp at hx, by simp⟩, by omega, Nat.le_refl _, by (repeat (first | exact Ext.rfl' _ | assumption | refine Ext.drewN' ?_ _ | refine Ext.drew' ?_ | refine Ext.alloc' ?_ _ | refine Ext.trans' ?_ (by assumption)))⟩
  · exact obj_top _ _ (by simp)
  · exact obj_old _ (obj_top _ _ rfl)

set_option maxHeartbeats 400000 in
theorem mem_at (a o : Int) (w : World) : Calls Tryz.prog 17 #[.int .i64 a, .int .i64 o] w fun e w' => e = .returned (.int .u64 (mat a o)) ∧ w' = w := by
  go_enter Tryz.func17, Tryz.ntmps17
  go_wp2
  go_returns
  exact ⟨ret_u64 (by simp only [IntKind.wrap_u64, mat]; omega), rfl⟩
set_option maxHeartbeats 400000 in
theorem mem_find (b r : Nat) (L : List Rec) (p s : Int) (w : World) (h : MemAt w b r L) (hp : 0 ≤ p) (hs : 0 ≤ s) (hs1 : s ≤ 1024) (H : Hid (p ≤ 18446744073709551615)) :
    Calls Tryz.prog 91 #[.pointer (some ⟨b, 0, none⟩), .int .u64 p, .int .i64 s] w fun e w' => w' = w ∧
      ((mfind (view L) p s = none ∧ e = .returned (.tuple #[.pointer none, .int .i64 0])) ∨ ∃ x ∈ L, x.n = p / 4294967296 ∧ mfind (view L) p s = some (x.A, (p % 4294967296).toNat) ∧ e = .returned (.tuple #[.pointer (some ⟨x.a, 0, none⟩), .int .i64 (p % 4294967296)])) := by
  have hq0 : 0 ≤ p / 4294967296 := by omega
  have hq1 : p / 4294967296 ≤ 4294967295 := by have := H.out; omega
  have hb := cell_obj (i := 0) h.head
  have HM := Lib.hid h
  have hlk := (run_lookup_int (P := Tryz.prog) Tryz.underlying109 Tryz.underlying3 zero_area h.map (p / 4294967296)).1
  rcases lookup_view L (p / 4294967296) with ⟨h1, h2⟩ | ⟨x, hx, hxn, h1, h2⟩
  · rw [h1] at hlk
    simp only [Option.getD_none] at hlk
    have H2 := Lib.hid h2
    clear h h1 h2
    go_enter Tryz.func91, Tryz.ntmps91
    go_wp2_with fail
    go_returns
    exact ⟨rfl, .inl ⟨by simp [mfind, H2.out], rfl⟩⟩
  · rw [h1] at hlk
    simp only [Option.getD_some] at hlk
    have H2 := Lib.hid h2
    have HX := Lib.hid hx
    have HXN := Lib.hid hxn
    have hR := h.recs x hx
    have hsm := hR.small
    have c0 := cell_obj (i := 0) hR.area
    have c1 := cell_obj (i := 1) hR.area
    clear h h1 h2 hx hxn hR
    have ho0 : 0 ≤ p % 4294967296 := by omega
    have ho1 : p % 4294967296 ≤ 4294967295 := by omega
    by_cases hA : (x.A.bytes.length : Int) < p % 4294967296
    · go_enter Tryz.func91, Tryz.ntmps91
      go_wp2_with fail
      go_returns
      exact ⟨rfl, .inl ⟨by simp only [mfind, H2.out]; rw [if_pos (.inl hA)], rfl⟩⟩
    · have hA' : decide ((x.A.bytes.length : Int) < p % 4294967296) = false := by simpa using hA
      by_cases hB : (x.A.bytes.length : Int) - p % 4294967296 < s
      · go_enter Tryz.func91, Tryz.ntmps91
        go_wp2_with fail
        go_returns
        exact ⟨rfl, .inl ⟨by simp only [mfind, H2.out]; rw [if_pos (.inr hB)], rfl⟩⟩
      · go_enter Tryz.func91, Tryz.ntmps91
        go_wp2_with fail
        go_returns
        exact ⟨rfl, .inr ⟨x, HX.out, HXN.out, by simp only [mfind, H2.out]; rw [if_neg (fun h => by omega)], rfl⟩⟩
end Go.Proofs.YtlpeljpjgmapgaaGreat
