/- The document's memory: Area. -/
import Derived.Test.YtjimmbcihcmfoaaRef
namespace Go.Proofs.Ytjimmbcihcmfoaa
open Go.RowKit
set_option linter.unusedVariables false
set_option linter.unusedSimpArgs false

/-- What it says of the pointer and the list: for the walk. -/
theorem RefAt.open {w : World} {base b : Nat} {lv : Value} {L : List RR} (h : RefAt w base b lv L) : ∃ a n c, lv = .slice a n c ∧ n ≤ 9223372036854775807 ∧ Hid (n = L.length) ∧ Hid (Rd w 4 RR.enc (.slice a n c) L) ∧ w.cell? ⟨b, 0, none⟩ = some (.slice a n c) := by
  have R := h.list.rd enc_rr
  obtain ⟨a, n, c, rfl, hn, hN⟩ := R.val
  exact ⟨a, n, c, rfl, hn, hN, Lib.hid R, cell_obj h.head⟩
theorem RefAt.u8 {w : World} {base b : Nat} {lv : Value} {L : List RR} (h : RefAt w base b lv L) : ∀ q ∈ viewR L, ∀ x ∈ q.2.bytes, 0 ≤ x ∧ x ≤ 255 := by
  intro q hq x hx
  obtain ⟨y, hy, rfl⟩ := List.mem_map.1 hq
  exact (h.ok y hy).2.2.1 x hx

/-- What asking for a whole area tells: a slice that reads so. -/
def RAreaAns (M : Areas) (n : Int) (w : World) (e : Ending) (w' : World) : Prop :=
  ∃ v, e = .returned (.tuple #[v, .bool (marea M n).2]) ∧ Rd w 1 encB v (marea M n).1 ∧ w' = w
set_option maxHeartbeats 400000 in
theorem ref_area (base b : Nat) (lv : Value) (L : List RR) (k : Int) (w : World) (h : RefAt w base b lv L) :
    Calls Try.prog 21 #[.pointer (some ⟨b, 0, none⟩), .int .i64 k] w (RAreaAns (viewR L) k w) := by
  obtain ⟨a, n, c, rfl, hn, hN, RL, hb⟩ := h.open
  have HR := Lib.hid h
  clear h
  go_enter Try.func21, Try.ntmps21
  go_wp2_with fail
  refine (ref_find base b _ L k _ HR.out).mono ?_
  rintro e w1 ⟨rfl, ⟨hf, rfl⟩ | ⟨i, x, hx, hxn, hf, rfl⟩⟩
  · have HF := Lib.hid hf
    clear hf
    go_wp2_with fail
    go_returns
    exact ⟨.slice none 0 0, by simp [marea, HF.out], by simp only [marea, HF.out]; exact Rd.nil _ _ _, rfl⟩
  · have c1 := (HR.out.cells hx).2.1
    have hlt : i < n := by rw [hN.out]; exact (List.getElem?_eq_some_iff.1 hx).1
    have ix := fun W => RL.out.run_at (P := Try.prog) el_area.under el_area.size .i64 (i : Int) (by omega) (by omega) W
    simp only [Int.toNat_natCast] at ix
    have HX := Lib.hid hx
    have HF := Lib.hid hf
    rw [RR.bv] at c1
    clear hx hxn hf
    have hi0 : decide ((i : Int) < 0) = false := by simp
    go_wp2_with fail
    go_returns
    refine ⟨x.bv, by simp [marea, HF.out, RR.bv], by simp only [marea, HF.out]; exact (HR.out.bytes x (List.mem_of_getElem? HX.out)).rd (enc_int _), rfl⟩

theorem put_cut {P : List Bool} {o n : Nat} (h : ∀ j, j < n → P[o + j]? = some true) : (cutL P o n).contains false = false := by
  rw [Bool.eq_false_iff]
  intro hc
  obtain ⟨i, hi⟩ := List.getElem?_of_mem (List.contains_iff_mem.1 hc)
  rw [cutL_at] at hi
  by_cases hin : i < n
  · rw [if_pos hin, h i hin] at hi; simp at hi
  · rw [if_neg hin] at hi; cases hi
theorem put_cut' {P : List Bool} {o n j : Nat} (hj : j < n) (h : P[o + j]? = some false) : (cutL P o n).contains false = true :=
  List.contains_iff_mem.2 (List.mem_of_getElem? (i := j) (by rw [cutL_at, if_pos hj]; exact h))
end Go.Proofs.Ytjimmbcihcmfoaa
