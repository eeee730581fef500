/- slices.Clone. -/
import Derived.Test.YtjloenkjncfacaaRows
import Derived.Test.YtjloenkjncfacaaBase
import Derived.Deep.QuietTactic
import Derived.BigQuiet
import Derived.Deep.RegionHeld3
import Derived.Handy
namespace Go.Proofs.Ytjloenkjncfacaa
open Go.RowKit
set_option linter.unusedVariables false
set_option linter.unusedSimpArgs false

theorem el_u64 : El Try.prog 22 25 1 8 (.int .u64 0) := ⟨Try.underlying22, by kernel_rfl, rfl, by decide, fun _ => by kernel_rfl⟩
theorem el_u8 : El Try.prog 24 5 1 1 (.int .u8 0) := ⟨Try.underlying24, by kernel_rfl, rfl, by decide, fun _ => by kernel_rfl⟩

/-- What a clone is: a slice of its own memory, of the same elements. -/
def CloneAns {α : Type} (e : TypeId) (sz : Nat) (enc : α → List Value) (xs : List α) (w : World) (r : Ending) (w' : World) : Prop :=
  ∃ v', r = .returned v' ∧ Own w' w.heap.size e sz enc v' xs ∧ Ext w w'

set_option maxHeartbeats 400000 in
theorem clone_u64 (v : Value) (xs : List Int) (w : World) (h : Sl w .u64 v xs) (hb : xs.length * 8 ≤ 140737488355328) :
    Calls Try.prog 18 #[v] w (CloneAns 25 1 (fun x => [Value.int .u64 x]) xs w) := by
  obtain ⟨a, n, c, rfl, hn, hN⟩ := h.val
  have hnil := fun W => h.run_nil (P := Try.prog) Try.underlying22 W
  have HS := Lib.hid h
  cases a with
  | none =>
    obtain ⟨rfl, rfl, rfl⟩ := h.of_isNil
    clear h
    go_enter Try.func18, Try.ntmps18
    go_wp2
    go_ret
    exact ⟨_, rfl, Own.nil _ _ _ _ _, Below.refl _ _⟩
  | some a =>
    clear h
    simp only [isNilV] at hnil
    go_enter Try.func18, Try.ntmps18
    go_wp2_with (at_builtin; refine app_own el_u64 (enc_int .u64) rfl _ _ rfl rfl (Own.made w w.heap.size _ _ _ rfl (Nat.le_refl _)) rfl (ys := xs) ?q1 ?q2 ?q3 ?q4)
    case q1 => exact HS.out.ext (by go_grown)
    case q2 => exact ⟨by simpa using hb, by simp; omega⟩
    case q3 => simp
    intro v' w1 hown hgrow hbel
    go_wp2
    go_ret
    exact ⟨v', rfl, hown, hbel _ _ (by go_grown) (Nat.le_refl _)⟩
end Go.Proofs.Ytjloenkjncfacaa
