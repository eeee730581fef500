/- slices.Clone at instructions, and at nil. (for machine.New) -/
import Derived.Test.YtlpeljpjgmapgaaGreatIns
import Derived.Test.YtlpeljpjgmapgaaGreatApp
namespace Go.Proofs.YtlpeljpjgmapgaaGreat
open Go.RowKit
set_option linter.unusedVariables false
set_option linter.unusedSimpArgs false

/-- What a clone is: a slice of its own memory, of the same elements. -/
def CloneA5 {α : Type} (e : TypeId) (sz : Nat) (enc : α → List Value) (xs : List α) (w : World) (r : Ending) (w' : World) : Prop :=
  ∃ v', r = .returned v' ∧ Own w' w.heap.size e sz enc v' xs ∧ Ext w w'
set_option maxHeartbeats 400000 in
theorem clone_ins (v : Value) (xs : List Ins) (w : World) (h : Rd w 5 Ins.enc v xs) (hb : xs.length ≤ 1000000) :
    Calls Tryz.prog 22 #[v] w (CloneA5 64 5 Ins.enc xs w) := by
  obtain ⟨a, n, c, rfl, hn, hN⟩ := h.val
  have hnil := fun W => h.run_nil (P := Tryz.prog) Tryz.underlying22 W
  have HS := Lib.hid h
  cases a with
  | none =>
    obtain ⟨rfl, rfl, rfl⟩ := h.of_isNil
    clear h
    go_enter Tryz.func22, Tryz.ntmps22
    go_wp2
    go_ret
    exact ⟨_, rfl, Own.nil _ _ _ _ _, Below.refl _ _⟩
  | some a =>
    clear h
    simp only [isNilV] at hnil
    go_enter Tryz.func22, Tryz.ntmps22
    go_wp2_with (at_builtin; refine app_own el_ins enc_ins rfl _ _ rfl rfl (Own.made w w.heap.size _ _ _ rfl (Nat.le_refl _)) rfl (ys := xs) ?q1 ?q2 ?q3 ?q4)
    case q1 => exact HS.out.ext (by go_grown)
    case q2 => exact ⟨by simp; omega, by simp; omega⟩
    case q3 => simp
    intro v' w' hown hgrow hmv
    (try rw [List.nil_append] at hown)
    have hE : Ext w w' := hmv _ _ (Ext.alloc' (Ext.rfl' w) _) (Nat.le_refl _)
    obtain ⟨a2, n2, c2, hv2, hn2, hN2⟩ := (hown.rd enc_ins).val
    subst hv2
    have HO := Lib.hid (And.intro hown hE)
    clear hown hgrow hmv hE
    go_wp2_with fail
    go_returns
    exact ⟨_, rfl, HO.out.1, HO.out.2⟩
set_option maxHeartbeats 400000 in
theorem clone_def0 (w : World) : Calls Tryz.prog 24 #[.slice none 0 0] w fun e w' => e = .returned (.slice none 0 0) ∧ w' = w := by
  have hnil := fun W => (Rd.nil w 1 (fun x : Int => [Value.int .i64 x])).run_nil (P := Tryz.prog) Tryz.underlying24 W
  simp only [isNilV] at hnil
  go_enter Tryz.func24, Tryz.ntmps24
  go_wp2_with fail
  go_returns
  exact ⟨rfl, rfl⟩
set_option maxHeartbeats 400000 in
theorem clone_u64_0 (w : World) : Calls Tryz.prog 25 #[.slice none 0 0] w fun e w' => e = .returned (.slice none 0 0) ∧ w' = w := by
  have hnil := fun W => (Rd.nil w 1 (fun x : Int => [Value.int .i64 x])).run_nil (P := Tryz.prog) Tryz.underlying26 W
  simp only [isNilV] at hnil
  go_enter Tryz.func25, Tryz.ntmps25
  go_wp2_with fail
  go_returns
  exact ⟨rfl, rfl⟩
set_option maxHeartbeats 400000 in
theorem index_def0 (f : Value) (w : World) : Calls Tryz.prog 128 #[.slice none 0 0, f] w fun e w' => e = .returned (.int .i64 (-1)) ∧ w' = w := by
  go_enter Tryz.func128, Tryz.ntmps128
  go_wp2_with fail
  refine wp_loop_rounds 1 ?_
  rw [rounds_succ]
  go_wp2_with fail
  go_returns
  exact ⟨rfl, rfl⟩
set_option maxHeartbeats 400000 in
theorem contains_def0 (f : Value) (w : World) : Calls Tryz.prog 87 #[.slice none 0 0, f] w fun e w' => e = .returned (.bool false) ∧ w' = w := by
  go_enter Tryz.func87, Tryz.ntmps87
  go_wp2_with fail
  refine (index_def0 f _).mono ?_
  rintro e w5 ⟨rfl, rfl⟩
  go_wp2_with fail
  go_returns
  exact ⟨rfl, rfl⟩
set_option maxHeartbeats 400000 in
theorem right_def0 (w : World) : Calls Tryz.prog 47 #[.slice none 0 0] w fun e w' => e = .returned (.bool true) ∧ w' = w := by
  go_enter Tryz.func47, Tryz.ntmps47
  go_wp2_with fail
  refine (contains_def0 _ _).mono ?_
  rintro e w5 ⟨rfl, rfl⟩
  go_wp2_with fail
  go_returns
  exact ⟨rfl, rfl⟩
set_option maxHeartbeats 400000 in
theorem tab_new0 (b : Nat) (w : World) : Calls Tryz.prog 27 #[.pointer (some ⟨b, 0, none⟩), .slice none 0 0] w fun e w' => ∃ t : Nat, e = .returned (.tuple #[.pointer (some ⟨t, 0, none⟩), .int .i64 0]) ∧ w.heap.size ≤ t ∧ Ext w w' := by
  go_enter Tryz.func27, Tryz.ntmps27
  go_wp2_with fail
  refine (right_def0 _).mono ?_
  rintro e w5 ⟨rfl, rfl⟩
  go_wp2_with fail
  refine wp_loop_rounds 1 ?_
  rw [rounds_succ]
  go_wp2_with fail
  go_returns
  exact ⟨_, rfl, Nat.le_refl _, by (repeat (first | exact Ext.rfl' _ | assumption | refine Ext.drewN' ?_ _ | refine Ext.drew' ?_ | refine Ext.alloc' ?_ _ | refine Ext.trans' ?_ (by assumption)))⟩
end Go.Proofs.YtlpeljpjgmapgaaGreat
