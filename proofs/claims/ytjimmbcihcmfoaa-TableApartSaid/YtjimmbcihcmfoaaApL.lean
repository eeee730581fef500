/- TableApart: the plain law. -/
import Derived.Test.YtjimmbcihcmfoaaTabP
namespace Go.Proofs.Ytjimmbcihcmfoaa
open Go.RowKit
set_option linter.unusedVariables false
set_option linter.unusedSimpArgs false

/-- Two of one make, but for the map 0. -/
structure ApInv (A B : Areas × List TM) : Prop where
  wa : Wf A
  wb : Wf B
  len : A.2.length = B.2.length
  maps : ∀ j : Nat, j ≠ 0 → A.2[j]? = B.2[j]?
  areas : ∀ j s : Nat, j ≠ 0 → s < 1024 → A.1.lookup (tarea j s) = B.1.lookup (tarea j s)
  none : ∃ t, B.2[0]? = some t ∧ t.slots = []
theorem ap_left {A B : Areas × List TM} (h : ApInv A B) (del : Bool) (ks : List Int) {vs : List Int} (hu : ∀ q ∈ vs, 0 ≤ q ∧ q ≤ 255) (flags : Int) : ApInv (actV A del 0 ks vs flags) B := by
  rcases actV_cases h.wa 0 ks del hu flags with e | ⟨j, t, e0, hp, e⟩
  · rw [e]; exact h
  · obtain rfl : j = 0 := by omega
    refine ⟨e.wf, h.wb, by rw [e.maps, List.length_set]; exact h.len, fun j hj => ?_, fun j s hj hs => ?_, h.none⟩
    · rw [(eff_other e hj).1]; exact h.maps j hj
    · rw [(eff_other e hj).2 s hs]; exact h.areas j s hj hs
theorem ap_both {A B : Areas × List TM} (h : ApInv A B) (del : Bool) {i : Int} (hi : i ≠ 0) (ks : List Int) {vs : List Int} (hu : ∀ q ∈ vs, 0 ≤ q ∧ q ≤ 255) (flags : Int) : ApInv (actV A del i ks vs flags) (actV B del i ks vs flags) := by
  rcases tfind_cases A.2 i ks.length with h0 | ⟨j, t, rfl, hp, hk⟩
  · have h1 : tfind B.2 i ks.length = none := by
      rcases tfind_cases B.2 i ks.length with h1 | ⟨j, t, rfl, hp, hk⟩
      · exact h1
      · rw [← h.maps j (by omega)] at hp
        rw [tfind_at hp hk] at h0
        cases h0
    rw [actV_no h0, actV_no h1]
    exact h
  · have hj : j ≠ 0 := by omega
    have hp' := hp
    rw [h.maps j hj] at hp'
    have ea := actV_at h.wa hp hk del hu flags
    have eb := actV_at h.wb hp' hk del hu flags
    have hlen := h.len
    refine ⟨ea.wf, eb.wf, by rw [ea.maps, eb.maps, List.length_set, List.length_set]; exact hlen, fun q hq => ?_, fun q s hq hs => ?_, ?_⟩
    · exact (eff_both ea eb hlen (h.maps q hq) (fun s hs => h.areas q s hq hs)).1
    · exact (eff_both ea eb hlen (h.maps q hq) (fun s hs => h.areas q s hq hs)).2 s hs
    · obtain ⟨t0, h1, h2⟩ := h.none
      exact ⟨t0, by rw [(eff_other eb (fun e => hj e.symm)).1]; exact h1, h2⟩
theorem ap_items {A B : Areas × List TM} (h : ApInv A B) : titems A 1 = titems B 1 ∧ titems A 2 = titems B 2 ∧ titems B 0 = [] := by
  refine ⟨titems_congr h.wa (i := 1) (h.maps 1 (by decide)) (fun s hs => h.areas 1 s (by decide) hs), titems_congr h.wa (i := 2) (h.maps 2 (by decide)) (fun s hs => h.areas 2 s (by decide) hs), ?_⟩
  obtain ⟨t, h1, h2⟩ := h.none
  have := titems_eq (V := B) 0 h1
  rw [h2, List.map_nil, show sortK [] = [] by simp [sortK]] at this
  exact this
abbrev apD : List TDef := [⟨true, 1, 8, 3⟩, ⟨true, 1, 8, 3⟩, ⟨false, 4, 8, 2⟩]
theorem ap_new : ∃ V, tnew [] apD = some V ∧ ApInv V V := by
  obtain ⟨M, h1, h2, h3⟩ := tnew_spec (ds := apD) (by decide)
  exact ⟨_, h1, h2, h2, rfl, fun _ _ => rfl, fun _ _ _ _ => rfl, _, rfl, rfl⟩
end Go.Proofs.Ytjimmbcihcmfoaa
