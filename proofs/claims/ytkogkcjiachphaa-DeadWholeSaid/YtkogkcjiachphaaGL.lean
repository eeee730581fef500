/- graph: plain laws on what is reached, and on ways back. -/
import Derived.Test.YtkogkcjiachphaaGrR
namespace Go.Proofs.Ytkogkcjiachphaa
open Go.RowKit
set_option linter.unusedVariables false
set_option linter.unusedSimpArgs false

theorem conn_pred {A : Nat → List Int} {s k : Nat} (h : Conn A s k) : k = s ∨ ∃ j : Nat, Conn A s j ∧ (k : Int) ∈ A j :=
  (h (fun x => Conn A s x ∧ (x = s ∨ ∃ j : Nat, Conn A s j ∧ (x : Int) ∈ A j)) ⟨Conn.rfl' s, .inl rfl⟩ (fun i j hi hj => ⟨hi.1.step hj, .inr ⟨i, hi.1, hj⟩⟩)).2
theorem aheadV_at {L : List Ins} {k : Nat} (h : beginsS L k = true) : aheadV L k = aheadAt L k := by
  unfold aheadV aheadAt
  rw [if_pos h, Int.toNat_natCast]
  rfl
theorem begins_st {L : List Ins} (hp : progS L = true) {k : Nat} (h : (stF false L)[k]? = some true) : beginsS L k = true := by
  have : k < L.length := by rw [← stF_length false L]; exact (List.getElem?_eq_some_iff.1 h).1
  exact begins_iff.2 ⟨hp, by omega, by omega, by simpa using h⟩
/-- What is reached: an instruction begins there. -/
theorem reach_start {L : List Ins} (hp : progS L = true) {i : Int} {k : Nat} (hk : k < L.length) (h : (reachL L i)[k]? = some true) : (stF false L)[k]? = some true := by
  obtain ⟨h1, h2⟩ := (reachL_at hp i hk).1 h
  exact conn_start hp (begins_iff.1 h1).2.2.2 h2
/-- Where one may go on from what is reached is reached. -/
theorem reach_on {L : List Ins} (hp : progS L = true) {i : Int} {k : Nat} (hk : k < L.length) (h : (reachL L i)[k]? = some true) {t : Int} (ht : t ∈ aheadV L k) : 0 ≤ t ∧ t < L.length ∧ (reachL L i)[t.toNat]? = some true := by
  have hs := reach_start hp hk h
  rw [aheadV_at (begins_st hp hs)] at ht
  obtain ⟨h0, h1, h2⟩ := within hp hs t ht
  obtain ⟨g1, g2⟩ := (reachL_at hp i hk).1 h
  refine ⟨h0, h1, (reachL_at hp i (by omega)).2 ⟨g1, g2.step ?_⟩⟩
  rwa [Int.toNat_of_nonneg h0]
theorem reach_trans {L : List Ins} (hp : progS L = true) {i : Int} {k m : Nat} (hk : k < L.length) (hm : m < L.length) (h : (reachL L i)[k]? = some true) (h2 : (reachL L k)[m]? = some true) : (reachL L i)[m]? = some true := by
  obtain ⟨g1, g2⟩ := (reachL_at hp i hk).1 h
  obtain ⟨f1, f2⟩ := (reachL_at hp k hm).1 h2
  rw [Int.toNat_natCast] at f2
  exact (reachL_at hp i hm).2 ⟨g1, g2.trans f2⟩
/-- Is a place marked? -/
def markB (M : List Bool) (j : Int) : Bool := M[j.toNat]? == some true
def someB (M : List Bool) (i : Int) (k : Nat) (B : List Int) (m : Nat) : Bool := (k : Int) == i || (B.take m).any (markB M)
theorem someB_succ (M : List Bool) (i : Int) (k : Nat) (B : List Int) (m : Nat) {x : Int} (hx : B[m]? = some x) : someB M i k B (m + 1) = (someB M i k B m || markB M x) := by
  unfold someB
  rw [List.take_add_one, hx, List.any_append]
  simp [Bool.or_assoc]
theorem some_end {L : List Ins} (hp : progS L = true) {i : Int} {k : Nat} (hk : k < L.length) (h : (reachL L i)[k]? = some true) : someB (reachL L i) i k (behindL L k) (behindL L k).length = true := by
  unfold someB
  rw [List.take_length]
  obtain ⟨g1, g2⟩ := (reachL_at hp i hk).1 h
  obtain ⟨_, i0, i1, i2⟩ := begins_iff.1 g1
  rcases conn_pred g2 with rfl | ⟨j, hj, hkj⟩
  · have : ((i.toNat : Int) == i) = true := by rw [Int.toNat_of_nonneg i0]; simp
    rw [this]; rfl
  · have hs := conn_start hp i2 hj
    have hjl : j < L.length := by rw [← stF_length false L]; exact (List.getElem?_eq_some_iff.1 hs).1
    have hm : (j : Int) ∈ behindL L k := by
      rw [mem_behind]
      obtain ⟨x, hx⟩ := at_of_lt hjl
      have hA : aheadAt L j = aheadL L x j := by unfold aheadAt; rw [hx]
      exact ⟨begins_st hp (reach_start hp hk h), j, rfl, x, hs, hx, by rw [← hA]; exact hkj⟩
    have hmark : markB (reachL L i) (j : Int) = true := by
      unfold markB
      rw [Int.toNat_natCast, (reachL_at hp i hjl).2 ⟨g1, hj⟩]
      rfl
    rw [List.any_eq_true.2 ⟨_, hm, hmark⟩, Bool.or_true]
theorem behind_in {L : List Ins} {i x : Int} (h : x ∈ behindL L i) : 0 ≤ x ∧ x < L.length := by
  rw [mem_behind] at h
  obtain ⟨_, j, rfl, y, _, hy, _⟩ := h
  have := (List.getElem?_eq_some_iff.1 hy).1
  omega
/-- Does a program come back? As its search tells. -/
theorem loops_iff {L : List Ins} (hp : progS L = true) : loopsL L = true ↔ ∃ i, Conn (aheadAt L) 0 i ∧ Back (aheadAt L) i := by
  have h1 := (ProgF.of hp).len.1
  have h0 : (stF false L)[0]? = some true := st_head rfl h1
  unfold loopsL
  rw [hp, Bool.true_and, comesF_eq L (aheadAt L) (fun _ => rfl)]
  exact comes_iff (S := fun k => (stF false L)[k]? = some true) (fun k t hk ht => within hp hk t ht) h0 h1
def rowF (L : List Ins) (k : Nat) : Bool := (aheadV L k).all (fun t => decide (t > (k : Int)))
def fwdB (L : List Ins) (k : Nat) : Bool := (List.range k).all (rowF L)
theorem fwdB_succ (L : List Ins) (k : Nat) : fwdB L (k + 1) = (fwdB L k && rowF L k) := by
  unfold fwdB
  rw [List.range_succ, List.all_append]
  simp
theorem take_all {A : List Int} {m : Nat} {x : Int} (hx : A[m]? = some x) (p : Int → Bool) : (A.take (m + 1)).all p = ((A.take m).all p && p x) := by
  rw [List.take_add_one, hx, List.all_append]
  simp
/-- A program whose jumps all go further on does not come back. -/
theorem forward_law {L : List Ins} (hp : progS L = true) (h : fwdB L L.length = true) : loopsL L = false := by
  rw [Bool.eq_false_iff]
  intro hl
  obtain ⟨i, hi, j, hj, hc⟩ := (loops_iff hp).1 hl
  have h1 := (ProgF.of hp).len.1
  have h0 : (stF false L)[0]? = some true := st_head rfl h1
  have step : ∀ x t : Nat, (stF false L)[x]? = some true → (t : Int) ∈ aheadAt L x → x < t := fun x t hx ht => by
    have hxl : x < L.length := by rw [← stF_length false L]; exact (List.getElem?_eq_some_iff.1 hx).1
    unfold fwdB at h
    rw [List.all_eq_true] at h
    have := h x (by simpa using hxl)
    unfold rowF at this
    rw [List.all_eq_true] at this
    have := this (t : Int) (by rw [aheadV_at (begins_st hp hx)]; exact ht)
    simp at this
    omega
  have hsi := conn_start hp h0 hi
  have hij := step i j hsi hj
  have hsj : (stF false L)[j]? = some true := by have := (within hp hsi _ hj).2.2; simpa using this
  have := hc (fun x => (stF false L)[x]? = some true ∧ j ≤ x) ⟨hsj, Nat.le_refl _⟩ (fun x t hx ht => by
    have h3 := step x t hx.1 ht
    have h4 := (within hp hx.1 _ ht).2.2
    exact ⟨by simpa using h4, by omega⟩)
  omega
theorem conn_head {A : Nat → List Int} {s k : Nat} (h : Conn A s k) : k = s ∨ ∃ j : Nat, (j : Int) ∈ A s ∧ Conn A j k :=
  h (fun x => x = s ∨ ∃ j : Nat, (j : Int) ∈ A s ∧ Conn A j x) (.inl rfl) (fun i j hi hj => by
    rcases hi with rfl | ⟨m, hm, hc⟩
    · exact .inr ⟨j, hj, Conn.rfl' j⟩
    · exact .inr ⟨m, hm, hc.step hj⟩)
theorem begins_zero {L : List Ins} (hp : progS L = true) : beginsS L 0 = true := by
  have h1 := (ProgF.of hp).len.1
  have h0 : (stF false L)[0]? = some true := st_head rfl h1
  exact begins_st hp h0
/-- A program that may come back to its beginning loops. -/
theorem back_law {L : List Ins} (hp : progS L = true) {t : Int} (ht : t ∈ behindL L 0) (hm : markB (reachL L 0) t = true) : loopsL L = true := by
  rw [loops_iff hp]
  rw [mem_behind] at ht
  obtain ⟨_, j, rfl, x, hs, hx, h0⟩ := ht
  have hjl := (List.getElem?_eq_some_iff.1 hx).1
  have hA : aheadAt L j = aheadL L x j := by unfold aheadAt; rw [hx]
  unfold markB at hm
  have hc : Conn (aheadAt L) 0 j := ((reachL_at hp 0 hjl).1 (by simpa using hm)).2
  have h0' : ((0 : Nat) : Int) ∈ aheadAt L j := by rw [hA]; exact h0
  refine ⟨j, hc, ?_⟩
  exact ⟨0, h0', hc⟩
end Go.Proofs.Ytkogkcjiachphaa
