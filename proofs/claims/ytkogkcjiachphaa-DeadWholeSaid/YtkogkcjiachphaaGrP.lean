/- graph: plain laws: where a program goes on, a program's instructions begin there. -/
import Derived.Test.YtkogkcjiachphaaGrC
namespace Go.Proofs.Ytkogkcjiachphaa
open Go.RowKit
set_option linter.unusedVariables false
set_option linter.unusedSimpArgs false

theorem compact1 (a : Int) : Lib.compact [a] = [a] := by
  simp [Lib.compact, Lib.compactUpTo, Lib.keeps, List.range_succ]
theorem compact2 (a b : Int) : Lib.compact [a, b] = if a = b then [a] else [a, b] := by
  by_cases h : a = b
  · subst h
    simp [Lib.compact, Lib.compactUpTo, Lib.keeps, List.range_succ]
  · have h' : ¬ b = a := fun e => h e.symm
    simp [Lib.compact, Lib.compactUpTo, Lib.keeps, List.range_succ, h, h']
theorem sort2 (a b : Int) : ([a, b].mergeSort fun x y => decide (x ≤ y)) = if a ≤ b then [a, b] else [b, a] := by
  by_cases h : a ≤ b
  · have : ([a, b].mergeSort fun x y => decide (x ≤ y)) = [a, b] := List.mergeSort_of_pairwise (by simp [h])
    rw [this, if_pos h]
  · rw [if_neg h]
    have hp : ([a, b].mergeSort fun x y => decide (x ≤ y)).Perm [a, b] := List.mergeSort_perm _ _
    have h2 : ([a, b].mergeSort fun x y => decide (x ≤ y)).Pairwise (fun x y => decide (x ≤ y) = true) := List.pairwise_mergeSort (by simp; omega) (by simp; omega) _
    generalize ([a, b].mergeSort fun x y => decide (x ≤ y)) = l at hp h2
    have hl := hp.length_eq
    match l, hl with
    | [c, d], _ =>
      have hc : c ∈ [a, b] := hp.subset (by simp)
      have hd : d ∈ [a, b] := hp.subset (by simp)
      have ha : a ∈ [c, d] := hp.symm.subset (by simp)
      have hb : b ∈ [c, d] := hp.symm.subset (by simp)
      simp at hc hd ha hb h2
      have h3 : c = b ∧ d = a := by omega
      rw [h3.1, h3.2]
/-- The list of those that are there, in order, each once. -/
def two (o : Bool) (a : Int) : Option Int → List Int
  | none => if o then [a] else []
  | some b => if o then (if a < b then [a, b] else if b < a then [b, a] else [a]) else [b]
theorem compact_sort (o : Bool) (a : Int) (p : Option Int) : Lib.compact (((if o then [a] else []) ++ p.toList).mergeSort fun x y => decide (x ≤ y)) = two o a p := by
  cases o <;> cases p
  · simpa [two] using (show Lib.compact ([] : List Int) = [] from by simp [Lib.compact, Lib.compactUpTo])
  · simpa [two] using compact1 _
  · simpa [two] using compact1 _
  · rename_i b
    simp only [if_true, Option.toList_some, List.cons_append, List.nil_append, two]
    rw [sort2]
    by_cases h1 : a < b
    · rw [if_pos (by omega), if_pos h1, compact2, if_neg (by omega)]
    · by_cases h2 : b < a
      · rw [if_neg (by omega), if_neg h1, if_pos h2, compact2, if_neg (by omega)]
      · rw [if_pos (by omega), if_neg h1, if_neg h2, compact2, if_pos (by omega)]
def goesOn (x : Ins) : Bool := (whatZ x).kind != 12 && (whatZ x).kind != 9
theorem ahead_two (L : List Ins) (x : Ins) (k : Nat) : aheadL L x k = two (goesOn x) (nextI x k : Nat) (targetS L x k) := by
  rw [← compact_sort, aheadL, rawA, goesOn]
  congr 2
  by_cases h1 : (whatZ x).kind = 12 <;> by_cases h2 : (whatZ x).kind = 9 <;> simp [h1, h2]
theorem mem_two {o : Bool} {a t : Int} {p : Option Int} : t ∈ two o a p ↔ (o = true ∧ t = a) ∨ p = some t := by
  cases o <;> cases p
  · simp [two]
  · rename_i b; simp [two, eq_comm]
  · simp [two]
  · rename_i b
    simp only [two, if_true, true_and, Option.some.injEq]
    by_cases h1 : a < b
    · rw [if_pos h1]; simp [eq_comm]
    · rw [if_neg h1]
      by_cases h2 : b < a
      · rw [if_pos h2]; simp [eq_comm, or_comm]
      · rw [if_neg h2]
        have : a = b := by omega
        subst this
        simp [eq_comm]
theorem mem_ahead {L : List Ins} {x : Ins} {k : Nat} {t : Int} : t ∈ aheadL L x k ↔ (goesOn x = true ∧ t = (nextI x k : Nat)) ∨ targetS L x k = some t := by
  rw [ahead_two, mem_two]
theorem st_at : ∀ (b : Bool) (L : List Ins) (k : Nat), (stF b L)[k]? = some true → (stF b L).drop k = stF false (L.drop k)
  | b, [], k, h => by cases b <;> simp [stF] at h
  | true, x :: xs, 0, h => by simp [stF] at h
  | true, x :: xs, k + 1, h => by
    simp only [stF, List.getElem?_cons_succ] at h
    simpa [stF] using st_at false xs k h
  | false, x :: xs, 0, h => rfl
  | false, x :: xs, k + 1, h => by
    simp only [stF, List.getElem?_cons_succ] at h
    simpa [stF] using st_at _ xs k h
theorem st_head {L : List Ins} {k : Nat} (h : stD L k) (hk : k < L.length) : (stF false L)[k]? = some true := by
  obtain ⟨y, hy⟩ := at_of_lt hk
  exact (st_step h hy).1
theorem nextI_le (x : Ins) (k : Nat) : k + 1 ≤ nextI x k ∧ nextI x k ≤ k + 2 := by unfold nextI; split <;> omega
structure ProgF (L : List Ins) : Prop where
  len : 1 ≤ L.length ∧ L.length ≤ 512
  o1 : ∀ j, j < L.length → ok1 L j = true
  o2 : ∀ j, j < L.length → ok2 L j = true
  last : endS L = true
theorem ProgF.of {L : List Ins} (h : progS L = true) : ProgF L := by
  unfold progS at h
  simp only [Bool.and_eq_true, decide_eq_true_eq, List.all_eq_true, List.mem_range] at h
  exact ⟨⟨h.1, h.2.1⟩, h.2.2.1, h.2.2.2.1, h.2.2.2.2⟩
theorem lastS_eq {L : List Ins} {k : Nat} (hk : (stF false L)[k]? = some true) : ∀ m, k < m → (∀ j, k < j → j < m → (stF false L)[j]? ≠ some true) → lastS L m = k
  | 0, h, _ => absurd h (Nat.not_lt_zero _)
  | m + 1, h, hn => by
    unfold lastS
    by_cases he : k = m
    · subst he; rw [if_pos hk]
    · rw [if_neg (hn m (by omega) (by omega))]
      exact lastS_eq hk m (by omega) (fun j h1 h2 => hn j h1 (by omega))
/-- Where a program goes on an instruction begins. -/
theorem ahead_start {L : List Ins} (hp : ProgF L) {k : Nat} {x : Ins} (hk : (stF false L)[k]? = some true) (hx : L[k]? = some x) {t : Int} (ht : t ∈ aheadL L x k) :
    0 ≤ t ∧ t < L.length ∧ (stF false L)[t.toNat]? = some true := by
  have hkl : k < L.length := (List.getElem?_eq_some_iff.1 hx).1
  rcases mem_ahead.1 ht with ⟨hg, rfl⟩ | ht
  · obtain ⟨h1, h2, h3⟩ := st_step (st_at false L k hk) hx
    have hn := nextI_le x k
    have hlt : nextI x k < L.length := by
      rcases Nat.lt_or_ge (nextI x k) L.length with h | h
      · exact h
      · exfalso
        have hl : lastS L L.length = k := lastS_eq hk _ hkl (fun j hj1 hj2 hj3 => by
          have : x.op = 24 := by
            by_cases e : x.op = 24
            · exact e
            · unfold nextI at h; rw [if_neg e] at h; omega
          unfold nextI at h
          rw [if_pos this] at h
          obtain rfl : j = k + 1 := by omega
          rw [h3 this hj2] at hj3
          cases hj3)
        have he := hp.last
        unfold endS at he
        rw [hl, hx] at he
        unfold goesOn at hg
        simp only [Bool.or_eq_true, beq_iff_eq, Bool.and_eq_true, bne_iff_ne, ne_eq] at he hg
        rcases he with he | he
        · exact hg.1 he
        · exact hg.2 he
    exact ⟨by omega, by omega, by rw [Int.toNat_natCast]; exact st_head h2 hlt⟩
  · obtain ⟨h0, h1⟩ := target_lt ht
    refine ⟨h0, h1, ?_⟩
    have h2 := hp.o2 k hkl
    rw [(ok1_at hk hx).2.1] at h2
    unfold targetS at ht
    cases hto : toS x k with
    | none => rw [hto] at ht; cases ht
    | some u =>
      rw [hto] at ht h2
      simp only [] at ht h2
      split at ht
      · injection ht with ht
        subst ht
        unfold jumpOk at h2
        simp only [Bool.and_eq_true, beq_iff_eq] at h2
        exact h2.2.2
      · cases ht
end Go.Proofs.Ytkogkcjiachphaa
