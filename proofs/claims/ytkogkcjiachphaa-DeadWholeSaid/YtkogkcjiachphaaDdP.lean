/- Plain laws: a program without the instructions that go is a program, and each place of it is come to. -/
import Derived.Test.YtkogkcjiachphaaDdC
namespace Go.Proofs.Ytkogkcjiachphaa
set_option linter.unusedVariables false
set_option linter.unusedSimpArgs false

/-- An instruction with its jump by so many. -/
def byI (x : Ins) (b : Int) : Ins := if (whatZ x).kind = 9 ∨ (whatZ x).kind = 10 then (if x.op = 6 then { x with imm := b } else { x with off := b }) else x
theorem by_op (x : Ins) (b : Int) : (byI x b).op = x.op := by
  unfold byI
  split
  · split <;> rfl
  · rfl
theorem jump_what {x : Ins} (h : (whatZ x).kind = 9 ∨ (whatZ x).kind = 10) : ¬ (10 < x.dst ∨ 10 < x.src) ∧ (x.op % 8 = 5 ∨ x.op % 8 = 6) ∧ whatS x = jumpsS x := by
  unfold whatZ at h
  cases hw : whatS x with
  | none => rw [hw] at h; simp [Wh.zero] at h
  | some y =>
    rw [hw] at h
    simp only [Option.getD_some] at h
    have e := hw
    unfold whatS at e
    split at e
    · cases e
    · rename_i h1
      split at e
      · have := kind_wide e; omega
      · split at e
        · have := kind_swaps e; omega
        · split at e
          · have := kind_arith e; omega
          · split at e
            · rename_i h5
              exact ⟨h1, h5, e.symm ▸ rfl⟩
            · split at e
              · cases e
              · have := kind_moves e; omega
theorem what_jumps {x : Ins} (h1 : ¬ (10 < x.dst ∨ 10 < x.src)) (h2 : x.op % 8 = 5 ∨ x.op % 8 = 6) : whatS x = jumpsS x := by
  unfold whatS
  rw [if_neg h1, if_neg (by omega), if_neg (by omega), if_neg (by omega), if_pos h2]
theorem what_by (x : Ins) (b : Int) : whatS (byI x b) = whatS x := by
  unfold byI
  split
  · rename_i h
    obtain ⟨h1, h2, h3⟩ := jump_what h
    split
    · rename_i h6
      rw [what_jumps (x := { x with imm := b }) h1 h2, h3]
      unfold jumpsS zerosS
      simp [h6]
    · rename_i h6
      rw [what_jumps (x := { x with off := b }) h1 h2, h3]
      have h11 : x.op = 133 ∨ x.op = 149 → False := by
        intro hh
        unfold whatZ at h
        rw [h3] at h
        unfold jumpsS at h
        rcases hh with hh | hh
        · rw [if_neg (by omega), if_neg (by omega), if_pos hh] at h
          split at h <;> simp [Wh.zero] at h
        · rw [if_neg (by omega), if_neg (by omega), if_neg (by omega), if_pos hh] at h
          split at h <;> simp [Wh.zero] at h
      unfold jumpsS zerosS
      simp only [h6, if_false]
      rw [if_neg (fun e => h11 (.inl e)), if_neg (fun e => h11 (.inr e)), if_neg (fun e => h11 (.inl e)), if_neg (fun e => h11 (.inr e))]
      rfl
  · rfl
theorem whatZ_by (x : Ins) (b : Int) : whatZ (byI x b) = whatZ x := by unfold whatZ; rw [what_by]
theorem goes_by (x : Ins) (b : Int) : goesOn (byI x b) = goesOn x := by unfold goesOn; rw [whatZ_by]
theorem to_by {x : Ins} (h : (whatZ x).kind = 9 ∨ (whatZ x).kind = 10) (b : Int) (k : Nat) : toS (byI x b) k = some (k + 1 + b) := by
  unfold toS
  rw [whatZ_by, if_pos h, by_op]
  unfold byI
  rw [if_pos h]
  split
  · rfl
  · rfl
theorem to_no {x : Ins} (h : ¬ ((whatZ x).kind = 9 ∨ (whatZ x).kind = 10)) (b : Int) (k : Nat) : toS (byI x b) k = none := by
  unfold toS
  rw [whatZ_by, if_neg h]
theorem next_by (x : Ins) (b : Int) (k : Nat) : nextI (byI x b) k = nextI x k := by unfold nextI; rw [by_op]
theorem by_ok {x : Ins} (h : x.Ok) {b : Int} (h0 : -1000 ≤ b) (h1 : b ≤ 1000) : (byI x b).Ok := by
  unfold byI
  split
  · split
    · exact ⟨h.op, h.dst, h.src, h.off, by constructor <;> simp only [] <;> omega⟩
    · exact ⟨h.op, h.dst, h.src, by constructor <;> simp only [] <;> omega, h.imm⟩
  · exact h
section
variable (L : List Ins) (G : Nat → Bool)
/-- Does it stay? -/
def keptB (k : Nat) : Bool := ((stF false L)[k]? == some true) && !G k
def szB (k : Nat) : Nat := if keptB L G k then (match L[k]? with | some x => if x.op = 24 then 2 else 1 | none => 0) else 0
/-- Where a place is then. -/
def plB : Nat → Nat
  | 0 => 0
  | m + 1 => plB m + szB L G m
def newI (x : Ins) (k : Nat) : Ins := byI x ((plB L G ((toS x k).getD 0).toNat : Int) - plB L G k - 1)
def pieceB (k : Nat) : List Ins := if keptB L G k then (match L[k]? with | some x => newI L G x k :: (if x.op = 24 then (L[k + 1]?).toList else []) | none => []) else []
def outB : Nat → List Ins
  | 0 => []
  | m + 1 => outB m ++ pieceB L G m
def cntB : Nat → Nat
  | 0 => 0
  | m + 1 => cntB m + (if G m then 1 else 0)
end
/-- What is known of the places that go. -/
structure DeadH (L : List Ins) (G : Nat → Bool) : Prop where
  hp : progS L = true
  ok : InsOk L
  st : ∀ k, G k = true → (stF false L)[k]? = some true
  reach : ∀ k, (stF false L)[k]? = some true → G k = false → Conn (aheadAt L) 0 k
  idle : ∀ (k : Nat) (x : Ins), G k = true → Conn (aheadAt L) 0 k → L[k]? = some x → goesOn x = true ∧ targetS L x k = none
section
variable {L : List Ins} {G : Nat → Bool}
theorem kept_iff {k : Nat} : keptB L G k = true ↔ (stF false L)[k]? = some true ∧ G k = false := by
  unfold keptB
  simp
theorem kept_at {k : Nat} (h : keptB L G k = true) : k < L.length ∧ ∃ x, L[k]? = some x := by
  have h1 := lt_at (kept_iff.1 h).1
  rw [stF_length] at h1
  exact ⟨h1, at_of_lt h1⟩
theorem sz_kept {k : Nat} {x : Ins} (h : keptB L G k = true) (hx : L[k]? = some x) : szB L G k = if x.op = 24 then 2 else 1 := by
  unfold szB
  rw [if_pos h, hx]
theorem sz_not {k : Nat} (h : keptB L G k = false) : szB L G k = 0 := by
  unfold szB
  rw [h]; rfl
theorem sz_pos {k : Nat} (h : keptB L G k = true) : 1 ≤ szB L G k := by
  obtain ⟨_, x, hx⟩ := kept_at h
  rw [sz_kept h hx]
  split <;> omega
theorem pl_mono {m m' : Nat} (h : m ≤ m') : plB L G m ≤ plB L G m' := by
  induction h with
  | refl => exact Nat.le_refl _
  | step h ih => exact Nat.le_trans ih (Nat.le_add_right _ _)
theorem pl_kept {k m : Nat} (h : keptB L G k = true) (hm : k < m) : plB L G k + szB L G k ≤ plB L G m := pl_mono (L := L) (G := G) (m := k + 1) hm
theorem pl_lt {k m : Nat} (h : keptB L G k = true) (hm : k < m) : plB L G k < plB L G m := by
  have := pl_kept h hm
  have := sz_pos h
  omega
theorem st_mid {k : Nat} {x : Ins} (hs : (stF false L)[k]? = some true) (hx : L[k]? = some x) (h24 : x.op = 24) : keptB L G (k + 1) = false := by
  cases h : keptB L G (k + 1) with
  | false => rfl
  | true =>
    have h1 := (kept_iff.1 h).1
    have h2 := lt_at h1
    rw [stF_length] at h2
    have h3 := (st_step (st_at false L k hs) hx).2.2 h24 h2
    rw [h1] at h3
    cases h3
theorem pl_next {k : Nat} {x : Ins} (hs : (stF false L)[k]? = some true) (hx : L[k]? = some x) : plB L G (nextI x k) = plB L G k + szB L G k := by
  unfold nextI
  split
  · rename_i h
    show plB L G k + szB L G k + szB L G (k + 1) = _
    rw [sz_not (st_mid hs hx h)]
    omega
  · rfl
theorem DeadH.wide (D : DeadH L G) {k : Nat} {x : Ins} (hs : (stF false L)[k]? = some true) (hx : L[k]? = some x) (h24 : x.op = 24) : ∃ y, L[k + 1]? = some y := by
  have h1 := (ProgF.of D.hp).o1 k (lt_at hx)
  unfold ok1 at h1
  rw [hs, hx] at h1
  simp only [] at h1
  unfold wholeS at h1
  cases hy : L[k + 1]? with
  | some y => exact ⟨y, rfl⟩
  | none => rw [hy] at h1; simp [h24] at h1
theorem piece_kept {k : Nat} {x : Ins} (h : keptB L G k = true) (hx : L[k]? = some x) : pieceB L G k = newI L G x k :: (if x.op = 24 then (L[k + 1]?).toList else []) := by
  unfold pieceB
  rw [if_pos h, hx]
theorem piece_not {k : Nat} (h : keptB L G k = false) : pieceB L G k = [] := by
  unfold pieceB
  rw [h]; rfl
theorem DeadH.piece_len (D : DeadH L G) (k : Nat) : (pieceB L G k).length = szB L G k := by
  cases h : keptB L G k with
  | false => rw [piece_not h, sz_not h]; rfl
  | true =>
    obtain ⟨_, x, hx⟩ := kept_at h
    rw [piece_kept h hx, sz_kept h hx]
    by_cases h24 : x.op = 24
    · obtain ⟨y, hy⟩ := D.wide (kept_iff.1 h).1 hx h24
      simp [h24, hy]
    · simp [h24]
theorem DeadH.out_len (D : DeadH L G) : ∀ m, (outB L G m).length = plB L G m
  | 0 => rfl
  | m + 1 => by
    show (outB L G m ++ pieceB L G m).length = _
    rw [List.length_append, D.out_len m, D.piece_len]
    rfl
theorem DeadH.out_at (D : DeadH L G) {k : Nat} {j : Nat} (hj : j < (pieceB L G k).length) : ∀ m, k < m → (outB L G m)[plB L G k + j]? = (pieceB L G k)[j]?
  | 0, h => absurd h (Nat.not_lt_zero _)
  | m + 1, h => by
    show (outB L G m ++ pieceB L G m)[plB L G k + j]? = _
    by_cases e : k = m
    · subst e
      rw [List.getElem?_append_right (by rw [D.out_len]; omega), D.out_len]
      congr 1
      omega
    · have hk : keptB L G k = true := by
        cases hk : keptB L G k with
        | true => rfl
        | false => rw [piece_not hk] at hj; simp at hj
      have := pl_kept hk (show k < m by omega)
      rw [D.piece_len] at hj
      rw [List.getElem?_append_left (by rw [D.out_len]; omega)]
      exact D.out_at (by rw [D.piece_len]; exact hj) m (by omega)
def closedL (A : List Ins) : Prop := ∀ B, stF false (A ++ B) = stF false A ++ stF false B
theorem closed_append {A B : List Ins} (ha : closedL A) (hb : closedL B) : closedL (A ++ B) := fun C => by
  rw [List.append_assoc, ha, hb, ha B, List.append_assoc]
theorem DeadH.piece_st (D : DeadH L G) (k : Nat) : closedL (pieceB L G k) ∧ ∀ p : Nat, (stF false (pieceB L G k))[p]? = some true ↔ keptB L G k = true ∧ p = 0 := by
  cases h : keptB L G k with
  | false =>
    rw [piece_not h]
    exact ⟨fun B => rfl, fun p => by simp [stF]⟩
  | true =>
    obtain ⟨_, x, hx⟩ := kept_at h
    rw [piece_kept h hx]
    have ho : (newI L G x k).op = x.op := by_op _ _
    by_cases h24 : x.op = 24
    · obtain ⟨y, hy⟩ := D.wide (kept_iff.1 h).1 hx h24
      rw [if_pos h24, hy]
      have e : ((newI L G x k).op == 24) = true := by rw [ho, h24]; rfl
      refine ⟨fun B => ?_, fun p => ?_⟩
      · show stF false (newI L G x k :: y :: B) = stF false [newI L G x k, y] ++ stF false B
        simp only [stF, e]
        rfl
      · show (stF false [newI L G x k, y])[p]? = some true ↔ _
        simp only [stF, e]
        rcases p with _ | _ | p <;> simp
    · rw [if_neg h24]
      have e : ((newI L G x k).op == 24) = false := by rw [ho]; simpa using h24
      refine ⟨fun B => ?_, fun p => ?_⟩
      · show stF false (newI L G x k :: B) = stF false [newI L G x k] ++ stF false B
        simp only [stF, e]
        rfl
      · simp only [stF, e]
        rcases p with _ | p <;> simp
theorem DeadH.out_st (D : DeadH L G) : ∀ m, closedL (outB L G m) ∧ ∀ p : Nat, (stF false (outB L G m))[p]? = some true ↔ ∃ k, k < m ∧ keptB L G k = true ∧ p = plB L G k
  | 0 => ⟨fun B => rfl, fun p => by simp [outB, stF]⟩
  | m + 1 => by
    obtain ⟨c1, c2⟩ := D.out_st m
    obtain ⟨d1, d2⟩ := D.piece_st m
    refine ⟨closed_append c1 d1, fun p => ?_⟩
    show (stF false (outB L G m ++ pieceB L G m))[p]? = some true ↔ _
    rw [c1]
    have hl : (stF false (outB L G m)).length = plB L G m := by rw [stF_length, D.out_len]
    by_cases hp : p < plB L G m
    · rw [List.getElem?_append_left (by omega), c2]
      constructor
      · rintro ⟨k, h1, h2, h3⟩; exact ⟨k, by omega, h2, h3⟩
      · rintro ⟨k, h1, h2, h3⟩
        refine ⟨k, ?_, h2, h3⟩
        by_cases e : k = m
        · subst e; omega
        · omega
    · rw [List.getElem?_append_right (by omega), d2, hl]
      constructor
      · rintro ⟨h1, h2⟩; exact ⟨m, by omega, h1, by omega⟩
      · rintro ⟨k, h1, h2, h3⟩
        by_cases e : k = m
        · subst e; exact ⟨h2, by omega⟩
        · have := pl_lt h2 (show k < m by omega); omega
theorem DeadH.start (D : DeadH L G) {k : Nat} (h : Conn (aheadAt L) 0 k) : (stF false L)[k]? = some true ∧ k < L.length ∧ ∃ x, L[k]? = some x := by
  have h0 := (begins_iff.1 (begins_zero D.hp)).2.2.2
  have h1 := conn_start D.hp (s := 0) (by simpa using h0) h
  have h2 := lt_at h1
  rw [stF_length] at h2
  exact ⟨h1, h2, at_of_lt h2⟩
theorem DeadH.kept_reach (D : DeadH L G) {k : Nat} (h : keptB L G k = true) : Conn (aheadAt L) 0 k := D.reach k (kept_iff.1 h).1 (kept_iff.1 h).2
/-- From a place that is come to one comes, over what goes, to what stays. -/
theorem DeadH.chain (D : DeadH L G) : ∀ (d k : Nat), L.length - k ≤ d → Conn (aheadAt L) 0 k → ∃ k', k ≤ k' ∧ keptB L G k' = true ∧ plB L G k' = plB L G k
  | 0, k, hd, h => by have := (D.start h).2.1; omega
  | d + 1, k, hd, h => by
    obtain ⟨hs, hl, x, hx⟩ := D.start h
    cases hg : G k with
    | false => exact ⟨k, Nat.le_refl _, kept_iff.2 ⟨hs, hg⟩, rfl⟩
    | true =>
      obtain ⟨h1, h2⟩ := D.idle k x hg h hx
      have hn : ((nextI x k : Nat) : Int) ∈ aheadAt L k := by
        unfold aheadAt
        rw [hx]
        exact mem_ahead.2 (.inl ⟨h1, rfl⟩)
      have hc := h.step hn
      have hle := nextI_le x k
      obtain ⟨k', e1, e2, e3⟩ := D.chain d (nextI x k) (by omega) hc
      have hk : keptB L G k = false := by unfold keptB; rw [hg]; simp
      exact ⟨k', by omega, e2, by rw [e3, pl_next hs hx, sz_not hk]; rfl⟩
theorem DeadH.chain' (D : DeadH L G) {k : Nat} (h : Conn (aheadAt L) 0 k) : ∃ k', k ≤ k' ∧ keptB L G k' = true ∧ plB L G k' = plB L G k := D.chain _ k (Nat.le_refl _) h
/-- The program that is left. -/
def newP (L : List Ins) (G : Nat → Bool) : List Ins := outB L G L.length
theorem DeadH.new_at (D : DeadH L G) {k : Nat} {x : Ins} (h : keptB L G k = true) (hx : L[k]? = some x) : (newP L G)[plB L G k]? = some (newI L G x k) := by
  have := D.out_at (k := k) (j := 0) (by rw [piece_kept h hx]; simp) L.length (lt_at hx)
  rw [Nat.add_zero, piece_kept h hx] at this
  exact this
theorem DeadH.new_wide (D : DeadH L G) {k : Nat} {x : Ins} (h : keptB L G k = true) (hx : L[k]? = some x) (h24 : x.op = 24) : (newP L G)[plB L G k + 1]? = L[k + 1]? := by
  obtain ⟨y, hy⟩ := D.wide (kept_iff.1 h).1 hx h24
  have := D.out_at (k := k) (j := 1) (by rw [piece_kept h hx]; simp [h24, hy]) L.length (lt_at hx)
  rw [piece_kept h hx] at this
  simp [h24, hy] at this
  rw [hy]
  exact this
theorem DeadH.new_st (D : DeadH L G) {p : Nat} : (stF false (newP L G))[p]? = some true ↔ ∃ k, k < L.length ∧ keptB L G k = true ∧ p = plB L G k := (D.out_st L.length).2 p
theorem DeadH.new_len (D : DeadH L G) : (newP L G).length = plB L G L.length := D.out_len _
/-- Where a jump of what stays goes. -/
theorem DeadH.jump (D : DeadH L G) {k : Nat} {x : Ins} (h : Conn (aheadAt L) 0 k) (hx : L[k]? = some x) (hj : (whatZ x).kind = 9 ∨ (whatZ x).kind = 10) : ∃ t : Nat, toS x k = some (t : Int) ∧ targetS L x k = some (t : Int) ∧ Conn (aheadAt L) 0 t ∧ t < L.length := by
  obtain ⟨hs, hl, _⟩ := D.start h
  have h2 := (ProgF.of D.hp).o2 k hl
  unfold ok2 at h2
  rw [hs, hx] at h2
  simp only [] at h2
  obtain ⟨t, ht⟩ : ∃ t, toS x k = some t := by unfold toS; rw [if_pos hj]; exact ⟨_, rfl⟩
  rw [ht] at h2
  simp only [jumpOk, Bool.and_eq_true, decide_eq_true_eq] at h2
  have htg : targetS L x k = some t := by
    unfold targetS
    rw [ht]
    simp only []
    rw [if_pos ⟨h2.1, h2.2.1⟩]
  obtain ⟨tn, rfl⟩ : ∃ tn : Nat, t = tn := ⟨t.toNat, by omega⟩
  refine ⟨tn, ht, htg, h.step ?_, by omega⟩
  unfold aheadAt
  rw [hx]
  exact mem_ahead.2 (.inr htg)
theorem newI_jump {k t : Nat} {x : Ins} (hj : (whatZ x).kind = 9 ∨ (whatZ x).kind = 10) (ht : toS x k = some (t : Int)) : toS (newI L G x k) (plB L G k) = some ((plB L G t : Nat) : Int) := by
  unfold newI
  rw [to_by hj, ht]
  simp only [Option.getD_some, Int.toNat_natCast]
  congr 1
  omega
theorem DeadH.some_kept (D : DeadH L G) : ∃ k, keptB L G k = true ∧ plB L G k = 0 := by
  obtain ⟨k, _, h, he⟩ := D.chain' (Conn.rfl' 0)
  exact ⟨k, h, he⟩
theorem last_of (p : Nat → Bool) : ∀ n, (∃ k, k < n ∧ p k = true) → ∃ k, k < n ∧ p k = true ∧ ∀ j, k < j → j < n → p j = false
  | 0, ⟨k, h, _⟩ => absurd h (Nat.not_lt_zero _)
  | n + 1, ⟨k, h, hk⟩ => by
    cases hn : p n with
    | true => exact ⟨n, by omega, hn, fun j h1 h2 => by omega⟩
    | false =>
      obtain ⟨m, h1, h2, h3⟩ := last_of p n ⟨k, by
        by_cases e : k = n
        · subst e; rw [hk] at hn; cases hn
        · omega, hk⟩
      refine ⟨m, by omega, h2, fun j h4 h5 => ?_⟩
      by_cases e : j = n
      · subst e; exact hn
      · exact h3 j h4 (by omega)
theorem DeadH.pl_cnt (D : DeadH L G) : ∀ m, m ≤ L.length → plB L G m + cntB G m ≤ m + (if (stF false L)[m]? = some false then 1 else 0)
  | 0, _ => by simp [plB, cntB]
  | m + 1, hm => by
    have ih := D.pl_cnt m (by omega)
    obtain ⟨x, hx⟩ := at_of_lt (xs := L) (k := m) hm
    obtain ⟨b, hb⟩ := at_of_lt (xs := stF false L) (k := m) (by rw [stF_length]; exact hm)
    show plB L G m + szB L G m + (cntB G m + (if G m then 1 else 0)) ≤ _
    rw [hb] at ih
    cases b with
    | false =>
      have hg : G m = false := by
        cases hg : G m with
        | false => rfl
        | true => have := D.st m hg; rw [hb] at this; cases this
      have hk : keptB L G m = false := by unfold keptB; rw [hb]; rfl
      rw [sz_not hk, hg]
      simp only [if_true, Bool.false_eq_true, if_false] at ih ⊢
      omega
    | true =>
      simp only [Option.some.injEq, Bool.true_eq_false, if_false] at ih
      cases hg : G m with
      | true =>
        have hk : keptB L G m = false := by unfold keptB; rw [hg]; simp
        rw [sz_not hk]
        simp only [if_true]
        omega
      | false =>
        have hk : keptB L G m = true := kept_iff.2 ⟨hb, hg⟩
        rw [sz_kept hk hx]
        by_cases h24 : x.op = 24
        · obtain ⟨y, hy⟩ := D.wide hb hx h24
          have := (st_step (st_at false L m hb) hx).2.2 h24 (lt_at hy)
          rw [this, if_pos h24]
          simp
          omega
        · rw [if_neg h24]
          simp
          omega
theorem DeadH.new_le (D : DeadH L G) : (newP L G).length + cntB G L.length ≤ L.length := by
  have := D.pl_cnt L.length (Nat.le_refl _)
  rw [List.getElem?_eq_none (by rw [stF_length]; omega)] at this
  rw [D.new_len]
  simpa using this
theorem DeadH.new_ok1 (D : DeadH L G) (p : Nat) : ok1 (newP L G) p = true := by
  unfold ok1
  cases hs : (stF false (newP L G))[p]? with
  | none => rfl
  | some b =>
    cases b with
    | false => rfl
    | true =>
      obtain ⟨k, hk, hkp, rfl⟩ := D.new_st.1 hs
      obtain ⟨_, x, hx⟩ := kept_at hkp
      rw [D.new_at hkp hx]
      simp only []
      have h1 := (ProgF.of D.hp).o1 k hk
      unfold ok1 at h1
      rw [(kept_iff.1 hkp).1, hx] at h1
      simp only [] at h1
      unfold wholeS at h1 ⊢
      have ho : (newI L G x k).op = x.op := by_op _ _
      have hw : whatS (newI L G x k) = whatS x := what_by _ _
      have hz : whatZ (newI L G x k) = whatZ x := whatZ_by _ _
      rw [ho, hw, hz]
      by_cases h24 : x.op = 24
      · rw [D.new_wide hkp hx h24]; exact h1
      · have e : (x.op == 24) = false := by simpa using h24
        rw [e] at h1 ⊢
        simpa using h1
theorem DeadH.new_ok2 (D : DeadH L G) (p : Nat) : ok2 (newP L G) p = true := by
  unfold ok2
  cases hs : (stF false (newP L G))[p]? with
  | none => rfl
  | some b =>
    cases b with
    | false => rfl
    | true =>
      obtain ⟨k, hk, hkp, rfl⟩ := D.new_st.1 hs
      obtain ⟨_, x, hx⟩ := kept_at hkp
      rw [D.new_at hkp hx]
      simp only []
      by_cases hj : (whatZ x).kind = 9 ∨ (whatZ x).kind = 10
      · obtain ⟨t, h1, h2, h3, h4⟩ := D.jump (D.kept_reach hkp) hx hj
        rw [newI_jump hj h1]
        simp only []
        obtain ⟨k', e1, e2, e3⟩ := D.chain' h3
        have hst : (stF false (newP L G))[plB L G t]? = some true := D.new_st.2 ⟨k', (kept_at e2).1, e2, e3.symm⟩
        have hlt := lt_at hst
        rw [stF_length] at hlt
        unfold jumpOk
        simp only [Int.toNat_natCast, hst]
        simp
        omega
      · have : toS (newI L G x k) (plB L G k) = none := to_no hj _ _
        rw [this]
theorem DeadH.new_end (D : DeadH L G) : endS (newP L G) = true := by
  obtain ⟨k0, hk0, _⟩ := D.some_kept
  obtain ⟨k, hk, hkp, hlast⟩ := last_of (keptB L G) L.length ⟨k0, (kept_at hk0).1, hk0⟩
  obtain ⟨_, x, hx⟩ := kept_at hkp
  have hng : goesOn x = false := by
    cases hg : goesOn x with
    | false => rfl
    | true =>
      have hc : Conn (aheadAt L) 0 (nextI x k) := (D.kept_reach hkp).step (by
        unfold aheadAt
        rw [hx]
        exact mem_ahead.2 (.inl ⟨hg, rfl⟩))
      obtain ⟨k', e1, e2, e3⟩ := D.chain' hc
      have h1 := nextI_le x k
      have := hlast k' (by omega) (kept_at e2).1
      rw [e2] at this
      cases this
  have hst : (stF false (newP L G))[plB L G k]? = some true := D.new_st.2 ⟨k, hk, hkp, rfl⟩
  have hl := lt_at hst
  rw [stF_length] at hl
  unfold endS
  rw [lastS_eq hst _ hl (fun j h1 h2 h3 => by
    obtain ⟨k', f1, f2, rfl⟩ := D.new_st.1 h3
    by_cases e : k' ≤ k
    · have := pl_mono (L := L) (G := G) e; omega
    · have := hlast k' (by omega) f1
      rw [f2] at this
      cases this), D.new_at hkp hx]
  simp only []
  have hz : whatZ (newI L G x k) = whatZ x := whatZ_by _ _
  rw [hz]
  unfold goesOn at hng
  cases h1 : ((whatZ x).kind == 12)
  · cases h2 : ((whatZ x).kind == 9)
    · simp [bne, h1, h2] at hng
    · rfl
  · rfl
theorem DeadH.new_prog (D : DeadH L G) : progS (newP L G) = true := by
  have h1 := D.new_le
  have h2 := (ProgF.of D.hp).len
  obtain ⟨k, hk, he⟩ := D.some_kept
  have h3 := pl_lt hk (kept_at hk).1
  rw [← D.new_len] at h3
  unfold progS
  simp only [Bool.and_eq_true, decide_eq_true_eq, List.all_eq_true, List.mem_range]
  exact ⟨by omega, by omega, fun p _ => D.new_ok1 p, fun p _ => D.new_ok2 p, D.new_end⟩
theorem DeadH.by_small (D : DeadH L G) {k : Nat} {x : Ins} (h : keptB L G k = true) (hx : L[k]? = some x) (hj : (whatZ x).kind = 9 ∨ (whatZ x).kind = 10) : ∃ t : Nat, toS x k = some (t : Int) ∧ t < L.length ∧ plB L G t ≤ 512 ∧ plB L G k ≤ 512 := by
  obtain ⟨t, h1, h2, h3, h4⟩ := D.jump (D.kept_reach h) hx hj
  have a := D.new_le
  rw [D.new_len] at a
  have b := (ProgF.of D.hp).len
  have c := pl_mono (L := L) (G := G) (Nat.le_of_lt h4)
  have d := pl_mono (L := L) (G := G) (Nat.le_of_lt (kept_at h).1)
  exact ⟨t, h1, h4, by omega, by omega⟩
theorem DeadH.newI_ok (D : DeadH L G) {k : Nat} {x : Ins} (h : keptB L G k = true) (hx : L[k]? = some x) : (newI L G x k).Ok := by
  by_cases hj : (whatZ x).kind = 9 ∨ (whatZ x).kind = 10
  · obtain ⟨t, h1, h2, h3, h4⟩ := D.by_small h hx hj
    unfold newI
    rw [h1]
    simp only [Option.getD_some, Int.toNat_natCast]
    exact by_ok (D.ok.at hx) (by omega) (by omega)
  · unfold newI byI
    rw [if_neg hj]
    exact D.ok.at hx
theorem DeadH.out_ok (D : DeadH L G) : ∀ m, InsOk (outB L G m)
  | 0 => fun x hx => by cases hx
  | m + 1 => fun x hx => by
    rcases List.mem_append.1 hx with h | h
    · exact D.out_ok m x h
    · cases hk : keptB L G m with
      | false => rw [piece_not hk] at h; cases h
      | true =>
        obtain ⟨_, y, hy⟩ := kept_at hk
        rw [piece_kept hk hy] at h
        rcases List.mem_cons.1 h with rfl | h
        · exact D.newI_ok hk hy
        · split at h
          · cases hz : L[m + 1]? with
            | none => rw [hz] at h; cases h
            | some z =>
              rw [hz] at h
              simp at h
              rw [h]
              exact D.ok.at hz
          · cases h
/-- One comes to what stays. -/
theorem DeadH.new_conn (D : DeadH L G) {k : Nat} (h : Conn (aheadAt L) 0 k) : Conn (aheadAt (newP L G)) 0 (plB L G k) := by
  have key := h (fun k => Conn (aheadAt L) 0 k ∧ Conn (aheadAt (newP L G)) 0 (plB L G k)) ⟨Conn.rfl' 0, Conn.rfl' 0⟩ (fun i j ⟨hi, hc⟩ hj => ?_)
  · exact key.2
  · refine ⟨hi.step hj, ?_⟩
    obtain ⟨hs, hl, x, hx⟩ := D.start hi
    have hj' := hj
    unfold aheadAt at hj'
    rw [hx] at hj'
    cases hg : G i with
    | true =>
      obtain ⟨h1, h2⟩ := D.idle i x hg hi hx
      have hk : keptB L G i = false := by unfold keptB; rw [hg]; simp
      rcases mem_ahead.1 hj' with ⟨_, e⟩ | e
      · have e : j = nextI x i := by omega
        rw [e, pl_next hs hx, sz_not hk]
        exact hc
      · rw [h2] at e; cases e
    | false =>
      have hk : keptB L G i = true := kept_iff.2 ⟨hs, hg⟩
      refine hc.step ?_
      unfold aheadAt
      rw [D.new_at hk hx]
      refine mem_ahead.2 ?_
      rcases mem_ahead.1 hj' with ⟨h1, e⟩ | e
      · left
        have e : j = nextI x i := by omega
        refine ⟨by unfold newI; rw [goes_by]; exact h1, ?_⟩
        rw [e, pl_next hs hx, sz_kept hk hx]
        unfold newI
        rw [next_by]
        unfold nextI
        split <;> rfl
      · right
        have hj2 : (whatZ x).kind = 9 ∨ (whatZ x).kind = 10 := by
          unfold targetS toS at e
          split at e
          · cases e
          · rename_i t ht
            split at ht
            · assumption
            · cases ht
        obtain ⟨t, t1, t2, t3, t4⟩ := D.jump hi hx hj2
        rw [t2] at e
        obtain rfl : t = j := by injection e with e; omega
        unfold targetS
        rw [newI_jump hj2 t1]
        simp only []
        obtain ⟨k', e1, e2, e3⟩ := D.chain' t3
        have := pl_lt e2 (kept_at e2).1
        rw [if_pos ⟨by omega, by rw [D.new_len]; omega⟩]
theorem DeadH.new_reach (D : DeadH L G) {p : Nat} (h : (stF false (newP L G))[p]? = some true) : (reachL (newP L G) 0)[p]? = some true := by
  obtain ⟨k, hk, hkp, rfl⟩ := D.new_st.1 h
  have hl := lt_at h
  rw [stF_length] at hl
  exact (reachL_at D.new_prog 0 hl).2 ⟨begins_zero D.new_prog, D.new_conn (D.kept_reach hkp)⟩
end
end Go.Proofs.Ytkogkcjiachphaa
