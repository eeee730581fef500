/- Plain laws: where one may come to from a place; a way back; the search for loops. -/
import Derived.Test.YtkogkcjiachphaaGrS
namespace Go.Proofs.Ytkogkcjiachphaa
set_option linter.unusedVariables false
set_option linter.unusedSimpArgs false

/-- From s one may come to k. -/
def Conn (A : Nat → List Int) (s k : Nat) : Prop := ∀ S : Nat → Prop, S s → (∀ (i j : Nat), S i → (j : Int) ∈ A i → S j) → S k
section
variable {A : Nat → List Int}
theorem Conn.rfl' (s : Nat) : Conn A s s := fun _ h _ => h
theorem Conn.step {s i j : Nat} (h : Conn A s i) (hj : (j : Int) ∈ A i) : Conn A s j := fun S h0 hS => hS i j (h S h0 hS) hj
theorem Conn.trans {a b c : Nat} (h : Conn A a b) (k : Conn A b c) : Conn A a c := k (fun x => Conn A a x) h (fun _ _ hi hj => hi.step hj)
theorem Conn.one {i j : Nat} (hj : (j : Int) ∈ A i) : Conn A i j := (Conn.rfl' i).step hj
/-- From i one may come back to it. -/
def Back (A : Nat → List Int) (i : Nat) : Prop := ∃ j : Nat, (j : Int) ∈ A i ∧ Conn A j i
/-- Colours: each open place comes to k. -/
def OpenTo (A : Nat → List Int) (wh : List Int) (k : Nat) : Prop := ∀ u : Nat, wh[u]? = some 1 → Conn A u k
/-- What is left for good: closed under going on, without a way back. -/
structure Shut (A : Nat → List Int) (wh : List Int) : Prop where
  col : ∀ (u : Nat) (x : Int), wh[u]? = some x → x = 0 ∨ x = 1 ∨ x = 2
  on : ∀ u t : Nat, wh[u]? = some 2 → (t : Int) ∈ A u → wh[t]? = some 2
  no : ∀ u : Nat, wh[u]? = some 2 → ¬ Back A u
theorem Shut.conn {wh : List Int} (h : Shut A wh) {u k : Nat} (hu : wh[u]? = some 2) (hk : Conn A u k) : wh[k]? = some 2 :=
  hk (fun x => wh[x]? = some 2) hu (fun _ _ hi hj => h.on _ _ hi hj)
/-- From the places S all places that A tells are there, and are such places. -/
def Within (A : Nat → List Int) (n : Nat) (S : Nat → Prop) : Prop := ∀ k t, S k → t ∈ A k → 0 ≤ t ∧ t < (n : Int) ∧ S t.toNat
theorem of_getD {wh : List Int} {k : Nat} (hk : k < wh.length) : wh[k]? = some (wh.getD k 2) := by
  rw [List.getD_eq_getElem?_getD, List.getElem?_eq_getElem hk]; rfl
/-- What a walk tells: with true a way back, to which one may come; else what was come to is left. -/
structure Tells (A : Nat → List Int) (s k : Nat) (wh : List Int) (r : Bool × List Int) : Prop where
  len : r.2.length = wh.length
  few : fresh r.2 ≤ fresh wh
  yes : r.1 = true → OpenTo A wh k → Conn A s k → ∃ i, Conn A s i ∧ Back A i
  same : r.1 = false → ∀ u : Nat, r.2[u]? = some 1 ↔ wh[u]? = some 1
  shut : r.1 = false → Shut A wh → Shut A r.2 ∧ ∀ u : Nat, wh[u]? = some 2 → r.2[u]? = some 2
theorem loop_tells {s k n : Nat} {S : Nat → Prop} {f : Nat → List Int → Bool × List Int} {m : Nat}
    (hf : ∀ (t : Nat) (wh : List Int), S t → wh.length = n → wh[t]? = some 0 → fresh wh ≤ m → Tells A s t wh (f t wh) ∧ ((f t wh).1 = false → Shut A wh → (f t wh).2[t]? = some 2)) :
    ∀ (ts wh : List Int), wh.length = n → fresh wh ≤ m → (∀ t ∈ ts, t ∈ A k ∧ 0 ≤ t ∧ t < (n : Int) ∧ S t.toNat) →
    Tells A s k wh (loopC f ts wh) ∧ ((loopC f ts wh).1 = false → Shut A wh → ∀ t ∈ ts, (loopC f ts wh).2[t.toNat]? = some 2)
  | [], wh, _, _, _ => ⟨⟨rfl, Nat.le_refl _, (fun h => by cases h), fun _ _ => Iff.rfl, fun _ h => ⟨h, fun _ h => h⟩⟩, fun _ _ t ht => by cases ht⟩
  | t :: ts, wh, hl, hm, hts => by
    obtain ⟨ht, h0, h1, hS⟩ := hts t (List.mem_cons_self ..)
    obtain ⟨tn, rfl⟩ : ∃ tn : Nat, t = tn := ⟨t.toNat, by omega⟩
    have hts' := fun x hx => hts x (List.mem_cons_of_mem _ hx)
    have hat := of_getD (wh := wh) (k := tn) (by omega)
    unfold loopC
    simp only [Int.toNat_natCast]
    by_cases c1 : wh.getD tn 2 = 1
    · rw [if_pos c1]
      rw [c1] at hat
      exact ⟨⟨rfl, Nat.le_refl _, fun _ ho hs => ⟨k, hs, tn, ht, ho tn hat⟩, (fun h => by cases h), (fun h => by cases h)⟩, (fun h => by cases h)⟩
    · rw [if_neg c1]
      by_cases c0 : wh.getD tn 2 = 0
      · rw [if_pos c0]
        rw [c0] at hat
        obtain ⟨F, f4⟩ := hf tn wh (by simpa using hS) hl hat hm
        cases hb : (f tn wh).1 with
        | true =>
          rw [if_pos rfl]
          exact ⟨⟨F.len, F.few, fun _ ho hs => F.yes hb (fun u hu => (ho u hu).step ht) (hs.step ht), (fun h => by cases h), (fun h => by cases h)⟩, (fun h => by cases h)⟩
        | false =>
          simp only [Bool.false_eq_true, if_false]
          obtain ⟨I, i4⟩ := loop_tells hf ts (f tn wh).2 (F.len.trans hl) (Nat.le_trans F.few hm) hts'
          refine ⟨⟨I.len.trans F.len, Nat.le_trans I.few F.few, fun h ho hs => I.yes h (fun u hu => ho u ((F.same hb u).1 hu)) hs, fun h u => (I.same h u).trans (F.same hb u), fun h hS => ?_⟩, fun h hS x hx => ?_⟩
          · obtain ⟨g1, g2⟩ := F.shut hb hS
            obtain ⟨j1, j2⟩ := I.shut h g1
            exact ⟨j1, fun u hu => j2 u (g2 u hu)⟩
          · obtain ⟨g1, g2⟩ := F.shut hb hS
            rcases List.mem_cons.1 hx with rfl | hx
            · exact (I.shut h g1).2 _ (by simpa using f4 hb hS)
            · exact i4 h g1 x hx
      · rw [if_neg c0]
        obtain ⟨I, i4⟩ := loop_tells hf ts wh hl hm hts'
        refine ⟨I, fun h hS x hx => ?_⟩
        rcases List.mem_cons.1 hx with rfl | hx
        · rcases hS.col tn _ hat with e | e | e
          · exact absurd e c0
          · exact absurd e c1
          · rw [e] at hat
            exact (I.shut h hS).2 _ (by simpa using hat)
        · exact i4 h hS x hx
theorem comes_tells {s n : Nat} {S : Nat → Prop} (hA : Within A n S) : ∀ (m k : Nat) (wh : List Int), S k → wh.length = n → wh[k]? = some 0 → fresh wh ≤ m →
    Tells A s k wh (comesG A m k wh) ∧ ((comesG A m k wh).1 = false → Shut A wh → (comesG A m k wh).2[k]? = some 2)
  | 0, k, wh, hSk, hl, hk, hm => by have := (fresh_set wh k 1 (by decide)).2 hk; omega
  | m + 1, k, wh, hSk, hl, hk, hm => by
    have hkl : k < wh.length := (List.getElem?_eq_some_iff.1 hk).1
    have hfr := (fresh_set wh k 1 (by decide)).2 hk
    obtain ⟨I, i4⟩ := loop_tells (s := s) (k := k) (fun t wh => comes_tells hA m t wh) (A k) (wh.set k 1) (by simpa using hl) (by omega) (fun t ht => ⟨ht, hA k t hSk ht⟩)
    unfold comesG
    cases hb : (loopC (comesG A m) (A k) (wh.set k 1)).1 with
    | true =>
      rw [if_pos rfl]
      refine ⟨⟨by simpa using I.len, Nat.le_trans I.few (by omega), fun _ ho hs => I.yes hb (fun u hu => ?_) hs, (fun h => by cases h), (fun h => by cases h)⟩, (fun h => by cases h)⟩
      by_cases e : u = k
      · subst e; exact Conn.rfl' _
      · rw [List.getElem?_set_ne (Ne.symm e)] at hu
        exact ho u hu
    | false =>
      simp only [Bool.false_eq_true, if_false]
      have hlen : ((loopC (comesG A m) (A k) (wh.set k 1)).2).length = wh.length := by simpa using I.len
      have hopen : ((loopC (comesG A m) (A k) (wh.set k 1)).2)[k]? = some 1 := (I.same hb k).2 (by rw [List.getElem?_set_self hkl])
      have hsame := I.same hb
      have hshut := I.shut hb
      have hall := i4 hb
      have hfew := I.few
      clear i4 I hb
      generalize (loopC (comesG A m) (A k) (wh.set k 1)).2 = W at *
      have hk2 : (W.set k 2)[k]? = some 2 := List.getElem?_set_self (by omega)
      refine ⟨⟨by simpa using hlen, Nat.le_trans (fresh_set W k 2 (by decide)).1 (by omega), (fun h => by cases h), fun _ u => ?_, fun _ hS => ?_⟩, fun _ hS => hk2⟩
      · by_cases e : u = k
        · subst e
          rw [hk2, hk]
          simp
        · rw [List.getElem?_set_ne (Ne.symm e), hsame u, List.getElem?_set_ne (Ne.symm e)]
      · have hS1 : Shut A (wh.set k 1) := by
          refine ⟨fun u x hx => ?_, fun u t hu ht => ?_, fun u hu => ?_⟩
          · by_cases e : u = k
            · subst e
              rw [List.getElem?_set_self hkl] at hx
              injection hx with hx
              exact .inr (.inl hx.symm)
            · rw [List.getElem?_set_ne (Ne.symm e)] at hx
              exact hS.col u x hx
          · have e : u ≠ k := by
              rintro rfl
              rw [List.getElem?_set_self hkl] at hu
              simp at hu
            rw [List.getElem?_set_ne (Ne.symm e)] at hu
            have h2 := hS.on u t hu ht
            have e2 : t ≠ k := by
              rintro rfl
              rw [hk] at h2
              simp at h2
            rw [List.getElem?_set_ne (Ne.symm e2)]
            exact h2
          · have e : u ≠ k := by
              rintro rfl
              rw [List.getElem?_set_self hkl] at hu
              simp at hu
            rw [List.getElem?_set_ne (Ne.symm e)] at hu
            exact hS.no u hu
        obtain ⟨g1, g2⟩ := hshut hS1
        have ha := hall hS1
        have keep : ∀ u : Nat, W[u]? = some 2 → (W.set k 2)[u]? = some 2 := fun u hu => by
          by_cases e : u = k
          · subst e; exact hk2
          · rw [List.getElem?_set_ne (Ne.symm e)]; exact hu
        have hon : ∀ t : Nat, (t : Int) ∈ A k → W[t]? = some 2 := fun t ht => by simpa using ha t ht
        refine ⟨⟨fun u x hx => ?_, fun u t hu ht => ?_, fun u hu => ?_⟩, fun u hu => ?_⟩
        · by_cases e : u = k
          · subst e
            rw [hk2] at hx
            injection hx with hx
            exact .inr (.inr hx.symm)
          · rw [List.getElem?_set_ne (Ne.symm e)] at hx
            exact g1.col u x hx
        · by_cases e : u = k
          · subst e; exact keep t (hon t ht)
          · rw [List.getElem?_set_ne (Ne.symm e)] at hu
            exact keep t (g1.on u t hu ht)
        · by_cases e : u = k
          · subst e
            rintro ⟨j, hj, hc⟩
            have := g1.conn (hon j hj) hc
            rw [hopen] at this
            simp at this
          · rw [List.getElem?_set_ne (Ne.symm e)] at hu
            exact g1.no u hu
        · by_cases e : u = k
          · subst e; exact hk2
          · exact keep u (g2 u (by rw [List.getElem?_set_ne (Ne.symm e)]; exact hu))
theorem shut_zeros (A : Nat → List Int) (n : Nat) : Shut A (List.replicate n 0) := by
  refine ⟨fun u x hx => ?_, fun u t hu => ?_, fun u hu => ?_⟩
  · rw [List.getElem?_replicate] at hx
    split at hx
    · injection hx with hx; exact .inl hx.symm
    · cases hx
  · rw [List.getElem?_replicate] at hu
    split at hu <;> simp at hu
  · rw [List.getElem?_replicate] at hu
    split at hu <;> simp at hu
theorem fresh_le : ∀ l : List Int, fresh l ≤ l.length
  | [] => Nat.le_refl _
  | x :: xs => by have := fresh_le xs; simp only [fresh, List.length_cons]; split <;> omega
/-- The search for loops finds one if there is one, and only then. -/
theorem comes_iff {n : Nat} {S : Nat → Prop} (hA : Within A n S) (h0 : S 0) (hn : 0 < n) : (comesG A n 0 (List.replicate n 0)).1 = true ↔ ∃ i, Conn A 0 i ∧ Back A i := by
  obtain ⟨T, t2⟩ := comes_tells (s := 0) hA n 0 (List.replicate n 0) h0 (by simp) (by simp [hn]) (by have := fresh_le (List.replicate n 0); simpa using this)
  constructor
  · intro h
    refine T.yes h (fun u hu => ?_) (Conn.rfl' _)
    rw [List.getElem?_replicate] at hu
    split at hu <;> simp at hu
  · rintro ⟨i, hi, hb⟩
    cases hc : (comesG A n 0 (List.replicate n 0)).1 with
    | true => rfl
    | false =>
      have hS := shut_zeros A n
      have h1 := T.shut hc hS
      exact absurd hb (h1.1.no i (h1.1.conn (t2 hc hS) hi))
end
end Go.Proofs.Ytkogkcjiachphaa
