/- Maps of layer 9: plain laws of what is put, dropped and looked for. -/
import Derived.Test.YtjimmbcihcmfoaaTabI
namespace Go.Proofs.Ytjimmbcihcmfoaa
open Go.RowKit
set_option linter.unusedVariables false
set_option linter.unusedSimpArgs false

section
variable {α : Type}
theorem lookup_setKey (M : List (Int × α)) (a : Int) (x : α) (b : Int) : (setKey M a x).lookup b = if b = a then (M.lookup b).map fun _ => x else M.lookup b := by
  induction M with
  | nil => simp [setKey]
  | cons p M ih =>
    obtain ⟨m, y⟩ := p
    have e : setKey ((m, y) :: M) a x = (if m == a then (m, x) else (m, y)) :: setKey M a x := rfl
    rw [e]
    by_cases hm : m = a
    · subst hm
      simp only [beq_self_eq_true, if_true, List.lookup]
      by_cases hb : b = m
      · subst hb; simp
      · have : (b == m) = false := by simpa using hb
        simp only [this]
        rw [ih]
    · have h1 : (m == a) = false := by simpa using hm
      simp only [h1, Bool.false_eq_true, if_false, List.lookup]
      by_cases hb : b = m
      · subst hb; simp [hm]
      · have : (b == m) = false := by simpa using hb
        simp only [this]
        exact ih
theorem lookup_snoc {κ : Type} [BEq κ] (M : List (κ × α)) (a : κ) (x : α) (b : κ) : (M ++ [(a, x)]).lookup b = (M.lookup b).or (if b == a then some x else none) := by
  induction M with
  | nil => simp only [List.nil_append, List.lookup]; cases (b == a) <;> rfl
  | cons p M ih =>
    obtain ⟨m, y⟩ := p
    simp only [List.cons_append, List.lookup]
    cases (b == m)
    · exact ih
    · rfl
end
theorem lookup_no {α : Type} {L : List (ByteArray × α)} {s : ByteArray} (h : L.lookup s = none) : ∀ q ∈ L, q.1 ≠ s := by
  intro q hq e
  induction L with
  | nil => cases hq
  | cons p L ih =>
    obtain ⟨m, u⟩ := p
    by_cases hm : s = m
    · subst hm; simp [List.lookup] at h
    · simp only [List.lookup, ba_ne hm] at h
      rcases List.mem_cons.1 hq with rfl | hq
      · exact hm e.symm
      · exact ih h hq
/-- What a store of one byte does to an area. -/
def storeA (o : Option Ar) (k n : Int) : Option Ar :=
  match o with
  | none => none
  | some A => if (A.bytes.length : Int) < k ∨ (A.bytes.length : Int) - k < 1 then some A else if A.fixed = true then some A else some (A.write k.toNat (bytesOf n 1))
theorem store_lookup (M : Areas) (a : Int) (k : Nat) (n : Int) (h0 : 0 ≤ a) (h1 : a < 4294967296) (hk : k < 4294967296) (b : Int) :
    (mstore M (mat a k) 1 n).1.lookup b = if b = a then storeA (M.lookup a) k n else M.lookup b := by
  obtain ⟨e1, e2⟩ := mat_parts h0 h1 hk
  have hs : sized 1 = true := by rfl
  rw [mstore, if_pos hs]
  simp only [mfind, e1, e2]
  cases hl : M.lookup a with
  | none =>
    simp only [storeA]
    by_cases hb : b = a
    · subst hb; rw [if_pos rfl, hl]
    · rw [if_neg hb]
  | some A =>
    simp only [storeA]
    by_cases hr : (A.bytes.length : Int) < k ∨ (A.bytes.length : Int) - k < 1
    · rw [if_pos hr, if_pos hr]
      simp only
      by_cases hb : b = a
      · subst hb; rw [if_pos rfl, hl]
      · rw [if_neg hb]
    · rw [if_neg hr, if_neg hr]
      simp only
      by_cases hf : A.fixed = true
      · rw [if_pos hf, if_pos hf]
        by_cases hb : b = a
        · subst hb; rw [if_pos rfl, hl]
        · rw [if_neg hb]
      · rw [if_neg hf, if_neg hf]
        simp only
        rw [lookup_setKey]
        by_cases hb : b = a
        · subst hb; rw [if_pos rfl, if_pos rfl, hl]; rfl
        · rw [if_neg hb, if_neg hb]
def putsA (o : Option Ar) (vs : List Int) : Nat → Option Ar
  | 0 => o
  | k + 1 => storeA (putsA o vs k) k (vs.getD k 0)
theorem puts_lookup (M : Areas) (a : Int) (vs : List Int) (h0 : 0 ≤ a) (h1 : a < 4294967296) (k : Nat) (hk : k ≤ 4294967296) (b : Int) :
    (mputs M a vs k).lookup b = if b = a then putsA (M.lookup a) vs k else M.lookup b := by
  induction k generalizing b with
  | zero =>
    simp only [mputs, putsA]
    by_cases hb : b = a
    · subst hb; rw [if_pos rfl]
    · rw [if_neg hb]
  | succ k ih =>
    simp only [mputs, putsA]
    rw [store_lookup _ _ _ _ h0 h1 (by omega), ih (by omega), if_pos rfl]
    by_cases hb : b = a
    · rw [if_pos hb, if_pos hb]
    · rw [if_neg hb, if_neg hb, ih (by omega), if_neg hb]
theorem puts_all (A : Ar) (vs : List Int) (hl : A.bytes.length = vs.length) (hp : A.put.length = vs.length) (hf : A.fixed = false) (hu : ∀ q ∈ vs, 0 ≤ q ∧ q ≤ 255) (k : Nat) (hk : k ≤ vs.length) :
    putsA (some A) vs k = some ⟨over A.bytes 0 (vs.take k), over A.put 0 (List.replicate k true), false⟩ := by
  induction k with
  | zero => simp only [putsA, List.take_zero, over_nil, List.replicate_zero]; obtain ⟨b, p, f⟩ := A; simp only at hf; subst hf; rfl
  | succ k ih =>
    rw [putsA, ih (by omega)]
    have hlen : (over A.bytes 0 (vs.take k)).length = vs.length := by rw [over_len _ _ _ (by simp; omega), hl]
    have hg : vs.getD k 0 = vs[k] := by simp [List.getD, show k < vs.length by omega]
    have hu' := hu vs[k] (List.getElem_mem _)
    have hb : bytesOf (vs.getD k 0) 1 = [vs[k]] := by
      rw [hg]
      simp only [bytesOf]
      rw [Int.emod_eq_of_lt (by omega) (by omega)]
    simp only [storeA]
    rw [if_neg (by rw [hlen]; omega)]
    simp only [Bool.false_eq_true, if_false]
    congr 1
    rw [hb]
    simp only [Ar.write, Int.toNat_natCast, Ar.mk.injEq, and_true]
    constructor
    · apply List.ext_getElem?
      intro j
      rw [over_at _ _ _ _ (by rw [hlen]; simp; omega), over_at _ _ _ _ (by simp; omega), over_at _ _ _ _ (by simp; omega)]
      simp only [List.length_singleton, List.length_take, Nat.sub_zero, Nat.zero_add]
      rw [Nat.min_eq_left (by omega), Nat.min_eq_left (by omega)]
      by_cases j1 : j < k
      · rw [if_pos j1, if_neg (by omega), if_pos j1, if_neg (by omega), if_pos (by omega), List.getElem?_take_of_lt j1, List.getElem?_take_of_lt (by omega)]
      · rw [if_neg j1]
        by_cases j2 : j = k
        · subst j2
          rw [if_pos (by omega), Nat.sub_self, if_neg (by omega), if_pos (by omega), List.getElem?_take_of_lt (by omega)]
          simp [show j < vs.length by omega]
        · rw [if_neg (by omega), if_neg (by omega), if_neg j1, if_neg (by omega), if_neg (by omega)]
    · apply List.ext_getElem?
      intro j
      have hlp : (over A.put 0 (List.replicate k true)).length = vs.length := by rw [over_len _ _ _ (by simp; omega), hp]
      rw [over_at _ _ _ _ (by rw [hlp]; simp; omega), over_at _ _ _ _ (by simp; omega), over_at _ _ _ _ (by simp; omega)]
      simp only [List.map_cons, List.map_nil, List.length_singleton, List.length_replicate, Nat.sub_zero, Nat.zero_add]
      by_cases j1 : j < k
      · rw [if_pos j1, if_neg (by omega), if_pos j1, if_neg (by omega), if_pos (by omega)]
        simp [List.getElem?_replicate, j1, show j < k + 1 by omega]
      · rw [if_neg j1]
        by_cases j2 : j = k
        · subst j2
          rw [if_pos (by omega), Nat.sub_self, if_neg (by omega), if_pos (by omega)]
          simp [List.getElem?_replicate]
        · rw [if_neg (by omega), if_neg (by omega), if_neg j1, if_neg (by omega), if_neg (by omega)]
theorem over_all {α : Type} (l s : List α) (h : l.length = s.length) : over l 0 s = s := by
  unfold over
  rw [List.take_zero, List.nil_append, Nat.zero_add, ← h, List.drop_length, List.append_nil]
/-- An area that was put whole. -/
def fullA (vs : List Int) : Ar := ⟨vs, List.replicate vs.length true, false⟩
theorem puts_full (A : Ar) (vs : List Int) (hl : A.bytes.length = vs.length) (hp : A.put.length = vs.length) (hf : A.fixed = false) (hu : ∀ q ∈ vs, 0 ≤ q ∧ q ≤ 255) : putsA (some A) vs vs.length = some (fullA vs) := by
  rw [puts_all A vs hl hp hf hu _ (Nat.le_refl _), List.take_length, over_all _ _ hl, over_all _ _ (by simp [hp])]
  rfl

/-- What a map is, whatever was done. -/
structure MapWf (t : TM) : Prop where
  made : t.made ≤ 1024
  slots : ∀ p ∈ t.slots, p.2 < t.made
  keys : (t.slots.map (·.1)).Nodup
  nums : (t.slots.map (·.2)).Nodup
  val : 8 ≤ t.val ∧ t.val ≤ 64
  max : 1 ≤ t.max ∧ t.max ≤ 16
  key : 1 ≤ t.key ∧ t.key ≤ 16
  few : (t.slots.length : Int) ≤ t.max
  size : ∀ p ∈ t.slots, (p.1.size : Int) = t.key
structure Wf (V : Areas × List TM) : Prop where
  few : V.2.length ≤ 8
  maps : ∀ t ∈ V.2, MapWf t
  areas : ∀ (i s : Nat) t, V.2[i]? = some t → s < t.made → ∃ A, V.1.lookup (tarea i s) = some A ∧ (A.bytes.length : Int) = t.val ∧ (A.put.length : Int) = t.val ∧ A.fixed = false
  free : ∀ (i s : Nat), i < 8 → s < 1024 → (∀ t, V.2[i]? = some t → t.made ≤ s) → V.1.lookup (tarea i s) = none
theorem Wf.small {V : Areas × List TM} (h : Wf V) : ∀ t ∈ V.2, t.slots.length ≤ 1000 ∧ ∀ p ∈ t.slots, p.1.size ≤ 1000 := fun t ht => by
  have h1 := h.maps t ht
  have h2 := h1.max
  have h3 := h1.few
  have h4 := h1.key
  exact ⟨by omega, fun p hp => by have := h1.size p hp; omega⟩
theorem tarea_inj {i j : Nat} {s r : Nat} (hs : s < 1024) (hr : r < 1024) (h : tarea i s = tarea j r) : i = j ∧ s = r := by
  simp only [tarea] at h
  omega
theorem strOf_size (ks : List Int) : (strOfNums ks).size = ks.length := by
  simp [strOfNums, ByteArray.size]
theorem pick_nat {α : Type} (L : List α) (i : Nat) : pick L (i : Int) = L[i]? := by
  simp only [pick]
  rw [if_neg (by omega), Int.toNat_natCast]
theorem pick_some {α : Type} {L : List α} {i : Int} {x : α} (h : pick L i = some x) : ∃ j : Nat, i = j ∧ L[j]? = some x := by
  unfold pick at h
  split at h
  · cases h
  · exact ⟨i.toNat, by omega, h⟩
/-- A new slot. -/
theorem tslot_spec {V : Areas × List TM} (h : Wf V) {i : Nat} {t : TM} (hp : V.2[i]? = some t) {s : ByteArray} {vs : List Int} (hl : t.slots.lookup s = none) (hv : (vs.length : Int) = t.val) (hm : t.made < 1024) (hz : (s.size : Int) = t.key) (hf : (t.slots.length : Int) < t.max) :
    ∃ M', tslot V i s vs = some (M', V.2.set i (addSlot t s)) ∧ Wf (M', V.2.set i (addSlot t s)) ∧ ∀ n, M'.lookup n = if n = tarea i t.made then some (fullA vs) else V.1.lookup n := by
  have hi : i < V.2.length := (List.getElem?_eq_some_iff.1 hp).1
  have h8 := h.few
  have ht := h.maps t (List.mem_of_getElem? hp)
  have hval := ht.val
  have hfree := h.free i t.made (by omega) hm (fun t' ht' => by rw [hp] at ht'; injection ht' with e; subst e; exact Nat.le_refl _)
  have hmk : mmake V.1 (tarea i t.made) vs false false = (V.1 ++ [(tarea i t.made, fullA vs)], 0) := by
    have : ¬ ((V.1.lookup (tarea i t.made)).isSome = true ∨ tarea i t.made < 1 ∨ 2147483647 < tarea i t.made) := by
      rw [hfree]; simp only [tarea]; simp; omega
    rw [mmake, if_neg this, if_neg (by omega)]
    congr 3
    simp only [fullA, Bool.not_false, List.map_const']
  have hlook : ∀ n, (V.1 ++ [(tarea i t.made, fullA vs)]).lookup n = if n = tarea i t.made then some (fullA vs) else V.1.lookup n := by
    intro n
    rw [lookup_snoc]
    by_cases hn : n = tarea i t.made
    · rw [hn, hfree]; simp
    · rw [if_neg hn]
      have : (n == tarea i t.made) = false := by simpa using hn
      rw [this]; simp
  refine ⟨V.1 ++ [(tarea i t.made, fullA vs)], ?_, ?_, hlook⟩
  · simp only [tslot, pick_nat, hp]
    rw [if_neg (by omega), hmk]
    simp
  · refine ⟨by simp; exact h8, ?_, ?_, ?_⟩
    · intro t' ht'
      rcases List.mem_or_eq_of_mem_set ht' with h1 | rfl
      · exact h.maps t' h1
      · have hnk : s ∉ t.slots.map (·.1) := by
          intro hs
          obtain ⟨p, hp1, hp2⟩ := List.mem_map.1 hs
          exact lookup_no hl p hp1 hp2
        refine ⟨?_, ?_, ?_, ?_, hval, ht.max, ht.key, ?_, ?_⟩
        · simp only [addSlot]; omega
        · intro p hp1
          simp only [addSlot, List.mem_append, List.mem_singleton] at hp1 ⊢
          rcases hp1 with hp1 | rfl
          · have := ht.slots p hp1; omega
          · simp
        · simp only [addSlot, List.map_append, List.map_cons, List.map_nil]
          rw [List.nodup_append]
          exact ⟨ht.keys, by simp, fun a ha b hb e => by simp at hb; subst hb; subst e; exact hnk ha⟩
        · simp only [addSlot, List.map_append, List.map_cons, List.map_nil]
          rw [List.nodup_append]
          refine ⟨ht.nums, by simp, fun a ha b hb e => ?_⟩
          simp at hb; subst hb; subst e
          obtain ⟨p, hp1, hp2⟩ := List.mem_map.1 ha
          have := ht.slots p hp1
          omega
        · simp only [addSlot, List.length_append, List.length_singleton]; omega
        · intro p hp1
          simp only [addSlot, List.mem_append, List.mem_singleton] at hp1 ⊢
          rcases hp1 with hp1 | rfl
          · exact ht.size p hp1
          · exact hz
    · intro j r t' ht' hr
      simp only at ht' ⊢
      rw [hlook]
      by_cases hj : j = i
      · subst hj
        rw [List.getElem?_set_self hi] at ht'
        injection ht' with ht'
        subst ht'
        simp only [addSlot] at hr ⊢
        by_cases he : r = t.made
        · subst he
          rw [if_pos rfl]
          exact ⟨_, rfl, hv, by simp only [fullA, List.length_replicate]; exact hv, rfl⟩
        · rw [if_neg (fun e => he (tarea_inj (by omega) (by omega) e).2)]
          exact h.areas j r t hp (by omega)
      · rw [List.getElem?_set_ne (by omega)] at ht'
        have hmd := (h.maps t' (List.mem_of_getElem? ht')).made
        rw [if_neg (fun e => hj (tarea_inj (by omega) (by omega) e).1)]
        exact h.areas j r t' ht' hr
    · intro j r hj8 hr hfr
      simp only at hfr ⊢
      rw [hlook]
      by_cases hj : j = i
      · subst hj
        have h1 := hfr _ (List.getElem?_set_self hi)
        simp only [addSlot] at h1
        rw [if_neg (fun e => by have := (tarea_inj (by omega) (by omega) e).2; omega)]
        exact h.free j r hj8 hr (fun t' ht' => by rw [hp] at ht'; injection ht' with e; subst e; omega)
      · rw [if_neg (fun e => hj (tarea_inj (by omega) (by omega) e).1)]
        exact h.free j r hj8 hr (fun t' ht' => hfr t' (by rw [List.getElem?_set_ne (by omega)]; exact ht'))
end Go.Proofs.Ytjimmbcihcmfoaa
