/- Maps of layer 9: what Put and Drop do, map by map. -/
import Derived.Test.YtjimmbcihcmfoaaTabM
namespace Go.Proofs.Ytjimmbcihcmfoaa
open Go.RowKit
set_option linter.unusedVariables false
set_option linter.unusedSimpArgs false

/-- What Put does to one map: the map behind it, the slot that gets the value, what is told. -/
def putT (t : TM) (k : ByteArray) (n : Nat) (flags : Int) : TM × Option Nat × Int × Int :=
  if (n : Int) ≠ t.val then (t, none, 0, 1)
  else if 2 < flags then (t, none, 18446744073709551594, 0)
  else match t.slots.lookup k with
    | some s => if flags = 1 then (t, none, 18446744073709551599, 0) else (t, some s, 0, 0)
    | none => if t.hash = false then (t, none, 18446744073709551609, 0) else if flags = 2 then (t, none, 18446744073709551614, 0) else if t.max ≤ t.slots.length then (t, none, 18446744073709551609, 0) else
      if 1024 ≤ t.made then (t, none, 18446744073709551604, 0) else (addSlot t k, some t.made, 0, 0)
def dropT (t : TM) (k : ByteArray) : TM × Int × Int :=
  if t.hash = false then (t, 18446744073709551594, 0) else
    match t.slots.lookup k with
    | none => (t, 18446744073709551614, 0)
    | some _ => ({ t with slots := t.slots.eraseP fun p => p.1 == k }, 0, 0)
/-- One map is another; one slot has another value. -/
structure Eff (V V' : Areas × List TM) (i : Nat) (t' : TM) (o : Option Nat) (vs : List Int) : Prop where
  wf : Wf V'
  maps : V'.2 = V.2.set i t'
  areas : ∀ n, V'.1.lookup n = if ∃ s, o = some s ∧ n = tarea i s then some (fullA vs) else V.1.lookup n
  slot : ∀ s, o = some s → s < 1024
theorem set_self {α : Type} {L : List α} {i : Nat} {x : α} (h : L[i]? = some x) : L.set i x = L := by
  apply List.ext_getElem?
  intro j
  rw [List.getElem?_set]
  by_cases e : i = j
  · subst e; rw [if_pos rfl, if_pos (List.getElem?_eq_some_iff.1 h).1, h]
  · rw [if_neg e]
theorem eff_none {V : Areas × List TM} (h : Wf V) {i : Nat} {t : TM} (hp : V.2[i]? = some t) (vs : List Int) : Eff V V i t none vs :=
  ⟨h, (set_self hp).symm, fun n => by simp, fun s h => by cases h⟩
theorem tfind_no {T : List TM} {i : Int} {n : Nat} (h : ∀ (j : Nat) t, i = j → T[j]? = some t → (n : Int) ≠ t.key) : tfind T i n = none := by
  unfold tfind
  cases hp : pick T i with
  | none => rfl
  | some t =>
    obtain ⟨j, e, hj⟩ := pick_some hp
    simp only [Option.bind_some]
    rw [if_neg (h j t e hj)]
theorem tfind_at {T : List TM} {i : Nat} {n : Nat} {t : TM} (hp : T[i]? = some t) (hk : (n : Int) = t.key) : tfind T i n = some t := by
  unfold tfind
  rw [pick_nat, hp]
  simp only [Option.bind_some]
  rw [if_pos hk]
/-- The map that is meant, if there is one. -/
theorem tfind_cases (T : List TM) (i : Int) (n : Nat) : tfind T i n = none ∨ ∃ (j : Nat) (t : TM), i = j ∧ T[j]? = some t ∧ (n : Int) = t.key := by
  unfold tfind
  cases hp : pick T i with
  | none => exact .inl rfl
  | some t =>
    obtain ⟨j, e, hj⟩ := pick_some hp
    simp only [Option.bind_some]
    by_cases hk : (n : Int) = t.key
    · exact .inr ⟨j, t, e, hj, hk⟩
    · exact .inl (if_neg hk)
theorem tput_no {V : Areas × List TM} {i : Int} {ks vs : List Int} {flags : Int} (h : tfind V.2 i ks.length = none) : tput V i ks vs flags = (V, 0, 1) := by rw [tput, h]
theorem tdrop_no {T : List TM} {i : Int} {ks : List Int} (h : tfind T i ks.length = none) : tdrop T i ks = (T, 0, 1) := by rw [tdrop, h]
theorem tput_spec {V : Areas × List TM} (h : Wf V) {i : Nat} {ks vs : List Int} (flags : Int) {t : TM} (hp : V.2[i]? = some t) (hk : (ks.length : Int) = t.key) (hu : ∀ q ∈ vs, 0 ≤ q ∧ q ≤ 255) :
    (tput V i ks vs flags).2 = (putT t (strOfNums ks) vs.length flags).2.2 ∧ Eff V (tput V i ks vs flags).1 i (putT t (strOfNums ks) vs.length flags).1 (putT t (strOfNums ks) vs.length flags).2.1 vs := by
  have ht := h.maps t (List.mem_of_getElem? hp)
  have hmd := ht.made
  rw [tput, tfind_at hp hk, putT]
  simp only
  by_cases h1 : (vs.length : Int) ≠ t.val
  · rw [if_pos h1, if_pos h1]; exact ⟨rfl, eff_none h hp vs⟩
  rw [if_neg h1, if_neg h1]
  have h1' : (vs.length : Int) = t.val := Classical.not_not.1 h1
  by_cases h2 : 2 < flags
  · rw [if_pos h2, if_pos h2]; exact ⟨rfl, eff_none h hp vs⟩
  rw [if_neg h2, if_neg h2]
  cases hl : t.slots.lookup (strOfNums ks) with
  | some s =>
    simp only
    by_cases h3 : flags = 1
    · rw [if_pos h3, if_pos h3]; exact ⟨rfl, eff_none h hp vs⟩
    rw [if_neg h3, if_neg h3]
    have hs := over_spec h hp hl h1' hu
    refine ⟨rfl, hs.1, (set_self hp).symm, fun n => ?_, fun s' e => ?_⟩
    · simp only
      rw [hs.2]
      by_cases e : n = tarea i s
      · rw [if_pos e, if_pos ⟨s, rfl, e⟩]
      · rw [if_neg e, if_neg (fun ⟨s', e1, e2⟩ => by injection e1 with e1; subst e1; exact e e2)]
    · injection e with e
      have := ht.slots _ (lookup_mem' hl)
      simp only at this
      omega
  | none =>
    simp only
    by_cases h3 : t.hash = false
    · rw [if_pos h3, if_pos h3]; exact ⟨rfl, eff_none h hp vs⟩
    rw [if_neg h3, if_neg h3]
    by_cases h4 : flags = 2
    · rw [if_pos h4, if_pos h4]; exact ⟨rfl, eff_none h hp vs⟩
    rw [if_neg h4, if_neg h4]
    by_cases h5 : t.max ≤ t.slots.length
    · rw [if_pos h5, if_pos h5]; exact ⟨rfl, eff_none h hp vs⟩
    rw [if_neg h5, if_neg h5]
    by_cases h6 : 1024 ≤ t.made
    · rw [if_pos h6]
      have : tslot V i (strOfNums ks) vs = none := by rw [tslot, pick_nat, hp]; simp only; rw [if_pos h6]
      rw [this]
      exact ⟨rfl, eff_none h hp vs⟩
    · rw [if_neg h6]
      obtain ⟨M', e1, e2, e3⟩ := tslot_spec h hp hl h1' (by omega) (by rw [strOf_size]; exact hk) (by omega)
      rw [e1]
      refine ⟨rfl, e2, rfl, fun n => ?_, fun s' e => by injection e with e; omega⟩
      simp only
      rw [e3]
      by_cases e : n = tarea i t.made
      · rw [if_pos e, if_pos ⟨_, rfl, e⟩]
      · rw [if_neg e, if_neg (fun ⟨s', e1, e2⟩ => by injection e1 with e1; subst e1; exact e e2)]
theorem nodup_sub {α : Type} {a b : List α} (h : a.Sublist b) (hn : b.Nodup) : a.Nodup := List.Nodup.sublist h hn
theorem dropT_wf {t : TM} (h : MapWf t) (k : ByteArray) : MapWf (dropT t k).1 := by
  unfold dropT
  split
  · exact h
  split
  · exact h
  · have hs : (t.slots.eraseP fun p => p.1 == k).Sublist t.slots := List.eraseP_sublist
    exact ⟨h.made, fun p hp => h.slots p (hs.subset hp), (hs.map _).nodup h.keys, (hs.map _).nodup h.nums, h.val, h.max, h.key, by have := h.few; have := hs.length_le; simp only; omega, fun p hp => h.size p (hs.subset hp)⟩
theorem dropT_same (t : TM) (k : ByteArray) : (dropT t k).1.made = t.made ∧ (dropT t k).1.val = t.val := by
  unfold dropT
  split
  · exact ⟨rfl, rfl⟩
  split <;> exact ⟨rfl, rfl⟩
theorem tdrop_spec {V : Areas × List TM} (h : Wf V) {i : Nat} {ks : List Int} {t : TM} (hp : V.2[i]? = some t) (hk : (ks.length : Int) = t.key) (vs : List Int) :
    (tdrop V.2 i ks).2 = (dropT t (strOfNums ks)).2 ∧ Eff V (V.1, (tdrop V.2 i ks).1) i (dropT t (strOfNums ks)).1 none vs := by
  have ht := h.maps t (List.mem_of_getElem? hp)
  have hi : i < V.2.length := (List.getElem?_eq_some_iff.1 hp).1
  have e : (tdrop V.2 i ks).1 = V.2.set i (dropT t (strOfNums ks)).1 ∧ (tdrop V.2 i ks).2 = (dropT t (strOfNums ks)).2 := by
    rw [tdrop, tfind_at hp hk, dropT]
    simp only
    by_cases h3 : t.hash = false
    · rw [if_pos h3, if_pos h3]; exact ⟨(set_self hp).symm, rfl⟩
    rw [if_neg h3, if_neg h3]
    cases hl : t.slots.lookup (strOfNums ks) with
    | none => exact ⟨(set_self hp).symm, rfl⟩
    | some s => exact ⟨by simp only [Int.toNat_natCast], rfl⟩
  refine ⟨e.2, ?_, e.1, fun n => by simp, fun s h => by cases h⟩
  rw [e.1]
  have hw := dropT_wf ht (strOfNums ks)
  obtain ⟨d1, d2⟩ := dropT_same t (strOfNums ks)
  refine ⟨by simp; exact h.few, fun t' ht' => ?_, fun j r t' ht' hr => ?_, fun j r hj hr hf => ?_⟩
  · rcases List.mem_or_eq_of_mem_set ht' with h1 | rfl
    · exact h.maps t' h1
    · exact hw
  · simp only at ht'
    by_cases hj : j = i
    · subst hj
      rw [List.getElem?_set_self hi] at ht'
      injection ht' with ht'
      subst ht'
      rw [d2]
      exact h.areas j r t hp (by rw [d1] at hr; exact hr)
    · rw [List.getElem?_set_ne (by omega)] at ht'
      exact h.areas j r t' ht' hr
  · simp only at hf
    refine h.free j r hj hr (fun t' ht' => ?_)
    by_cases hji : j = i
    · subst hji
      rw [hp] at ht'
      injection ht' with ht'
      subst ht'
      rw [← d1]
      exact hf _ (List.getElem?_set_self hi)
    · exact hf t' (by rw [List.getElem?_set_ne (by omega)]; exact ht')
/-- Maps that are alike, and areas, hold alike. -/
theorem titems_congr {V V' : Areas × List TM} (h : Wf V) {i : Nat} (hm : V.2[i]? = V'.2[i]?) (ha : ∀ s : Nat, s < 1024 → V.1.lookup (tarea i s) = V'.1.lookup (tarea i s)) : titems V i = titems V' i := by
  unfold titems
  rw [pick_nat, pick_nat, ← hm]
  cases hp : V.2[i]? with
  | none => rfl
  | some t =>
    simp only
    apply List.map_congr_left
    intro k hk
    have ht := h.maps t (List.mem_of_getElem? hp)
    obtain ⟨s, hs⟩ := lookup_some_mem ((sortK_perm _).mem_iff.1 hk)
    have h1 := ht.slots _ (lookup_mem' hs)
    have h2 := ht.made
    simp only at h1
    rw [hs]
    simp only [Option.getD_some]
    rw [marea_of (ha s (by omega)).symm]
/-- A store of any bytes, at one place of the first area of a map, or anywhere else: nothing else. -/
theorem eff_other {V V' : Areas × List TM} {i j : Nat} {t' : TM} {o : Option Nat} {vs : List Int} (e : Eff V V' i t' o vs) (hj : j ≠ i) : V'.2[j]? = V.2[j]? ∧ ∀ s : Nat, s < 1024 → V'.1.lookup (tarea j s) = V.1.lookup (tarea j s) := by
  refine ⟨by rw [e.maps, List.getElem?_set_ne (by omega)], fun s hs => ?_⟩
  rw [e.areas, if_neg (fun ⟨s', h1, h2⟩ => hj (tarea_inj hs (e.slot s' h1) h2).1)]
/-- The same done to two. -/
theorem eff_both {A A' B B' : Areas × List TM} {i : Nat} {t' : TM} {o : Option Nat} {vs : List Int} (a : Eff A A' i t' o vs) (b : Eff B B' i t' o vs) (hl : A.2.length = B.2.length) {j : Nat} (hm : A.2[j]? = B.2[j]?) (ha : ∀ s : Nat, s < 1024 → A.1.lookup (tarea j s) = B.1.lookup (tarea j s)) :
    A'.2[j]? = B'.2[j]? ∧ ∀ s : Nat, s < 1024 → A'.1.lookup (tarea j s) = B'.1.lookup (tarea j s) := by
  refine ⟨?_, fun s hs => ?_⟩
  · rw [a.maps, b.maps, List.getElem?_set, List.getElem?_set, hl, hm]
  · rw [a.areas, b.areas, ha s hs]
/-- What an act does: it drops, or puts. -/
def actT (t : TM) (del : Bool) (k : ByteArray) (n : Nat) (flags : Int) : TM × Option Nat := if del then ((dropT t k).1, none) else ((putT t k n flags).1, (putT t k n flags).2.1)
def actV (V : Areas × List TM) (del : Bool) (i : Int) (ks vs : List Int) (flags : Int) : Areas × List TM := if del then (V.1, (tdrop V.2 i ks).1) else (tput V i ks vs flags).1
theorem actV_no {V : Areas × List TM} {i : Int} {ks : List Int} (h : tfind V.2 i ks.length = none) (del : Bool) (vs : List Int) (flags : Int) : actV V del i ks vs flags = V := by
  unfold actV
  cases del
  · simp only [Bool.false_eq_true, if_false]; rw [tput_no h]
  · simp only [if_true]; rw [tdrop_no h]
theorem actV_at {V : Areas × List TM} (h : Wf V) {i : Nat} {ks : List Int} {t : TM} (hp : V.2[i]? = some t) (hk : (ks.length : Int) = t.key) (del : Bool) {vs : List Int} (hu : ∀ q ∈ vs, 0 ≤ q ∧ q ≤ 255) (flags : Int) :
    Eff V (actV V del i ks vs flags) i (actT t del (strOfNums ks) vs.length flags).1 (actT t del (strOfNums ks) vs.length flags).2 vs := by
  unfold actV actT
  cases del
  · simp only [Bool.false_eq_true, if_false]; exact (tput_spec h flags hp hk hu).2
  · simp only [if_true]; exact (tdrop_spec h hp hk vs).2
theorem actV_cases {V : Areas × List TM} (h : Wf V) (i : Int) (ks : List Int) (del : Bool) {vs : List Int} (hu : ∀ q ∈ vs, 0 ≤ q ∧ q ≤ 255) (flags : Int) :
    actV V del i ks vs flags = V ∨ ∃ (j : Nat) (t : TM), i = j ∧ V.2[j]? = some t ∧ Eff V (actV V del i ks vs flags) j (actT t del (strOfNums ks) vs.length flags).1 (actT t del (strOfNums ks) vs.length flags).2 vs := by
  rcases tfind_cases V.2 i ks.length with h0 | ⟨j, t, rfl, hp, hk⟩
  · exact .inl (actV_no h0 del vs flags)
  · exact .inr ⟨j, t, rfl, hp, actV_at h hp hk del hu flags⟩
end Go.Proofs.Ytjimmbcihcmfoaa
