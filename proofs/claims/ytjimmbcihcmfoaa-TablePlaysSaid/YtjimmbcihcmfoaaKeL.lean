/- TableKeeps: the plain law. -/
import Derived.Test.YtjimmbcihcmfoaaStL
namespace Go.Proofs.Ytjimmbcihcmfoaa
open Go.RowKit
set_option linter.unusedVariables false
set_option linter.unusedSimpArgs false

theorem nums_str {xs : List Int} (h : ∀ q ∈ xs, 0 ≤ q ∧ q ≤ 255) : numsK (strOfNums xs) = xs := by
  simp only [numsK, strOfNums, List.map_map]
  conv => rhs; rw [← List.map_id xs]
  apply List.map_congr_left
  intro x hx
  have := h x hx
  simp
  omega
theorem numsK_len (k : ByteArray) : (numsK k).length = k.size := by rw [numsK, List.length_map]; exact Array.length_toList
theorem numsK_rng (k : ByteArray) : ∀ q ∈ numsK k, 0 ≤ q ∧ q ≤ 255 := by
  intro q hq
  simp only [numsK, List.mem_map] at hq
  obtain ⟨b, -, rfl⟩ := hq
  have := b.toNat_lt
  omega
theorem lookup_setKeyB {α : Type} (M : List (ByteArray × α)) (a : ByteArray) (x : α) (b : ByteArray) : (setKey M a x).lookup b = if b = a then (M.lookup b).map fun _ => x else M.lookup b := by
  induction M with
  | nil => simp [setKey]
  | cons p M ih =>
    obtain ⟨m, y⟩ := p
    have e : setKey ((m, y) :: M) a x = (if m == a then (m, x) else (m, y)) :: setKey M a x := rfl
    rw [e]
    by_cases hm : m = a
    · subst hm
      simp only [beq_self_eq_true, if_true, List.lookup]
      by_cases hb : b = m
      · subst hb; simp
      · simp only [ba_ne hb]
        rw [ih]
    · simp only [ba_ne hm, Bool.false_eq_true, if_false, List.lookup]
      by_cases hb : b = m
      · subst hb; simp [hm]
      · simp only [ba_ne hb]
        exact ih
theorem lookup_putKey (L : Strs) (s : ByteArray) (x : Value) (k : ByteArray) : (putKey L s x).lookup k = if k = s then some x else L.lookup k := by
  unfold putKey
  by_cases h : (L.lookup s).isSome = true
  · rw [if_pos h, lookup_setKeyB]
    by_cases hk : k = s
    · subst hk
      rw [if_pos rfl, if_pos rfl]
      obtain ⟨y, hy⟩ := Option.isSome_iff_exists.1 h
      rw [hy]; rfl
    · rw [if_neg hk, if_neg hk]
  · rw [if_neg h, lookup_snoc]
    by_cases hk : k = s
    · subst hk
      rw [if_pos rfl]
      have : L.lookup k = none := Option.not_isSome_iff_eq_none.1 h
      simp [this]
    · rw [if_neg hk, ba_ne hk]; simp
theorem lookup_none_of {α : Type} {L : List (ByteArray × α)} {s : ByteArray} (h : ∀ q ∈ L, q.1 ≠ s) : L.lookup s = none := by
  cases hl : L.lookup s with
  | none => rfl
  | some v => exact absurd rfl (h _ (lookup_mem' hl))
theorem lookup_erase {α : Type} {L : List (ByteArray × α)} (hn : (L.map (·.1)).Nodup) (s k : ByteArray) : (L.eraseP fun p => p.1 == s).lookup k = if k = s then none else L.lookup k := by
  by_cases h : k = s
  · subst h
    rw [if_pos rfl]
    apply lookup_none_of
    intro q hq e
    have hs : (L.eraseP fun p => p.1 == k).Sublist L := List.eraseP_sublist
    induction L with
    | nil => simp at hq
    | cons p L ih =>
      rw [List.map_cons, List.nodup_cons] at hn
      by_cases hp : p.1 = k
      · rw [List.eraseP_cons_of_pos (by simpa using hp)] at hq
        exact hn.1 (List.mem_map.2 ⟨q, hq, e.trans hp.symm⟩)
      · rw [List.eraseP_cons_of_neg (by simpa using hp)] at hq
        rcases List.mem_cons.1 hq with rfl | hq
        · exact hp e
        · exact ih hn.2 hq List.eraseP_sublist
  · rw [if_neg h]
    exact lookup_erase_ne (fun e => h e.symm)
/-- What a key has behind a Put. -/
theorem put_tval {V V' : Areas × List TM} (h : Wf V) {t : TM} (hp : V.2[0]? = some t) {k : ByteArray} {n : Nat} {flags : Int} {vs : List Int} (e : Eff V V' 0 (putT t k n flags).1 (putT t k n flags).2.1 vs) (k' : ByteArray) :
    tval V' 0 k' = if (putT t k n flags).2.1.isSome = true ∧ k' = k then some vs else tval V 0 k' := by
  have ht := h.maps t (List.mem_of_getElem? hp)
  have hmd := ht.made
  have hp' : V'.2[0]? = some (putT t k n flags).1 := by rw [e.maps, List.getElem?_set_self (List.getElem?_eq_some_iff.1 hp).1]
  have hw' := e.wf.maps _ (List.mem_of_getElem? hp')
  have key : ∀ s, (putT t k n flags).1.slots.lookup k' = some s → s < 1024 := fun s hs => by
    have := hw'.slots _ (lookup_mem' hs)
    have := hw'.made
    simp only at *
    omega
  simp only [tval, hp, hp', Option.bind_some]
  by_cases hk : k' = k
  · subst hk
    have : (∃ s, (putT t k' n flags).2.1 = some s ∧ (putT t k' n flags).1.slots.lookup k' = some s) ∨ ((putT t k' n flags).2.1 = none ∧ (putT t k' n flags).1 = t) := by
      unfold putT
      split
      · exact .inr ⟨rfl, rfl⟩
      split
      · exact .inr ⟨rfl, rfl⟩
      cases hl : t.slots.lookup k' with
      | some s =>
        simp only
        split
        · exact .inr ⟨rfl, rfl⟩
        · exact .inl ⟨s, rfl, hl⟩
      | none =>
        simp only
        split
        · exact .inr ⟨rfl, rfl⟩
        split
        · exact .inr ⟨rfl, rfl⟩
        split
        · exact .inr ⟨rfl, rfl⟩
        split
        · exact .inr ⟨rfl, rfl⟩
        · refine .inl ⟨_, rfl, ?_⟩
          simp only [addSlot, lookup_snoc, hl, Option.none_or, beq_self_eq_true, if_true]
    rcases this with ⟨s, h1, h2⟩ | ⟨h1, h2⟩
    · rw [if_pos ⟨by rw [h1]; rfl, rfl⟩, h2, Option.map_some, marea, e.areas, if_pos ⟨s, h1, rfl⟩]
      rfl
    · rw [if_neg (by rw [h1]; simp), h2]
      congr 1
      funext s
      rw [marea_of (M := V.1) (M' := V'.1) (by rw [e.areas, if_neg (by rw [h1]; simp)])]
  · rw [if_neg (fun h => hk h.2)]
    have hsame : (putT t k n flags).1.slots.lookup k' = t.slots.lookup k' := by
      cases hl : t.slots.lookup k' with
      | some s => exact (actT_keep ht hl (fun e => hk e.symm) false n flags).2.2.2.1
      | none =>
        unfold putT
        split
        · exact hl
        split
        · exact hl
        split
        · split <;> exact hl
        · split
          · exact hl
          split
          · exact hl
          split
          · exact hl
          split
          · exact hl
          · simp only [addSlot, lookup_snoc, hl, ba_ne hk]; rfl
    rw [hsame]
    cases hl : t.slots.lookup k' with
    | none => rfl
    | some s =>
      rw [Option.map_some, Option.map_some]
      have hne := (actT_keep ht hl (fun e => hk e.symm) false n flags).2.2.2.2
      simp only [actT, Bool.false_eq_true, if_false] at hne
      rw [marea_of (M := V.1) (M' := V'.1) (by
        rw [e.areas, if_neg (fun ⟨s', h1, h2⟩ => by
          have := (tarea_inj (key s (hsame.trans hl)) (e.slot s' h1) h2).2
          subst this
          exact hne h1)])]
theorem drop_tval {V V' : Areas × List TM} (h : Wf V) {t : TM} (hh : t.hash = true) (hp : V.2[0]? = some t) {k : ByteArray} {vs : List Int} (e : Eff V V' 0 (dropT t k).1 none vs) (k' : ByteArray) :
    tval V' 0 k' = if k' = k then none else tval V 0 k' := by
  have ht := h.maps t (List.mem_of_getElem? hp)
  have hp' : V'.2[0]? = some (dropT t k).1 := by rw [e.maps, List.getElem?_set_self (List.getElem?_eq_some_iff.1 hp).1]
  simp only [tval, hp, hp', Option.bind_some]
  have hs : (dropT t k).1.slots.lookup k' = if k' = k then none else t.slots.lookup k' := by
    unfold dropT
    rw [if_neg (by rw [hh]; simp)]
    cases hl : t.slots.lookup k with
    | none =>
      simp only
      by_cases hk : k' = k
      · rw [if_pos hk, hk, hl]
      · rw [if_neg hk]
    | some s => simp only; exact lookup_erase ht.keys k k'
  rw [hs]
  by_cases hk : k' = k
  · rw [if_pos hk, if_pos hk]; rfl
  · rw [if_neg hk, if_neg hk]
    congr 1
    funext s
    rw [marea_of (M := V.1) (M' := V'.1) (by rw [e.areas, if_neg (by simp)])]
theorem bytesLess_lt : ∀ (x y : List UInt8), Op.bytesLess x y = decide (x < y)
  | [], [] => by simp [Op.bytesLess]
  | _ :: _, [] => by simp [Op.bytesLess]
  | [], _ :: _ => by simp [Op.bytesLess]
  | a :: x, b :: y => by
    rw [Op.bytesLess, bytesLess_lt x y]
    simp only [List.cons_lt_cons_iff]
    by_cases h1 : a < b <;> by_cases h2 : a = b <;> by_cases h3 : x < y <;> simp [h1, h2, h3]
theorem lt_of_le_ne {x y : List UInt8} (h : x ≤ y) (hn : x ≠ y) : x < y := by
  rcases Classical.em (x < y) with h1 | h1
  · exact h1
  · exact absurd (List.le_antisymm h (List.not_lt.1 h1)) hn
/-- Keys that rise, one behind the other. -/
theorem sortK_lt {ks : List ByteArray} (hn : ks.Nodup) {j : Nat} {a b : ByteArray} (ha : (sortK ks)[j]? = some a) (hb : (sortK ks)[j + 1]? = some b) : Op.bytesLess a.toList b.toList = true := by
  have hnd : (sortK ks).Nodup := (sortK_perm ks).nodup_iff.2 hn
  have hs : (((ks.map fun k => k.data.toList).mergeSort leB)).Pairwise (fun x y => leB x y = true) := List.pairwise_mergeSort (fun a b c h1 h2 => by simp only [leB, decide_eq_true_eq] at *; exact List.le_trans h1 h2) (fun a b => by simp only [leB, Bool.or_eq_true, decide_eq_true_eq]; exact List.le_total a b) _
  have hne : a ≠ b := fun e => by
    subst e
    have := (List.getElem?_inj (List.getElem?_eq_some_iff.1 ha).1 hnd).1 (ha.trans hb.symm)
    omega
  simp only [sortK, List.getElem?_map, Option.map_eq_some_iff] at ha hb
  obtain ⟨x, hx, rfl⟩ := ha
  obtain ⟨y, hy, rfl⟩ := hb
  have hle := List.pairwise_iff_getElem.1 hs j (j + 1) (List.getElem?_eq_some_iff.1 hx).1 (List.getElem?_eq_some_iff.1 hy).1 (by omega)
  rw [(List.getElem?_eq_some_iff.1 hx).2, (List.getElem?_eq_some_iff.1 hy).2] at hle
  simp only [leB, decide_eq_true_eq] at hle
  rw [ByteArray.toList_mk, ByteArray.toList_mk, bytesLess_lt, decide_eq_true_eq]
  exact lt_of_le_ne hle (fun e => hne (by rw [e]))

def mayB (fl : Int) (had lt : Bool) : Bool := (fl == 0 && (had || lt)) || (fl == 1 && (!had && lt)) || (fl == 2 && had)
/-- A map and a list of keys and values that are alike. -/
structure KeInv (V : Areas × List TM) (L : Strs) (kd mx : Int) (j : Nat) : Prop where
  wf : Wf V
  one : ∃ t, V.2 = [t] ∧ t.hash = true ∧ t.key = kd ∧ t.val = 8 ∧ t.max = mx ∧ t.made ≤ j
  vals : ∀ k, L.lookup k = (tval V 0 k).map fun bs => Value.string (strOfNums bs)
theorem ke_len {V : Areas × List TM} {L : Strs} {kd mx : Int} {j : Nat} (h : KeInv V L kd mx j) (hn : (L.map (·.1)).Nodup) {t : TM} (ht : V.2 = [t]) : L.length = t.slots.length ∧ ∀ k, (L.lookup k).isSome = (t.slots.lookup k).isSome := by
  have hp : V.2[0]? = some t := by rw [ht]; rfl
  have hs : ∀ k, (L.lookup k).isSome = (t.slots.lookup k).isSome := fun k => by
    rw [h.vals k]
    simp [tval, hp]
  refine ⟨?_, hs⟩
  have hw := h.wf.maps t (List.mem_of_getElem? hp)
  have k1 : ∀ k, k ∈ L.map (·.1) ↔ k ∈ t.slots.map (·.1) := fun k => by
    constructor
    · intro hk
      obtain ⟨x, hx⟩ := lookup_some_mem hk
      have := hs k
      rw [hx] at this
      obtain ⟨y, hy⟩ := Option.isSome_iff_exists.1 this.symm
      exact List.mem_map.2 ⟨_, lookup_mem' hy, rfl⟩
    · intro hk
      obtain ⟨x, hx⟩ := lookup_some_mem hk
      have := hs k
      rw [hx] at this
      obtain ⟨y, hy⟩ := Option.isSome_iff_exists.1 this
      exact List.mem_map.2 ⟨_, lookup_mem' hy, rfl⟩
  have l1 := nodup_len _ _ hn (fun k hk => (k1 k).1 hk)
  have l2 := nodup_len _ _ hw.keys (fun k hk => (k1 k).2 hk)
  simp only [List.length_map] at l1 l2
  omega
theorem ke_drop {V : Areas × List TM} {L : Strs} {kd mx : Int} {j : Nat} (h : KeInv V L kd mx j) (hn : (L.map (·.1)).Nodup) (k : ByteArray) (hk : (k.size : Int) = kd) :
    (∃ r, (tdrop V.2 0 (numsK k)).2 = (r, 0) ∧ (r == 0) = (L.lookup k).isSome) ∧ KeInv (V.1, (tdrop V.2 0 (numsK k)).1) (delKey L k) kd mx (j + 1) := by
  obtain ⟨t, h1, h2, h3, h4, h5, h6⟩ := h.one
  have hp : V.2[0]? = some t := by rw [h1]; rfl
  obtain ⟨e1, e2⟩ := tdrop_spec h.wf (i := 0) (ks := numsK k) hp (by rw [numsK_len, h3]; exact hk) []
  rw [str_numsK, show ((0 : Nat) : Int) = 0 from rfl] at e1 e2
  obtain ⟨-, hs⟩ := ke_len h hn h1
  have hd := dropT_same t k
  have hv := drop_tval h.wf h2 hp e2
  refine ⟨?_, e2.wf, ⟨_, by rw [e2.maps, h1]; rfl, ?_, ?_, ?_, ?_, ?_⟩, fun k' => ?_⟩
  · rw [e1, hs k, dropT, if_neg (by rw [h2]; simp)]
    cases hl : t.slots.lookup k with
    | none => exact ⟨_, rfl, rfl⟩
    | some s => exact ⟨_, rfl, rfl⟩
  · unfold dropT; split
    · exact h2
    split <;> exact h2
  · unfold dropT; split
    · exact h3
    split <;> exact h3
  · rw [hd.2]; exact h4
  · unfold dropT; split
    · exact h5
    split <;> exact h5
  · rw [hd.1]; omega
  · have := hv k'
    rw [this]
    rw [delKey, lookup_erase hn]
    by_cases e : k' = k
    · rw [if_pos e, if_pos e]; rfl
    · rw [if_neg e, if_neg e]; exact h.vals k'
theorem ke_look {V : Areas × List TM} {L : Strs} {kd mx : Int} {j : Nat} (h : KeInv V L kd mx j) (hn : (L.map (·.1)).Nodup) (k : ByteArray) (hk : (k.size : Int) = kd) :
    ∃ r, tlook V.2 0 (numsK k) = (r, 0) ∧ (r == 0) = !(L.lookup k).isSome := by
  obtain ⟨t, h1, h2, h3, h4, h5, h6⟩ := h.one
  have hp : V.2[0]? = some t := by rw [h1]; rfl
  obtain ⟨-, hs⟩ := ke_len h hn h1
  have hw := h.wf.maps t (List.mem_of_getElem? hp)
  have hf := tfind_at (n := (numsK k).length) hp (by rw [numsK_len, h3]; exact hk)
  rw [show ((0 : Nat) : Int) = 0 from rfl] at hf
  rw [tlook, hf, hs k]
  simp only [str_numsK]
  cases hl : t.slots.lookup k with
  | none => exact ⟨_, rfl, rfl⟩
  | some s =>
    have := hw.slots _ (lookup_mem' hl)
    have := hw.made
    refine ⟨_, rfl, ?_⟩
    simp only at *
    simp only [mat, tarea, Option.isSome_some, Bool.not_true]
    simp
    omega
theorem ke_put {V : Areas × List TM} {L : Strs} {kd mx : Int} {j : Nat} (h : KeInv V L kd mx j) (hn : (L.map (·.1)).Nodup) (hj : j < 1024) (k v : ByteArray) (hk : (k.size : Int) = kd) (hv : v.size = 8) (fl : Int) (hf0 : 0 ≤ fl) (hf2 : fl ≤ 2) :
    (∃ r, (tput V 0 (numsK k) (numsK v) fl).2 = (r, 0) ∧ (r == 0) = mayB fl (L.lookup k).isSome (decide ((L.length : Int) < mx))) ∧ KeInv (tput V 0 (numsK k) (numsK v) fl).1 (if mayB fl (L.lookup k).isSome (decide ((L.length : Int) < mx)) = true then putKey L k (.string v) else L) kd mx (j + 1) := by
  obtain ⟨t, h1, h2, h3, h4, h5, h6⟩ := h.one
  have hp : V.2[0]? = some t := by rw [h1]; rfl
  obtain ⟨hl0, hs⟩ := ke_len h hn h1
  obtain ⟨e1, e2⟩ := tput_spec h.wf (i := 0) (ks := numsK k) (vs := numsK v) fl hp (by rw [numsK_len, h3]; exact hk) (numsK_rng v)
  rw [str_numsK, numsK_len, hv, show ((0 : Nat) : Int) = 0 from rfl] at e1 e2
  have hvv := put_tval h.wf hp e2
  have hm : ∃ r, (putT t k 8 fl).2.2 = (r, 0) ∧ (r == 0) = mayB fl (L.lookup k).isSome (decide ((L.length : Int) < mx)) ∧ (putT t k 8 fl).2.1.isSome = mayB fl (L.lookup k).isSome (decide ((L.length : Int) < mx)) ∧ (putT t k 8 fl).1.hash = true ∧ (putT t k 8 fl).1.key = kd ∧ (putT t k 8 fl).1.val = 8 ∧ (putT t k 8 fl).1.max = mx ∧ (putT t k 8 fl).1.made ≤ j + 1 := by
    rw [hs k, hl0, ← h5, putT, if_neg (by rw [h4]; simp), if_neg (by omega)]
    have hfl : fl = 0 ∨ fl = 1 ∨ fl = 2 := by omega
    cases hl : t.slots.lookup k with
    | some s =>
      simp only [Option.isSome_some]
      rcases hfl with rfl | rfl | rfl
      · exact ⟨_, rfl, by simp [mayB], by simp [mayB], h2, h3, h4, rfl, by simp; omega⟩
      · exact ⟨_, rfl, by simp [mayB], by simp [mayB], h2, h3, h4, rfl, by simp; omega⟩
      · exact ⟨_, rfl, by simp [mayB], by simp [mayB], h2, h3, h4, rfl, by simp; omega⟩
    | none =>
      simp only [Option.isSome_none]
      rw [if_neg (by rw [h2]; simp)]
      by_cases hlt : (t.slots.length : Int) < t.max
      · have hd : decide ((t.slots.length : Int) < t.max) = true := by simpa using hlt
        rw [hd, if_neg (by omega : ¬ t.max ≤ t.slots.length), if_neg (by omega : ¬ 1024 ≤ t.made)]
        rcases hfl with rfl | rfl | rfl
        · exact ⟨_, rfl, by simp [mayB], by simp [mayB], h2, h3, h4, rfl, by simp [addSlot]; omega⟩
        · exact ⟨_, rfl, by simp [mayB], by simp [mayB], h2, h3, h4, rfl, by simp [addSlot]; omega⟩
        · exact ⟨_, rfl, by simp [mayB], by simp [mayB], h2, h3, h4, rfl, by simp; omega⟩
      · have hd : decide ((t.slots.length : Int) < t.max) = false := by simpa using hlt
        rw [hd, if_pos (by omega : t.max ≤ t.slots.length)]
        rcases hfl with rfl | rfl | rfl
        · exact ⟨_, rfl, by simp [mayB], by simp [mayB], h2, h3, h4, rfl, by simp; omega⟩
        · exact ⟨_, rfl, by simp [mayB], by simp [mayB], h2, h3, h4, rfl, by simp; omega⟩
        · exact ⟨_, rfl, by simp [mayB], by simp [mayB], h2, h3, h4, rfl, by simp; omega⟩
  obtain ⟨r, m1, m2, m3, m4, m5, m6, m7, m8⟩ := hm
  refine ⟨⟨r, by rw [e1]; exact m1, m2⟩, e2.wf, ⟨_, by rw [e2.maps, h1]; rfl, m4, m5, m6, m7, m8⟩, fun k' => ?_⟩
  have := hvv k'
  rw [this, m3]
  by_cases hm : mayB fl (L.lookup k).isSome (decide ((L.length : Int) < mx)) = true
  · rw [if_pos hm, lookup_putKey]
    by_cases e : k' = k
    · rw [if_pos e, if_pos ⟨hm, e⟩, Option.map_some, str_numsK]
    · rw [if_neg e, if_neg (fun h => e h.2)]; exact h.vals k'
  · rw [if_neg hm, if_neg (fun h => hm h.1)]; exact h.vals k'
/-- What the items are. -/
theorem ke_items {V : Areas × List TM} {L : Strs} {kd mx : Int} {j : Nat} (h : KeInv V L kd mx j) (hn : (L.map (·.1)).Nodup) :
    (titems V 0).length = L.length ∧ (∀ p ∈ titems V 0, L.lookup p.1 = some (.string (strOfNums p.2))) ∧ ∀ i p q, (titems V 0)[i]? = some p → (titems V 0)[i + 1]? = some q → Op.bytesLess p.1.toList q.1.toList = true := by
  obtain ⟨t, h1, h2, h3, h4, h5, h6⟩ := h.one
  have hp : V.2[0]? = some t := by rw [h1]; rfl
  obtain ⟨hl0, hs⟩ := ke_len h hn h1
  have hw := h.wf.maps t (List.mem_of_getElem? hp)
  have hti := titems_eq (V := V) 0 hp
  rw [show ((0 : Nat) : Int) = 0 from rfl] at hti
  rw [hti]
  refine ⟨by rw [List.length_map, (sortK_perm _).length_eq, List.length_map, hl0], fun p hp' => ?_, fun i p q hpi hqi => ?_⟩
  · obtain ⟨k, hk, rfl⟩ := List.mem_map.1 hp'
    obtain ⟨s, hs'⟩ := lookup_some_mem ((sortK_perm _).mem_iff.1 hk)
    have hv := h.vals k
    simp only [tval, hp, hs', Option.bind_some, Option.map_some] at hv ⊢
    rw [hv]
    rfl
  · rw [List.getElem?_map, Option.map_eq_some_iff] at hpi hqi
    obtain ⟨a, ha, rfl⟩ := hpi
    obtain ⟨b, hb, rfl⟩ := hqi
    exact sortK_lt hw.keys ha hb
theorem ke_new (kd mx : Int) (hk : 1 ≤ kd ∧ kd ≤ 16) (hm : 1 ≤ mx ∧ mx ≤ 16) : ∃ V, tnew [] [⟨true, kd, 8, mx⟩] = some V ∧ KeInv V [] kd mx 0 := by
  obtain ⟨M, h1, h2, h3⟩ := tnew_spec (ds := [⟨true, kd, 8, mx⟩]) (by simp [rightL, mayD]; omega)
  exact ⟨_, h1, h2, ⟨_, rfl, rfl, rfl, rfl, rfl, Nat.le_refl _⟩, fun k => rfl⟩
end Go.Proofs.Ytjimmbcihcmfoaa
