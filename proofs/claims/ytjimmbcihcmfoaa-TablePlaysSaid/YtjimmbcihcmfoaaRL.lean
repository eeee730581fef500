/- The program's maps and the document's: the plain law. -/
import Derived.Test.YtjimmbcihcmfoaaRTI
import Derived.Test.YtjimmbcihcmfoaaRTF
import Derived.Test.YtjimmbcihcmfoaaTabP
import Derived.Test.YtjimmbcihcmfoaaKeL
namespace Go.Proofs.Ytjimmbcihcmfoaa
open Go.RowKit
set_option linter.unusedVariables false
set_option linter.unusedSimpArgs false

/-- Bytes that rise. -/
def ltB (a b : ByteArray) : Prop := Op.bytesLess a.toList b.toList = true
theorem ltB_iff (a b : ByteArray) : ltB a b ↔ a.data.toList < b.data.toList := by
  unfold ltB
  cases a; cases b
  rw [ByteArray.toList_mk, ByteArray.toList_mk, bytesLess_lt, decide_eq_true_eq]
theorem ltB_trans {a b c : ByteArray} (h : ltB a b) (k : ltB b c) : ltB a c := by
  rw [ltB_iff] at *
  exact List.lt_trans h k
theorem ltB_irr (a : ByteArray) : ¬ ltB a a := by rw [ltB_iff]; exact List.lt_irrefl _
theorem ltB_tri {a b : ByteArray} (h : ¬ ltB a b) (hn : a ≠ b) : ltB b a := by
  rw [ltB_iff] at *
  refine lt_of_le_ne (List.not_lt.1 h) (fun e => hn ?_)
  cases a; cases b
  simp only at e
  congr 1
  exact (Array.toList_inj.1 e).symm
theorem ba_toList_inj {a b : List UInt8} (h : (⟨a.toArray⟩ : ByteArray) = ⟨b.toArray⟩) : a = b := by
  injection h with h
  exact Array.toList_inj.2 h |> fun e => by simpa using e
/-- Keys that rise are sorted. -/
theorem sortK_eq {ks l : List ByteArray} (hp : ks.Perm l) (hs : l.Pairwise ltB) : sortK ks = l := by
  rw [sortK_of_perm hp]
  have hm : (l.map fun k => k.data.toList).Pairwise (fun x y => leB x y = true) := by
    rw [List.pairwise_map]
    exact hs.imp fun {a b} h => by
      rw [ltB_iff] at h
      simp only [leB, decide_eq_true_eq]
      exact List.le_of_lt h
  unfold sortK
  rw [List.mergeSort_of_pairwise hm, List.map_map]
  conv => rhs; rw [← List.map_id l]
  apply List.map_congr_left
  intro k _
  rfl
theorem lookup_perm {L L' : List (ByteArray × Nat)} (h : L.Perm L') (hn : (L.map (·.1)).Nodup) (s : ByteArray) : L'.lookup s = L.lookup s := by
  have hn' : (L'.map (·.1)).Nodup := (h.map _).nodup_iff.1 hn
  cases hl : L.lookup s with
  | some n => exact mem_lookup hn' (h.mem_iff.1 (lookup_mem' hl))
  | none =>
    cases hl' : L'.lookup s with
    | none => rfl
    | some n =>
      have := mem_lookup hn (h.mem_iff.2 (lookup_mem' hl'))
      rw [hl] at this; cases this
/-- What holds of a map of the program's. -/
structure KW (t : TM) : Prop where
  keys : (t.slots.map (·.1)).Nodup
  few : (t.slots.length : Int) ≤ t.max
  max : t.max ≤ 16
  key : t.key ≤ 16
  size : ∀ p ∈ t.slots, (p.1.size : Int) = t.key
theorem MapWf.kw {t : TM} (h : MapWf t) : KW t := ⟨h.keys, h.few, h.max.2, h.key.2, h.size⟩
/-- A map, and the document's of it. -/
structure TRel (t t' : TM) : Prop where
  hash : t'.hash = t.hash
  key : t'.key = t.key
  val : t'.val = t.val
  max : t'.max = t.max
  made : t'.made = t.made
  slots : t.slots.Perm t'.slots
  rise : (t'.slots.map (·.1)).Pairwise ltB
  kw : KW t
structure VRel (V V' : Areas × List TM) : Prop where
  mem : V'.1 = V.1
  len : V'.2.length = V.2.length
  maps : ∀ (i : Nat) t t', V.2[i]? = some t → V'.2[i]? = some t' → TRel t t'
theorem VRel.small {V V' : Areas × List TM} (r : VRel V V') : (∀ t ∈ V.2, t.slots.length ≤ 1000 ∧ ∀ p ∈ t.slots, p.1.size ≤ 1000) ∧ (∀ t ∈ V'.2, t.slots.length ≤ 1000 ∧ ∀ p ∈ t.slots, p.1.size ≤ 1000) := by
  refine ⟨fun t ht => ?_, fun t ht => ?_⟩
  · obtain ⟨i, hi⟩ := List.getElem?_of_mem ht
    have hlt := (List.getElem?_eq_some_iff.1 hi).1
    have k := (r.maps i t _ hi (List.getElem?_eq_getElem (by rw [r.len]; exact hlt))).kw
    have h1 := k.few; have h2 := k.max; have h3 := k.key
    exact ⟨by omega, fun p hp => by have := k.size p hp; omega⟩
  · obtain ⟨i, hi⟩ := List.getElem?_of_mem ht
    have hlt := (List.getElem?_eq_some_iff.1 hi).1
    have q := r.maps i _ t (List.getElem?_eq_getElem (by rw [← r.len]; exact hlt)) hi
    have k := q.kw
    have h1 := k.few; have h2 := k.max; have h3 := k.key; have h4 := q.slots.length_eq
    exact ⟨by omega, fun p hp => by have := k.size p (q.slots.mem_iff.2 hp); omega⟩
/-- The map that is meant, in both. -/
theorem VRel.find {V V' : Areas × List TM} (r : VRel V V') (i : Int) (n : Nat) : (tfind V.2 i n = none ∧ tfind V'.2 i n = none) ∨ ∃ (j : Nat) (t t' : TM), i = j ∧ V.2[j]? = some t ∧ V'.2[j]? = some t' ∧ tfind V.2 i n = some t ∧ tfind V'.2 i n = some t' ∧ (n : Int) = t.key ∧ TRel t t' := by
  rcases tfind_cases V.2 i n with h0 | ⟨j, t, rfl, hp, hk⟩
  · rcases tfind_cases V'.2 i n with h1 | ⟨j, t', rfl, hp', hk'⟩
    · exact .inl ⟨h0, h1⟩
    · exfalso
      have hlt := (List.getElem?_eq_some_iff.1 hp').1
      obtain ⟨t, hp⟩ := at_of_lt (xs := V.2) (k := j) (by rw [← r.len]; exact hlt)
      have q := r.maps j t t' hp hp'
      rw [tfind_at hp (by rw [← q.key]; exact hk')] at h0
      cases h0
  · have hlt := (List.getElem?_eq_some_iff.1 hp).1
    obtain ⟨t', hp'⟩ := at_of_lt (xs := V'.2) (k := j) (by rw [r.len]; exact hlt)
    have q := r.maps j t t' hp hp'
    exact .inr ⟨j, t, t', rfl, hp, hp', tfind_at hp hk, tfind_at hp' (by rw [q.key]; exact hk), hk, q⟩
theorem look_rel {V V' : Areas × List TM} (r : VRel V V') (i : Int) (ks : List Int) : tlook V'.2 i ks = tlook V.2 i ks := by
  rcases r.find i ks.length with ⟨h1, h2⟩ | ⟨j, t, t', rfl, hp, hp', h1, h2, hk, q⟩
  · simp only [tlook, h1, h2]
  · simp only [tlook, h1, h2, lookup_perm q.slots q.kw.keys]
theorem items_rel {V V' : Areas × List TM} (r : VRel V V') (i : Int) : ritems V' i = titems V i := by
  unfold ritems titems
  by_cases h0 : i < 0
  · simp only [pick, h0, if_true]
  · obtain ⟨j, rfl⟩ : ∃ j : Nat, i = j := ⟨i.toNat, by omega⟩
    rw [pick_nat, pick_nat]
    cases hp : V.2[j]? with
    | none =>
      have : V'.2[j]? = none := by
        rw [List.getElem?_eq_none_iff, r.len]
        exact List.getElem?_eq_none_iff.1 hp
      rw [this]
    | some t =>
      have hlt := (List.getElem?_eq_some_iff.1 hp).1
      obtain ⟨t', hp'⟩ := at_of_lt (xs := V'.2) (k := j) (by rw [r.len]; exact hlt)
      rw [hp']
      have q := r.maps j t t' hp hp'
      simp only
      rw [sortK_eq (q.slots.map _) q.rise, List.map_map, r.mem]
      apply List.map_congr_left
      intro p hp
      have hl := mem_lookup (L := t.slots) q.kw.keys (k := p.1) (x := p.2) (q.slots.mem_iff.2 hp)
      simp only [Function.comp, hl, Option.getD_some]
theorem VRel.set {V V' : Areas × List TM} (r : VRel V V') {M : Areas} {j : Nat} {t t' : TM} (q : TRel t t') : VRel (M, V.2.set j t) (M, V'.2.set j t') := by
  refine ⟨rfl, by simp [r.len], fun i s s' h h' => ?_⟩
  simp only [List.getElem?_set, r.len] at h h'
  by_cases e : j = i
  · subst e
    rw [if_pos rfl] at h h'
    split at h
    · rename_i hl; rw [if_pos hl] at h'; injection h with h; injection h' with h'; subst h; subst h'; exact q
    · cases h
  · rw [if_neg e] at h h'
    exact r.maps i s s' h h'
theorem VRel.areas {V V' : Areas × List TM} (r : VRel V V') (M : Areas) : VRel (M, V.2) (M, V'.2) := ⟨rfl, r.len, r.maps⟩
theorem ltK_iff (s : ByteArray) (p : ByteArray × Nat) : ltK s p = true ↔ ltB p.1 s := Iff.rfl
/-- A key in its place. -/
theorem add_rel {t t' : TM} (q : TRel t t') {s : ByteArray} (hl : t.slots.lookup s = none) (hs : (s.size : Int) = t.key) (hf : ¬ t.max ≤ t.slots.length) : TRel (addSlot t s) (addR t' s) := by
  have hno : ∀ p ∈ t'.slots, p.1 ≠ s := fun p hp => lookup_no hl p (q.slots.mem_iff.2 hp)
  have hnt : ∀ p ∈ t.slots, p.1 ≠ s := lookup_no hl
  have htd : t'.slots.takeWhile (ltK s) ++ t'.slots.dropWhile (ltK s) = t'.slots := List.takeWhile_append_dropWhile
  have hr := q.rise
  rw [← htd, List.map_append, List.pairwise_append] at hr
  obtain ⟨r1, r2, r3⟩ := hr
  have hA : ∀ p ∈ t'.slots.takeWhile (ltK s), ltB p.1 s := fun p hp => by
    have := List.all_eq_true.1 (List.all_takeWhile (p := ltK s) (l := t'.slots)) p hp
    exact this
  have hB : ∀ p ∈ t'.slots.dropWhile (ltK s), ltB s p.1 := by
    cases hd : t'.slots.dropWhile (ltK s) with
    | nil => intro p hp; cases hp
    | cons x L =>
      have hx : ¬ ltB x.1 s := by
        intro h
        have := List.head?_dropWhile_not (ltK s) t'.slots
        rw [hd] at this
        simp only [List.head?_cons] at this
        have h2 : ltK s x = true := h
        rw [h2] at this
        simp at this
      have hxm : x ∈ t'.slots := (List.dropWhile_sublist _).subset (by rw [hd]; exact List.mem_cons_self)
      have hsx := ltB_tri hx (hno x hxm)
      rw [hd, List.map_cons, List.pairwise_cons] at r2
      intro p hp
      rcases List.mem_cons.1 hp with rfl | hp
      · exact hsx
      · exact ltB_trans hsx (r2.1 p.1 (List.mem_map.2 ⟨p, hp, rfl⟩))
  refine ⟨q.hash, q.key, q.val, q.max, by simp only [addSlot, addR, q.made], ?_, ?_, ⟨?_, ?_, q.kw.max, q.kw.key, ?_⟩⟩
  · simp only [addSlot, addR, q.made]
    refine (q.slots.append_right _).trans ?_
    conv => lhs; rw [← htd]
    rw [List.append_assoc, List.append_assoc]
    exact List.Perm.append_left _ List.perm_append_comm
  · simp only [addR, List.map_append, List.map_cons, List.map_nil]
    rw [List.pairwise_append, List.pairwise_append]
    refine ⟨⟨r1, List.pairwise_singleton _ _, fun a ha b hb => ?_⟩, r2, fun a ha b hb => ?_⟩
    · obtain ⟨p, hp, rfl⟩ := List.mem_map.1 ha
      rw [List.mem_singleton] at hb
      subst hb
      exact hA p hp
    · obtain ⟨p2, hp2, rfl⟩ := List.mem_map.1 hb
      rcases List.mem_append.1 ha with ha | ha
      · exact r3 a ha _ hb
      · rw [List.mem_singleton] at ha
        subst ha
        exact hB p2 hp2
  · simp only [addSlot, List.map_append, List.map_cons, List.map_nil]
    rw [List.nodup_append]
    refine ⟨q.kw.keys, by simp, fun a ha b hb e => ?_⟩
    subst e
    rw [List.mem_singleton] at hb
    subst hb
    obtain ⟨p, hp, e⟩ := List.mem_map.1 ha
    exact hnt p hp e
  · simp only [addSlot, List.length_append, List.length_singleton]; omega
  · intro p hp
    simp only [addSlot, List.mem_append, List.mem_singleton] at hp ⊢
    rcases hp with hp | rfl
    · exact q.kw.size p hp
    · exact hs
theorem put_rel {V V' : Areas × List TM} (r : VRel V V') (i : Int) (ks vs : List Int) (flags : Int) : (rput V' i ks vs flags).2 = (tput V i ks vs flags).2 ∧ VRel (tput V i ks vs flags).1 (rput V' i ks vs flags).1 := by
  rcases r.find i ks.length with ⟨h1, h2⟩ | ⟨j, t, t', rfl, hp, hp', h1, h2, hk, q⟩
  · simp only [tput, rput, h1, h2]; exact ⟨trivial, r⟩
  · simp only [tput, rput, h1, h2, q.val, q.hash, q.max, q.made, r.mem, lookup_perm q.slots q.kw.keys, ← q.slots.length_eq]
    by_cases a1 : (vs.length : Int) ≠ t.val
    · rw [if_pos a1, if_pos a1]; exact ⟨rfl, r⟩
    rw [if_neg a1, if_neg a1]
    by_cases a2 : 2 < flags
    · rw [if_pos a2, if_pos a2]; exact ⟨rfl, r⟩
    rw [if_neg a2, if_neg a2]
    cases hl : t.slots.lookup (strOfNums ks) with
    | some n =>
      simp only
      by_cases a3 : flags = 1
      · rw [if_pos a3, if_pos a3]; exact ⟨rfl, r⟩
      · rw [if_neg a3, if_neg a3]; exact ⟨rfl, r.areas _⟩
    | none =>
      simp only
      by_cases a4 : t.hash = false
      · rw [if_pos a4, if_pos a4]; exact ⟨rfl, r⟩
      rw [if_neg a4, if_neg a4]
      by_cases a5 : flags = 2
      · rw [if_pos a5, if_pos a5]; exact ⟨rfl, r⟩
      rw [if_neg a5, if_neg a5]
      by_cases a6 : t.max ≤ t.slots.length
      · rw [if_pos a6, if_pos a6]; exact ⟨rfl, r⟩
      rw [if_neg a6, if_neg a6]
      rw [tslot, pick_nat, hp]
      simp only
      by_cases a7 : 1024 ≤ t.made
      · rw [if_pos a7, if_pos a7]; exact ⟨rfl, r⟩
      rw [if_neg a7, if_neg a7]
      by_cases a8 : (mmake V.1 (tarea j t.made) vs false false).2 = 0
      · rw [if_pos a8, if_pos a8]
        refine ⟨rfl, r.set (add_rel q hl ?_ a6)⟩
        rw [strOf_size]; exact hk
      · rw [if_neg a8, if_neg a8]; exact ⟨rfl, r⟩
theorem erase_filter {L : List (ByteArray × Nat)} (hn : (L.map (·.1)).Nodup) (s : ByteArray) : (L.eraseP fun p => p.1 == s) = L.filter (neK s) := by
  induction L with
  | nil => rfl
  | cons p L ih =>
    rw [List.map_cons, List.nodup_cons] at hn
    by_cases e : p.1 = s
    · have hb : (p.1 == s) = true := by rw [e]; exact beq_self_eq_true s
      rw [List.eraseP_cons_of_pos (p := fun p : ByteArray × Nat => p.1 == s) hb, List.filter_cons_of_neg (by simp [neK, hb])]
      symm
      rw [List.filter_eq_self]
      intro x hx
      have : x.1 ≠ s := fun e2 => hn.1 (by rw [e, ← e2]; exact List.mem_map.2 ⟨x, hx, rfl⟩)
      simp [neK, this]
    · have hb : ¬ (p.1 == s) = true := by simpa using e
      rw [List.eraseP_cons_of_neg (p := fun p : ByteArray × Nat => p.1 == s) hb, List.filter_cons_of_pos (by simp [neK, e]), ih hn.2]
theorem filter_none {L : List (ByteArray × Nat)} (s : ByteArray) : (L.filter (neK s)).length = L.length ↔ L.lookup s = none := by
  rw [List.length_filter_eq_length_iff]
  constructor
  · intro h
    cases hl : L.lookup s with
    | none => rfl
    | some n =>
      have := h _ (lookup_mem' hl)
      simp [neK] at this
  · intro h p hp
    simp [neK, lookup_no h p hp]
theorem drop_rel {V V' : Areas × List TM} (r : VRel V V') (i : Int) (ks : List Int) : (rdrop V'.2 i ks).2 = (tdrop V.2 i ks).2 ∧ VRel (V.1, (tdrop V.2 i ks).1) (V'.1, (rdrop V'.2 i ks).1) := by
  have r0 : VRel (V.1, V.2) (V'.1, V'.2) := r
  rcases r.find i ks.length with ⟨h1, h2⟩ | ⟨j, t, t', rfl, hp, hp', h1, h2, hk, q⟩
  · simp only [tdrop, rdrop, h1, h2]; exact ⟨trivial, r0⟩
  · simp only [tdrop, rdrop, h1, h2, q.hash]
    by_cases a4 : t.hash = false
    · rw [if_pos a4, if_pos a4]; exact ⟨rfl, r0⟩
    rw [if_neg a4, if_neg a4]
    cases hl : t.slots.lookup (strOfNums ks) with
    | none =>
      rw [if_pos ((filter_none _).2 (by rw [lookup_perm q.slots q.kw.keys]; exact hl))]
      exact ⟨rfl, r0⟩
    | some n =>
      rw [if_neg (fun h => by rw [filter_none, lookup_perm q.slots q.kw.keys, hl] at h; cases h)]
      refine ⟨rfl, ?_⟩
      rw [r.mem]
      simp only [Int.toNat_natCast]
      have hsub : (t.slots.filter (neK (strOfNums ks))).Sublist t.slots := List.filter_sublist
      refine r.set ⟨rfl, q.key, q.val, q.max, q.made, ?_, ?_, ⟨?_, ?_, q.kw.max, q.kw.key, ?_⟩⟩
      · simp only; rw [erase_filter q.kw.keys]; exact q.slots.filter _
      · exact q.rise.sublist (List.filter_sublist.map _)
      · simp only; rw [erase_filter q.kw.keys]; exact (hsub.map _).nodup q.kw.keys
      · simp only; rw [erase_filter q.kw.keys]; have := hsub.length_le; have := q.kw.few; omega
      · simp only; rw [erase_filter q.kw.keys]; exact fun p hp => q.kw.size p (hsub.subset hp)
theorem nk_lt {a c : Nat} (h : a < c) (hc : c < 256) : ltB (numKey (a : Int)) (numKey (c : Int)) := by
  rw [ltB_iff]
  simp only [numKey, strOfNums_data, List.map_cons, List.map_nil]
  rw [List.cons_lt_cons_iff]
  left
  rw [Int.emod_eq_of_lt (by omega) (by omega), Int.emod_eq_of_lt (by omega) (by omega), Int.toNat_natCast, Int.toNat_natCast]
  show (UInt8.ofNat a).toNat < (UInt8.ofNat c).toNat
  simp only [UInt8.toNat_ofNat']
  omega
theorem full_rel {d : TDef} (hm : mayD d = true) (h : KW (fullT d)) : TRel (fullT d) (fullT d) := by
  refine ⟨rfl, rfl, rfl, rfl, rfl, List.Perm.refl _, ?_, h⟩
  have hd := (may_iff d).1 hm
  unfold fullT
  split
  · simp [TDef.tm]
  · simp only [nums, List.map_map]
    rw [List.pairwise_map]
    refine List.Pairwise.imp_of_mem (R := (· < ·)) (fun {a b} ha hb hab => ?_) List.pairwise_lt_range
    rw [List.mem_range] at hb
    exact nk_lt hab (by omega)
theorem rfill_eq {M : Areas} {T : List TM} {i : Nat} {val : Nat} {t : TM} (hi : T[i]? = some t) (h0 : t.made = 0) : ∀ (k : Nat) (V : Areas × List TM), k ≤ 1024 → tfill (M, T) (i : Int) val k = some V → rfill M (i : Int) val k = some V.1 ∧ ∃ t', V.2[i]? = some t' ∧ t'.made = k
  | 0, V, _, h => by
    simp only [tfill] at h
    injection h with h
    subst h
    exact ⟨rfl, t, hi, h0⟩
  | k + 1, V, hk, h => by
    rw [tfill] at h
    cases hv : tfill (M, T) (i : Int) val k with
    | none => rw [hv] at h; cases h
    | some V1 =>
      obtain ⟨e1, t1, e2, e3⟩ := rfill_eq hi h0 k V1 (by omega) hv
      rw [hv] at h
      simp only [Option.bind_some, tslot, pick_nat, e2, e3] at h
      rw [if_neg (by omega)] at h
      split at h
      · rename_i hm
        injection h with h
        subst h
        refine ⟨?_, _, List.getElem?_set_self (List.getElem?_eq_some_iff.1 e2).1, by simp only [addSlot, e3]⟩
        rw [rfill, e1]
        simp only [Option.bind_some]
        rw [if_pos hm]
      · cases h
theorem rnews_eq {ds : List TDef} (hd : ∀ d ∈ ds, mayD d = true) (h8 : ds.length ≤ 8) : ∀ (k : Nat), k ≤ ds.length → ∀ V, tnews [] ds k = some V → rnews [] ds k = some V
  | 0, _, V, h => by simpa [tnews, rnews] using h
  | k + 1, hk, V, h => by
    rw [tnews] at h
    cases hv : tnews [] ds k with
    | none => rw [hv] at h; cases h
    | some V1 =>
      have ih := rnews_eq hd h8 k (by omega) V1 hv
      obtain ⟨M, e1, -, -⟩ := tnews_spec hd h8 k (by omega)
      rw [hv] at e1
      injection e1 with e1
      obtain ⟨d, hdk⟩ := at_of_lt (xs := ds) (k := k) (by omega)
      obtain ⟨M2, e2, -, -⟩ := tnews_spec hd h8 (k + 1) hk
      have hm := (may_iff d).1 (hd d (List.mem_of_getElem? hdk))
      rw [tnews, hv, hdk] at e2
      rw [hv, hdk] at h
      simp only [Option.bind_some] at h e2
      rw [rnews, ih, hdk]
      simp only [Option.bind_some]
      rw [h] at e2
      injection e2 with e2
      subst e2
      subst e1
      have htk : (ds.take (k + 1)).map fullT = (ds.take k).map fullT ++ [fullT d] := by rw [List.take_add_one, hdk]; simp
      unfold rnew1
      unfold tnew1 at h
      cases hh : d.hash with
      | true =>
        rw [hh] at h
        simp only [if_true] at h ⊢
        exact h
      | false =>
        rw [hh] at h
        simp only [Bool.false_eq_true, if_false] at h ⊢
        obtain ⟨f1, -⟩ := rfill_eq (T := (ds.take k).map fullT ++ [d.tm]) (i := ((ds.take k).map fullT).length) (t := d.tm) (by simp) rfl d.max.toNat _ (by omega) h
        rw [f1]
        simp only [Option.map_some]
        rw [htk]
        congr 2
        simp only [fullT, hh, TDef.full]
        rfl
theorem new_rel {ds : List TDef} {V : Areas × List TM} (h : tnew [] ds = some V) : rnew [] ds = some V ∧ VRel V V := by
  unfold tnew at h
  split at h
  · rename_i hr
    obtain ⟨M, e1, e2, -⟩ := tnew_spec hr
    have e3 : tnews [] ds ds.length = some (M, ds.map fullT) := by rw [tnew, if_pos hr] at e1; exact e1
    rw [h] at e3
    injection e3 with e3
    subst e3
    simp only [rightL, Bool.and_eq_true, decide_eq_true_eq, List.all_eq_true] at hr
    refine ⟨?_, rfl, rfl, fun i t t' h1 h2 => ?_⟩
    · unfold rnew
      rw [if_pos (by simp only [rightL, Bool.and_eq_true, decide_eq_true_eq, List.all_eq_true]; exact hr)]
      exact rnews_eq hr.2 hr.1 _ (Nat.le_refl _) _ h
    · rw [h1] at h2
      injection h2 with h2
      subst h2
      have hk := (e2.maps t (List.mem_of_getElem? h1)).kw
      rw [List.getElem?_map, Option.map_eq_some_iff] at h1
      obtain ⟨d, hd, rfl⟩ := h1
      exact full_rel (hr.2 d (List.mem_of_getElem? hd)) hk
  · cases h
theorem new_none {ds : List TDef} (h : tnew [] ds = none) : rightL ds = false ∧ rnew [] ds = none := by
  cases hr : rightL ds with
  | true => obtain ⟨M, e1, -⟩ := tnew_spec hr; rw [e1] at h; cases h
  | false => exact ⟨rfl, by rw [rnew, hr]; rfl⟩
end Go.Proofs.Ytjimmbcihcmfoaa
