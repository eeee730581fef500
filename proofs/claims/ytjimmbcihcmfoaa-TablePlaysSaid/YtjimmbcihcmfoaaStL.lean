/- TableStays: the plain law. -/
import Derived.Test.YtjimmbcihcmfoaaTabP
namespace Go.Proofs.Ytjimmbcihcmfoaa
open Go.RowKit
set_option linter.unusedVariables false
set_option linter.unusedSimpArgs false

theorem lookup_erase_ne {α : Type} {L : List (ByteArray × α)} {k K : ByteArray} (h : k ≠ K) : (L.eraseP fun p => p.1 == k).lookup K = L.lookup K := by
  induction L with
  | nil => rfl
  | cons p L ih =>
    obtain ⟨m, u⟩ := p
    by_cases e : m = k
    · subst e
      rw [List.eraseP_cons_of_pos (by simp)]
      simp only [List.lookup, ba_ne (fun e => h e.symm : K ≠ m)]
    · rw [List.eraseP_cons_of_neg (by simpa using e)]
      simp only [List.lookup, ih]
/-- What is done with one key leaves the others' slots. -/
theorem actT_keep {t : TM} (hw : MapWf t) {K k : ByteArray} {s : Nat} (hl : t.slots.lookup K = some s) (hk : k ≠ K) (del : Bool) (n : Nat) (flags : Int) :
    (actT t del k n flags).1.hash = t.hash ∧ (actT t del k n flags).1.key = t.key ∧ (actT t del k n flags).1.val = t.val ∧ (actT t del k n flags).1.slots.lookup K = some s ∧ (actT t del k n flags).2 ≠ some s := by
  have hs := hw.slots _ (lookup_mem' hl)
  simp only at hs
  cases del
  · simp only [actT, Bool.false_eq_true, if_false, putT]
    split
    · exact ⟨rfl, rfl, rfl, hl, by simp⟩
    split
    · exact ⟨rfl, rfl, rfl, hl, by simp⟩
    cases hl' : t.slots.lookup k with
    | some s' =>
      simp only
      split
      · exact ⟨rfl, rfl, rfl, hl, by simp⟩
      · exact ⟨rfl, rfl, rfl, hl, fun e => by injection e with e; subst e; exact hk (slot_key hw.nums hl' hl)⟩
    | none =>
      simp only
      split
      · exact ⟨rfl, rfl, rfl, hl, by simp⟩
      split
      · exact ⟨rfl, rfl, rfl, hl, by simp⟩
      split
      · exact ⟨rfl, rfl, rfl, hl, by simp⟩
      split
      · exact ⟨rfl, rfl, rfl, hl, by simp⟩
      · refine ⟨rfl, rfl, rfl, ?_, fun e => by injection e with e; omega⟩
        simp only [addSlot, lookup_snoc, hl, Option.some_or]
  · simp only [actT, if_true, dropT]
    split
    · exact ⟨rfl, rfl, rfl, hl, by simp⟩
    split
    · exact ⟨rfl, rfl, rfl, hl, by simp⟩
    · exact ⟨rfl, rfl, rfl, by simp only; rw [lookup_erase_ne hk]; exact hl, by simp⟩
abbrev stK : ByteArray := strOfNums [7, 7]
/-- The map, and where the key's value is. -/
structure StInv (V : Areas × List TM) : Prop where
  wf : Wf V
  one : ∃ t, V.2 = [t] ∧ t.key = 2 ∧ t.val = 8 ∧ t.slots.lookup stK = some 0
  area : V.1.lookup (tarea (0 : Nat) (0 : Nat)) = some (fullA (List.replicate 8 3))
theorem st_new : ∃ V, tnew [] [⟨true, 2, 8, 16⟩] = some V ∧ (tput V 0 [7, 7] (List.replicate 8 3) 1).2 = (0, 0) ∧ StInv (tput V 0 [7, 7] (List.replicate 8 3) 1).1 := by
  obtain ⟨M, h1, h2, h3⟩ := tnew_spec (ds := [⟨true, 2, 8, 16⟩]) (by decide)
  refine ⟨_, h1, ?_⟩
  obtain ⟨e1, e2⟩ := tput_spec h2 (i := 0) (ks := [7, 7]) (vs := List.replicate 8 3) 1 (t := fullT ⟨true, 2, 8, 16⟩) rfl rfl (by decide)
  have hp : putT (fullT ⟨true, 2, 8, 16⟩) (strOfNums [7, 7]) (List.replicate 8 (3 : Int)).length 1 = (addSlot (fullT ⟨true, 2, 8, 16⟩) stK, some 0, 0, 0) := rfl
  rw [hp] at e1 e2
  refine ⟨e1, e2.wf, ⟨_, e2.maps, rfl, rfl, ?_⟩, ?_⟩
  · simp [addSlot, fullT, TDef.tm, List.lookup]
  · have := e2.areas (tarea (0 : Nat) (0 : Nat))
    rw [if_pos ⟨0, rfl, rfl⟩] at this
    exact this
theorem st_step {V : Areas × List TM} (h : StInv V) (del : Bool) {ks vs : List Int} (hk : strOfNums ks ≠ stK) (hu : ∀ q ∈ vs, 0 ≤ q ∧ q ≤ 255) (flags : Int) : StInv (actV V del 0 ks vs flags) := by
  rcases actV_cases h.wf 0 ks del hu flags with e | ⟨j, t, e0, hp, e⟩
  · rw [e]; exact h
  · obtain rfl : j = 0 := by omega
    obtain ⟨t', h1, h2, h3, h4⟩ := h.one
    have : t = t' := by rw [h1] at hp; simpa using hp.symm
    subst this
    have hw := h.wf.maps t (List.mem_of_getElem? hp)
    obtain ⟨k1, k2, k3, k4, k5⟩ := actT_keep hw h4 hk del vs.length flags
    refine ⟨e.wf, ⟨_, by rw [e.maps, h1]; rfl, by rw [k2, h2], by rw [k3, h3], k4⟩, ?_⟩
    rw [e.areas, if_neg (fun ⟨s, e1, e2⟩ => by
      have := (tarea_inj (by decide) (e.slot s e1) e2).2
      subst this
      exact k5 e1)]
    exact h.area
theorem st_look {V : Areas × List TM} (h : StInv V) : tlook V.2 0 [7, 7] = (mat 4096 0, 0) := by
  obtain ⟨t', h1, h2, h3, h4⟩ := h.one
  have := tfind_at (T := V.2) (i := 0) (n := [(7 : Int), 7].length) (t := t') (by rw [h1]; rfl) (by rw [h2]; rfl)
  have this' : tfind V.2 0 [(7 : Int), 7].length = some t' := this
  rw [tlook, this']
  simp only
  rw [h4]
  rfl
theorem st_load {V : Areas × List TM} (h : StInv V) : mload V.1 (mat 4096 0) 8 = (217020518514230019, 0) := by
  have h0 := h.area
  rw [show tarea (0 : Nat) (0 : Nat) = 4096 from rfl] at h0
  have hr := mread_at (o := 0) (k := 8) (by decide) (by decide) h0 (by decide) (by decide)
  have hr' : mread V.1 (mat 4096 0) 8 = (List.replicate 8 3, 0) := hr
  rw [mload_of (by decide) hr']
  rfl
theorem st_store {V : Areas × List TM} (h : StInv V) (n : Int) : (mstore V.1 (mat 4096 0) 8 n).2 = 0 ∧ (∀ p ∈ titems ((mstore V.1 (mat 4096 0) 8 n).1, V.2) 0, p.1 = stK → p.2 = bytesOf n 8) ∧ ∃ p ∈ titems ((mstore V.1 (mat 4096 0) 8 n).1, V.2) 0, p.1 = stK := by
  have h0 := h.area
  rw [show tarea (0 : Nat) (0 : Nat) = 4096 from rfl] at h0
  have hm := mstore_at (n := n) (o := 0) (k := 8) (by decide) (by decide) h0 (by decide) rfl (by decide) (by decide)
  have hm' : mstore V.1 (mat 4096 0) 8 n = (setKey V.1 4096 ((fullA (List.replicate 8 3)).write 0 (bytesOf n 8)), 0) := hm
  rw [hm']
  obtain ⟨t, h1, h2, h3, h4⟩ := h.one
  have hti := titems_eq (V := (setKey V.1 4096 ((fullA (List.replicate 8 3)).write 0 (bytesOf n 8)), V.2)) 0 (t := t) (by simp only; rw [h1]; rfl)
  rw [show ((0 : Nat) : Int) = 0 from rfl] at hti
  rw [hti]
  have hv : tval (setKey V.1 4096 ((fullA (List.replicate 8 3)).write 0 (bytesOf n 8)), V.2) 0 stK = some (bytesOf n 8) := by
    simp only [tval, h1, List.getElem?_cons_zero, Option.bind_some, h4, Option.map_some, marea]
    rw [show tarea (0 : Nat) (0 : Nat) = 4096 from rfl, lookup_setKey, if_pos rfl, h0]
    simp only [Option.map_some, Ar.write, fullA]
    rw [over_all _ _ (by simp [bytesOf])]
  refine ⟨rfl, fun p hp hk => ?_, ?_⟩
  · obtain ⟨k, hk1, rfl⟩ := List.mem_map.1 hp
    simp only at hk ⊢
    rw [hk, hv]
    rfl
  · refine ⟨_, List.mem_map.2 ⟨stK, (sortK_perm _).mem_iff.2 (List.mem_map.2 ⟨_, lookup_mem' h4, rfl⟩), rfl⟩, rfl⟩
theorem and_one_u8 (x : Int) (h0 : 0 ≤ x) (h1 : x ≤ 255) : bits .and .u8 x 1 = x % 2 := by
  have key : ∀ x : Fin 256, bits .and .u8 ((x.val : Nat) : Int) 1 = ((x.val : Nat) : Int) % 2 := by decide +kernel
  have := key ⟨x.toNat, by omega⟩
  simp only [Int.toNat_of_nonneg h0] at this
  exact this
theorem st_other (x y : Int) (h0 : 0 ≤ x) (h1 : x ≤ 1) (g0 : 0 ≤ y) (g1 : y ≤ 255) : strOfNums [x, y] ≠ stK := by
  intro e
  have := congrArg (fun b : ByteArray => b.data.toList.map fun b => b.toNat) e
  simp [strOfNums, stK] at this
  omega
end Go.Proofs.Ytjimmbcihcmfoaa
