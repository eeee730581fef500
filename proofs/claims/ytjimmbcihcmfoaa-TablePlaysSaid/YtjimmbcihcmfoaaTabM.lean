/- Maps of layer 9: plain laws of New, of what is put over, of what is told. -/
import Derived.Test.YtjimmbcihcmfoaaTabL
namespace Go.Proofs.Ytjimmbcihcmfoaa
open Go.RowKit
set_option linter.unusedVariables false
set_option linter.unusedSimpArgs false

/-- What a key has. -/
def tval (V : Areas × List TM) (i : Nat) (k : ByteArray) : Option (List Int) := (V.2[i]?).bind fun t => (t.slots.lookup k).map fun (s : Nat) => (marea V.1 (tarea i s)).1
theorem mem_lookup {α : Type} {L : List (ByteArray × α)} (hn : (L.map (·.1)).Nodup) {k : ByteArray} {x : α} (h : (k, x) ∈ L) : L.lookup k = some x := by
  induction L with
  | nil => cases h
  | cons p L ih =>
    obtain ⟨m, y⟩ := p
    rw [List.map_cons, List.nodup_cons] at hn
    rcases List.mem_cons.1 h with e | h
    · injection e with e1 e2; subst e1; subst e2; simp [List.lookup]
    · have hne : k ≠ m := fun e => hn.1 (e ▸ List.mem_map.2 ⟨_, h, rfl⟩)
      simp only [List.lookup, ba_ne hne]
      exact ih hn.2 h
theorem lookup_some_mem {α : Type} {L : List (ByteArray × α)} {k : ByteArray} (h : k ∈ L.map (·.1)) : ∃ x, L.lookup k = some x := by
  cases hl : L.lookup k with
  | some x => exact ⟨x, rfl⟩
  | none =>
    obtain ⟨p, hp, e⟩ := List.mem_map.1 h
    exact absurd e (lookup_no hl p hp)
theorem titems_eq {V : Areas × List TM} (i : Nat) {t : TM} (hp : V.2[i]? = some t) : titems V i = (sortK (t.slots.map (·.1))).map fun k => (k, (tval V i k).getD []) := by
  simp only [titems, pick_nat, hp]
  apply List.map_congr_left
  intro k hk
  obtain ⟨s, hs⟩ := lookup_some_mem ((sortK_perm _).mem_iff.1 hk)
  simp only [tval, hp, hs, Option.bind_some, Option.map_some, Option.getD_some]
/-- What a key has is put over. -/
theorem over_spec {V : Areas × List TM} (h : Wf V) {i : Nat} {t : TM} (hp : V.2[i]? = some t) {k : ByteArray} {s : Nat} {vs : List Int} (hl : t.slots.lookup k = some s) (hv : (vs.length : Int) = t.val) (hu : ∀ q ∈ vs, 0 ≤ q ∧ q ≤ 255) :
    Wf (mputs V.1 (tarea i s) vs vs.length, V.2) ∧ ∀ n, (mputs V.1 (tarea i s) vs vs.length).lookup n = if n = tarea i s then some (fullA vs) else V.1.lookup n := by
  have hi : i < V.2.length := (List.getElem?_eq_some_iff.1 hp).1
  have h8 := h.few
  have ht := h.maps t (List.mem_of_getElem? hp)
  have hval := ht.val
  have hmd := ht.made
  have hs := ht.slots _ (lookup_mem' hl)
  simp only at hs
  obtain ⟨A, hA, ha1, ha2, ha3⟩ := h.areas i s t hp hs
  have hlook : ∀ n, (mputs V.1 (tarea i s) vs vs.length).lookup n = if n = tarea i s then some (fullA vs) else V.1.lookup n := by
    intro n
    rw [puts_lookup _ _ _ (by simp only [tarea]; omega) (by simp only [tarea]; omega) _ (by omega), hA, puts_full A vs (by omega) (by omega) ha3 hu]
  refine ⟨⟨h8, h.maps, ?_, ?_⟩, hlook⟩
  · intro j r t' ht' hr
    simp only at ht' ⊢
    rw [hlook]
    by_cases hj : tarea j r = tarea i s
    · rw [if_pos hj]
      have hmd' := (h.maps t' (List.mem_of_getElem? ht')).made
      have := (tarea_inj (by omega) (by omega) hj).1
      subst this
      rw [hp] at ht'
      injection ht' with ht'
      subst ht'
      exact ⟨_, rfl, hv, by simp only [fullA, List.length_replicate]; exact hv, rfl⟩
    · rw [if_neg hj]
      exact h.areas j r t' ht' hr
  · intro j r hj8 hr hfr
    simp only at hfr ⊢
    rw [hlook, if_neg (fun e => by
      obtain ⟨e1, e2⟩ := tarea_inj hr (by omega) e
      subst e1; subst e2
      have := hfr t hp
      omega)]
    exact h.free j r hj8 hr hfr
/-- Two slots of one map are of one key. -/
theorem slot_key {t : TM} (hn : (t.slots.map (·.2)).Nodup) {k k' : ByteArray} {s : Nat} (h : t.slots.lookup k = some s) (h' : t.slots.lookup k' = some s) : k = k' := by
  have m1 := lookup_mem' h
  have m2 := lookup_mem' h'
  revert hn m1 m2
  generalize t.slots = L
  intro hn m1 m2
  induction L with
  | nil => cases m1
  | cons p L ih =>
    rw [List.map_cons, List.nodup_cons] at hn
    rcases List.mem_cons.1 m1 with e1 | m1 <;> rcases List.mem_cons.1 m2 with e2 | m2
    · rw [← e1] at e2; injection e2 with e2; exact e2.symm
    · exact absurd (List.mem_map.2 ⟨_, m2, by rw [← e1]⟩) hn.1
    · exact absurd (List.mem_map.2 ⟨_, m1, by rw [← e2]⟩) hn.1
    · exact ih hn.2 m1 m2
theorem marea_of {M M' : Areas} {n : Int} (h : M'.lookup n = M.lookup n) : marea M' n = marea M n := by simp only [marea, h]
theorem over_val {V : Areas × List TM} (h : Wf V) {i : Nat} {t : TM} (hp : V.2[i]? = some t) {k : ByteArray} {s : Nat} {vs : List Int} (hl : t.slots.lookup k = some s) (hv : (vs.length : Int) = t.val) (hu : ∀ q ∈ vs, 0 ≤ q ∧ q ≤ 255) (k' : ByteArray) :
    tval (mputs V.1 (tarea i s) vs vs.length, V.2) i k' = if k' = k then some vs else tval V i k' := by
  have hlook := (over_spec h hp hl hv hu).2
  have ht := h.maps t (List.mem_of_getElem? hp)
  have hmd := ht.made
  have hs := ht.slots _ (lookup_mem' hl)
  simp only at hs
  simp only [tval, hp, Option.bind_some]
  by_cases hk : k' = k
  · subst hk
    rw [if_pos rfl, hl, Option.map_some]
    simp only [marea, hlook, if_true, fullA]
  · rw [if_neg hk]
    cases hl' : t.slots.lookup k' with
    | none => rfl
    | some s' =>
      have hs' := ht.slots _ (lookup_mem' hl')
      simp only at hs'
      rw [Option.map_some, Option.map_some]
      have hne : ¬ tarea i s' = tarea i s := fun e => by
        have := (tarea_inj (by omega) (by omega) e).2
        subst this
        exact hk (slot_key ht.nums hl' hl)
      rw [marea_of (M := V.1) (M' := mputs V.1 (tarea i s) vs vs.length) (by rw [hlook, if_neg hne])]
theorem add_val {V : Areas × List TM} (h : Wf V) {i : Nat} {t : TM} (hp : V.2[i]? = some t) {k : ByteArray} {vs : List Int} {M' : Areas} (hl : t.slots.lookup k = none) (hM : ∀ n, M'.lookup n = if n = tarea i t.made then some (fullA vs) else V.1.lookup n) (hm : t.made < 1024) (k' : ByteArray) :
    tval (M', V.2.set i (addSlot t k)) i k' = if k' = k then some vs else tval V i k' := by
  have hi : i < V.2.length := (List.getElem?_eq_some_iff.1 hp).1
  have ht := h.maps t (List.mem_of_getElem? hp)
  simp only [tval, hp, Option.bind_some, List.getElem?_set_self hi, addSlot, lookup_snoc]
  by_cases hk : k' = k
  · subst hk
    rw [if_pos rfl, hl]
    simp only [beq_self_eq_true, if_true, Option.none_or, Option.map_some, marea, hM, fullA]
  · rw [if_neg hk, ba_ne hk]
    simp only [Bool.false_eq_true, if_false, Option.or_none]
    cases hl' : t.slots.lookup k' with
    | none => rfl
    | some s' =>
      have hs' := ht.slots _ (lookup_mem' hl')
      simp only at hs'
      rw [Option.map_some, Option.map_some]
      have hne : ¬ tarea i s' = tarea i t.made := fun e => by
        have := (tarea_inj (by omega) (by omega) e).2
        omega
      rw [marea_of (M := V.1) (M' := M') (by rw [hM, if_neg hne])]

/-- Numbers as keys, each with its slot. -/
def nums (k : Nat) : List (ByteArray × Nat) := (List.range k).map fun (j : Nat) => (numKey (j : Int), j)
theorem nums_succ (k : Nat) : nums (k + 1) = nums k ++ [(numKey (k : Int), k)] := by simp [nums, List.range_succ]
theorem nums_len (k : Nat) : (nums k).length = k := by simp [nums]
theorem nums_mem {k : Nat} {p : ByteArray × Nat} (h : p ∈ nums k) : p.2 < k ∧ p.1 = numKey (p.2 : Int) := by
  obtain ⟨j, hj, rfl⟩ := List.mem_map.1 h
  exact ⟨List.mem_range.1 hj, rfl⟩
theorem numKey_size (n : Int) : (numKey n).size = 4 := strOf_size _
theorem nums_none {k : Nat} (h : k < 256) : (nums k).lookup (numKey (k : Int)) = none := by
  cases hl : (nums k).lookup (numKey (k : Int)) with
  | none => rfl
  | some s =>
    have h1 := nums_mem (lookup_mem' hl)
    simp only at h1
    have := nk_inj (by omega) (by omega) h1.2
    omega
theorem nums_some {k j : Nat} (h : k ≤ 256) (hj : j < k) : (nums k).lookup (numKey (j : Int)) = some j := by
  induction k with
  | zero => omega
  | succ k ih =>
    rw [nums_succ, lookup_snoc]
    by_cases e : j = k
    · subst e; rw [nums_none (by omega)]; simp
    · rw [ih (by omega) (by omega)]; rfl
def fullT (d : TDef) : TM := if d.hash then d.tm else { d.tm with slots := nums d.max.toNat, made := d.max.toNat }
theorem tfill_spec {V : Areas × List TM} (h : Wf V) {i : Nat} {t : TM} (hp : V.2[i]? = some t) (hk : t.key = 4) (h0 : t.slots = []) (h1 : t.made = 0) {n : Nat} (hn : (n : Int) = t.val) (k : Nat) (hkm : (k : Int) ≤ t.max) :
    ∃ M', tfill V i n k = some (M', V.2.set i { t with slots := nums k, made := k }) ∧ Wf (M', V.2.set i { t with slots := nums k, made := k }) ∧
      ∀ m, M'.lookup m = if ∃ s, s < k ∧ m = tarea i (s : Nat) then some (fullA (List.replicate n 0)) else V.1.lookup m := by
  have hi : i < V.2.length := (List.getElem?_eq_some_iff.1 hp).1
  have hm16 := (h.maps t (List.mem_of_getElem? hp)).max
  induction k with
  | zero =>
    have e : V.2.set i { t with slots := nums 0, made := 0 } = V.2 := by
      apply List.ext_getElem?
      intro j
      rw [List.getElem?_set]
      by_cases hj : i = j
      · subst hj
        rw [if_pos rfl, if_pos hi, hp]
        obtain ⟨a, b, c, d, e, f⟩ := t
        simp only at h0 h1
        subst h0; subst h1
        rfl
      · rw [if_neg hj]
    refine ⟨V.1, by rw [tfill, e], by rw [e]; exact h, fun m => ?_⟩
    rw [if_neg (fun ⟨s, hs, _⟩ => by omega)]
  | succ k ih =>
    obtain ⟨M1, e1, w1, l1⟩ := ih (by omega)
    obtain ⟨M2, e2, w2, l2⟩ := tslot_spec w1 (i := i) (t := { t with slots := nums k, made := k }) (List.getElem?_set_self hi) (s := numKey (k : Int)) (vs := List.replicate n 0) (nums_none (by omega)) (by simpa using hn) (by simp only; omega) (by simp only [numKey_size]; omega) (by simp only [nums_len]; omega)
    have e3 : (V.2.set i { t with slots := nums k, made := k }).set i (addSlot { t with slots := nums k, made := k } (numKey (k : Int))) = V.2.set i { t with slots := nums (k + 1), made := k + 1 } := by
      rw [List.set_set]
      congr 1
      simp only [addSlot, nums_succ]
    simp only at e2 w2 l2
    rw [e3] at e2 w2
    refine ⟨M2, by rw [tfill, e1, Option.bind_some, e2], w2, fun m => ?_⟩
    rw [l2, l1]
    by_cases hm : m = tarea i k
    · rw [if_pos hm, if_pos ⟨k, by omega, hm⟩]
    · rw [if_neg hm]
      by_cases he : ∃ s, s < k ∧ m = tarea i (s : Nat)
      · rw [if_pos he, if_pos (he.imp fun s hs => ⟨by omega, hs.2⟩)]
      · rw [if_neg he, if_neg]
        rintro ⟨s, hs, e⟩
        by_cases hsk : s = k
        · subst hsk; exact hm e
        · exact he ⟨s, by omega, e⟩
/-- One more map. -/
theorem push_wf {V : Areas × List TM} (h : Wf V) {d : TDef} (hd : mayD d = true) (h8 : V.2.length < 8) : Wf (V.1, V.2 ++ [d.tm]) := by
  have hm : MapWf d.tm := by
    simp only [mayD, Bool.and_eq_true, decide_eq_true_eq] at hd
    obtain ⟨⟨⟨⟨⟨hk, h1⟩, h2⟩, h3⟩, h4⟩, h5⟩ := hd
    refine ⟨by simp [TDef.tm], by simp [TDef.tm], by simp [TDef.tm], by simp [TDef.tm], ⟨h1, h2⟩, ⟨h4, h5⟩, ?_, ?_, by simp [TDef.tm]⟩
    · simp only [TDef.tm]
      cases hh : d.hash
      · rw [hh] at hk; simp at hk; omega
      · rw [hh] at hk; simp at hk; exact hk
    · simp only [TDef.tm, List.length_nil]; omega
  refine ⟨by simp; omega, ?_, ?_, ?_⟩
  · intro t ht
    rcases List.mem_append.1 ht with ht | ht
    · exact h.maps t ht
    · rw [List.mem_singleton] at ht; subst ht; exact hm
  · intro i s t ht hs
    simp only at ht ⊢
    by_cases hi : i < V.2.length
    · rw [List.getElem?_append_left hi] at ht
      exact h.areas i s t ht hs
    · rw [List.getElem?_append_right (by omega)] at ht
      have : i - V.2.length = 0 := by
        by_cases e : i - V.2.length = 0
        · exact e
        · rw [List.getElem?_eq_none (by simp; omega)] at ht; cases ht
      rw [this] at ht
      injection ht with ht
      subst ht
      simp only [TDef.tm] at hs
      omega
  · intro i s hi hs hf
    simp only at hf ⊢
    refine h.free i s hi hs fun t ht => hf t ?_
    rw [List.getElem?_append_left (List.getElem?_eq_some_iff.1 ht).1]
    exact ht
theorem wf_nil : Wf ([], []) := ⟨by simp, by simp, fun i s t ht => by simp at ht, fun _ _ _ _ _ => rfl⟩
theorem tnews_spec {ds : List TDef} (hd : ∀ d ∈ ds, mayD d = true) (h8 : ds.length ≤ 8) (k : Nat) (hk : k ≤ ds.length) :
    ∃ M, tnews [] ds k = some (M, (ds.take k).map fullT) ∧ Wf (M, (ds.take k).map fullT) ∧ ∀ (i s : Nat) d, i < k → ds[i]? = some d → d.hash = false → s < d.max.toNat → M.lookup (tarea i s) = some (fullA (List.replicate d.val.toNat 0)) := by
  induction k with
  | zero => exact ⟨[], by simp [tnews], wf_nil, fun i s d hi => by omega⟩
  | succ k ih =>
    obtain ⟨M, e1, w1, l1⟩ := ih (by omega)
    obtain ⟨d, hdk⟩ := at_of_lt (xs := ds) (k := k) (by omega)
    have hmay := hd d (List.mem_of_getElem? hdk)
    have htk : (ds.take (k + 1)).map fullT = (ds.take k).map fullT ++ [fullT d] := by
      rw [List.take_add_one, hdk]; simp
    have hlen : ((ds.take k).map fullT).length = k := by simp; omega
    have hw := push_wf w1 hmay (by simp only [hlen]; omega)
    simp only at hw
    rw [tnews, e1, Option.bind_some, hdk, Option.bind_some, tnew1, htk]
    cases hh : d.hash with
    | true =>
      have ef : fullT d = d.tm := by rw [fullT, hh]; rfl
      rw [ef]
      refine ⟨M, by simp, hw, fun i s d' hi hd' hf hs => ?_⟩
      by_cases hik : i = k
      · subst hik; rw [hdk] at hd'; injection hd' with e; subst e; rw [hh] at hf; cases hf
      · exact l1 i s d' (by omega) hd' hf hs
    | false =>
      simp only [Bool.false_eq_true, if_false]
      have hmd := hmay
      simp only [mayD, hh, Bool.and_eq_true, decide_eq_true_eq, Bool.false_eq_true, if_false, beq_iff_eq] at hmd
      obtain ⟨⟨⟨⟨⟨hk4, hv1⟩, hv2⟩, hv3⟩, hm1⟩, hm2⟩ := hmd
      obtain ⟨M2, e2, w2, l2⟩ := tfill_spec hw (i := k) (t := d.tm) (by simp only; rw [List.getElem?_append_right (by omega), hlen, Nat.sub_self]; rfl) hk4 rfl rfl (n := d.val.toNat) (by simp only [TDef.tm]; omega) d.max.toNat (by simp only [TDef.tm]; omega)
      have es : ((ds.take k).map fullT ++ [d.tm]).set k { d.tm with slots := nums d.max.toNat, made := d.max.toNat } = (ds.take k).map fullT ++ [fullT d] := by
        rw [List.set_append_right _ _ (by omega)]
        simp only [hlen, Nat.sub_self, List.set_cons_zero]
        simp [fullT, hh]
      simp only at e2 w2 l2
      rw [es] at e2 w2
      refine ⟨M2, by simp only [hlen]; exact e2, w2, fun i s d' hi hd' hf hs => ?_⟩
      rw [l2]
      by_cases hik : i = k
      · subst hik; rw [hdk] at hd'; injection hd' with e; subst e
        rw [if_pos ⟨s, hs, rfl⟩]
      · rw [if_neg]
        · exact l1 i s d' (by omega) hd' hf hs
        · rintro ⟨r, hr, e⟩
          have hs16 : d'.max ≤ 16 := by
            have := hd d' (List.mem_of_getElem? hd')
            simp only [mayD, Bool.and_eq_true, decide_eq_true_eq] at this
            exact this.2
          exact hik (tarea_inj (by omega) (by omega) e).1
theorem tnew_spec {ds : List TDef} (hr : rightL ds = true) :
    ∃ M, tnew [] ds = some (M, ds.map fullT) ∧ Wf (M, ds.map fullT) ∧ ∀ (i s : Nat) d, ds[i]? = some d → d.hash = false → s < d.max.toNat → M.lookup (tarea i s) = some (fullA (List.replicate d.val.toNat 0)) := by
  have h := hr
  simp only [rightL, Bool.and_eq_true, decide_eq_true_eq, List.all_eq_true] at h
  obtain ⟨M, e, w, l⟩ := tnews_spec h.2 h.1 ds.length (Nat.le_refl _)
  rw [List.take_length] at e w
  exact ⟨M, by rw [tnew, if_pos hr, e], w, fun i s d hd => l i s d (List.getElem?_eq_some_iff.1 hd).1 hd⟩
end Go.Proofs.Ytjimmbcihcmfoaa
