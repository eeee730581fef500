/- What the claim leans on: TabL · TabM · RTH. -/
import Derived.Test.YtppefchjoodgnaaGreatPN10
import Derived.Test.YtppefchjoodgnaaGreatPN08
import Derived.Test.YtppefchjoodgnaaGreatPN09
namespace Go.Proofs.YtppefchjoodgnaaGreat
open Go.RowKit
set_option linter.unusedVariables false
set_option linter.unusedSimpArgs false
section
variable {α : Type}
theorem lookup_snoc {κ : Type} [BEq κ] (M : List (κ × α)) (a : κ) (x : α) (b : κ) : (M ++ [(a, x)]).lookup b = (M.lookup b).or (if b == a then some x else none) := by
 induction M with
 | nil => simp only [List.nil_append, List.lookup]; cases (b == a) <;> rfl
 | cons p M ih =>
  obtain ⟨m, y⟩ := p
  simp only [List.cons_append, List.lookup]
  cases (b == m)
  ·exact ih
  ·rfl
end
theorem lookup_no {α : Type} {L : List (ByteArray × α)} {s : ByteArray} (h : L.lookup s = none) : ∀ q ∈ L, q.1 ≠ s := by
 intro q hq e
 induction L with
 | nil => cases hq
 | cons p L ih =>
  obtain ⟨m, u⟩ := p
  by_cases hm : s = m
  ·subst hm; simp [List.lookup] at h
  ·simp only [List.lookup, ba_ne hm] at h
   rcases List.mem_cons.1 hq with rfl | hq
   ·exact hm e.symm
   ·exact ih h hq
def fullA (vs : List Int) : Ar := ⟨vs, List.replicate vs.length true, false⟩
structure MapWf (t : TM) : Prop where
 made : t.made ≤ 1024
 slots : ∀ p ∈ t.slots, p.2 < t.made
 keys : (t.slots.map (·.1)).Nodup
 nums : (t.slots.map (·.2)).Nodup
 val : 8 ≤ t.val ∧ t.val ≤ 64
 max : 1 ≤ t.max ∧ t.max ≤ 16
 key : 1 ≤ t.key ∧ t.key ≤ 16
 few : (t.slots.length : Int) ≤ t.max
 size : ∀ p ∈ t.slots, (p.1.size : Int) = t.key
structure Wf (V : Areas × List TM) : Prop where
 few : V.2.length ≤ 8
 maps : ∀ t ∈ V.2, MapWf t
 areas : ∀ (i s : Nat) t, V.2[i]? = some t → s < t.made → ∃ A, V.1.lookup (tarea i s) = some A ∧ (A.bytes.length : Int) = t.val ∧ (A.put.length : Int) = t.val ∧ A.fixed = false
 free : ∀ (i s : Nat), i < 8 → s < 1024 → (∀ t, V.2[i]? = some t → t.made ≤ s) → V.1.lookup (tarea i s) = none
theorem Wf.small {V : Areas × List TM} (h : Wf V) : ∀ t ∈ V.2, t.slots.length ≤ 1000 ∧ ∀ p ∈ t.slots, p.1.size ≤ 1000 := fun t ht => by
 have h1 := h.maps t ht
 have h2 := h1.max
 have h3 := h1.few
 have h4 := h1.key
 exact ⟨by omega, fun p hp => by have := h1.size p hp; omega⟩
theorem tarea_inj {i j : Nat} {s r : Nat} (hs : s < 1024) (hr : r < 1024) (h : tarea i s = tarea j r) : i = j ∧ s = r := by
 simp only [tarea] at h
 omega
theorem strOf_size (ks : List Int) : (strOfNums ks).size = ks.length := by
 simp [strOfNums, ByteArray.size]
theorem pick_nat {α : Type} (L : List α) (i : Nat) : pick L (i : Int) = L[i]? := by
 simp only [pick]
 rw [if_neg (by omega), Int.toNat_natCast]
theorem pick_some {α : Type} {L : List α} {i : Int} {x : α} (h : pick L i = some x) : ∃ j : Nat, i = j ∧ L[j]? = some x := by
 unfold pick at h
 split at h
 ·cases h
 ·exact ⟨i.toNat, by omega, h⟩
theorem tslot_spec {V : Areas × List TM} (h : Wf V) {i : Nat} {t : TM} (hp : V.2[i]? = some t) {s : ByteArray} {vs : List Int} (hl : t.slots.lookup s = none) (hv : (vs.length : Int) = t.val) (hm : t.made < 1024) (hz : (s.size : Int) = t.key) (hf : (t.slots.length : Int) < t.max) :
  ∃ M', tslot V i s vs = some (M', V.2.set i (addSlot t s)) ∧ Wf (M', V.2.set i (addSlot t s)) ∧ ∀ n, M'.lookup n = if n = tarea i t.made then some (fullA vs) else V.1.lookup n := by
 have hi : i < V.2.length := (List.getElem?_eq_some_iff.1 hp).1
 have h8 := h.few
 have ht := h.maps t (List.mem_of_getElem? hp)
 have hval := ht.val
 have hfree := h.free i t.made (by omega) hm (fun t' ht' => by rw [hp] at ht'; injection ht' with e; subst e; exact Nat.le_refl _)
 have hmk : mmake V.1 (tarea i t.made) vs false false = (V.1 ++ [(tarea i t.made, fullA vs)], 0) := by
  have : ¬ ((V.1.lookup (tarea i t.made)).isSome = true ∨ tarea i t.made < 1 ∨ 2147483647 < tarea i t.made) := by
   rw [hfree]; simp only [tarea]; simp; omega
  rw [mmake, if_neg this, if_neg (by omega)]
  congr 3
  simp only [fullA, Bool.not_false, List.map_const']
 have hlook : ∀ n, (V.1 ++ [(tarea i t.made, fullA vs)]).lookup n = if n = tarea i t.made then some (fullA vs) else V.1.lookup n := by
  intro n
  rw [lookup_snoc]
  by_cases hn : n = tarea i t.made
  ·rw [hn, hfree]; simp
  ·rw [if_neg hn]
   have : (n == tarea i t.made) = false := by simpa using hn
   rw [this]; simp
 refine ⟨V.1 ++ [(tarea i t.made, fullA vs)], ?_, ?_, hlook⟩
 ·simp only [tslot, pick_nat, hp]
  rw [if_neg (by omega), hmk]
  simp
 ·refine ⟨by simp; exact h8, ?_, ?_, ?_⟩
  ·intro t' ht'
   rcases List.mem_or_eq_of_mem_set ht' with h1 | rfl
   ·exact h.maps t' h1
   ·have hnk : s ∉ t.slots.map (·.1) := by
     intro hs
     obtain ⟨p, hp1, hp2⟩ := List.mem_map.1 hs
     exact lookup_no hl p hp1 hp2
    refine ⟨?_, ?_, ?_, ?_, hval, ht.max, ht.key, ?_, ?_⟩
    ·simp only [addSlot]; omega
    ·intro p hp1
     simp only [addSlot, List.mem_append, List.mem_singleton] at hp1 ⊢
     rcases hp1 with hp1 | rfl
     ·have := ht.slots p hp1; omega
     ·simp
    ·simp only [addSlot, List.map_append, List.map_cons, List.map_nil]
     rw [List.nodup_append]
     exact ⟨ht.keys, by simp, fun a ha b hb e => by simp at hb; subst hb; subst e; exact hnk ha⟩
    ·simp only [addSlot, List.map_append, List.map_cons, List.map_nil]
     rw [List.nodup_append]
     refine ⟨ht.nums, by simp, fun a ha b hb e => ?_⟩
     simp at hb; subst hb; subst e
     obtain ⟨p, hp1, hp2⟩ := List.mem_map.1 ha
     have := ht.slots p hp1
     omega
    ·simp only [addSlot, List.length_append, List.length_singleton]; omega
    ·intro p hp1
     simp only [addSlot, List.mem_append, List.mem_singleton] at hp1 ⊢
     rcases hp1 with hp1 | rfl
     ·exact ht.size p hp1
     ·exact hz
  ·intro j r t' ht' hr
   simp only at ht' ⊢
   rw [hlook]
   by_cases hj : j = i
   ·subst hj
    rw [List.getElem?_set_self hi] at ht'
    injection ht' with ht'
    subst ht'
    simp only [addSlot] at hr ⊢
    by_cases he : r = t.made
    ·subst he
     rw [if_pos rfl]
     exact ⟨_, rfl, hv, by simp only [fullA, List.length_replicate]; exact hv, rfl⟩
    ·rw [if_neg (fun e => he (tarea_inj (by omega) (by omega) e).2)]
     exact h.areas j r t hp (by omega)
   ·rw [List.getElem?_set_ne (by omega)] at ht'
    have hmd := (h.maps t' (List.mem_of_getElem? ht')).made
    rw [if_neg (fun e => hj (tarea_inj (by omega) (by omega) e).1)]
    exact h.areas j r t' ht' hr
  ·intro j r hj8 hr hfr
   simp only at hfr ⊢
   rw [hlook]
   by_cases hj : j = i
   ·subst hj
    have h1 := hfr _ (List.getElem?_set_self hi)
    simp only [addSlot] at h1
    rw [if_neg (fun e => by have := (tarea_inj (by omega) (by omega) e).2; omega)]
    exact h.free j r hj8 hr (fun t' ht' => by rw [hp] at ht'; injection ht' with e; subst e; omega)
   ·rw [if_neg (fun e => hj (tarea_inj (by omega) (by omega) e).1)]
    exact h.free j r hj8 hr (fun t' ht' => hfr t' (by rw [List.getElem?_set_ne (by omega)]; exact ht'))
theorem mem_lookup {α : Type} {L : List (ByteArray × α)} (hn : (L.map (·.1)).Nodup) {k : ByteArray} {x : α} (h : (k, x) ∈ L) : L.lookup k = some x := by
 induction L with
 | nil => cases h
 | cons p L ih =>
  obtain ⟨m, y⟩ := p
  rw [List.map_cons, List.nodup_cons] at hn
  rcases List.mem_cons.1 h with e | h
  ·injection e with e1 e2; subst e1; subst e2; simp [List.lookup]
  ·have hne : k ≠ m := fun e => hn.1 (e ▸ List.mem_map.2 ⟨_, h, rfl⟩)
   simp only [List.lookup, ba_ne hne]
   exact ih hn.2 h
def nums (k : Nat) : List (ByteArray × Nat) := (List.range k).map fun (j : Nat) => (numKey (j : Int), j)
theorem nums_succ (k : Nat) : nums (k + 1) = nums k ++ [(numKey (k : Int), k)] := by simp [nums, List.range_succ]
theorem nums_len (k : Nat) : (nums k).length = k := by simp [nums]
theorem nums_mem {k : Nat} {p : ByteArray × Nat} (h : p ∈ nums k) : p.2 < k ∧ p.1 = numKey (p.2 : Int) := by
 obtain ⟨j, hj, rfl⟩ := List.mem_map.1 h
 exact ⟨List.mem_range.1 hj, rfl⟩
theorem numKey_size (n : Int) : (numKey n).size = 4 := strOf_size _
theorem nums_none {k : Nat} (h : k < 256) : (nums k).lookup (numKey (k : Int)) = none := by
 cases hl : (nums k).lookup (numKey (k : Int)) with
 | none => rfl
 | some s =>
  have h1 := nums_mem (lookup_mem' hl)
  simp only at h1
  have := nk_inj (by omega) (by omega) h1.2
  omega
def fullT (d : TDef) : TM := if d.hash then d.tm else { d.tm with slots := nums d.max.toNat, made := d.max.toNat }
theorem tfill_spec {V : Areas × List TM} (h : Wf V) {i : Nat} {t : TM} (hp : V.2[i]? = some t) (hk : t.key = 4) (h0 : t.slots = []) (h1 : t.made = 0) {n : Nat} (hn : (n : Int) = t.val) (k : Nat) (hkm : (k : Int) ≤ t.max) :
  ∃ M', tfill V i n k = some (M', V.2.set i { t with slots := nums k, made := k }) ∧ Wf (M', V.2.set i { t with slots := nums k, made := k }) ∧
   ∀ m, M'.lookup m = if ∃ s, s < k ∧ m = tarea i (s : Nat) then some (fullA (List.replicate n 0)) else V.1.lookup m := by
 have hi : i < V.2.length := (List.getElem?_eq_some_iff.1 hp).1
 have hm16 := (h.maps t (List.mem_of_getElem? hp)).max
 induction k with
 | zero =>
  have e : V.2.set i { t with slots := nums 0, made := 0 } = V.2 := by
   apply List.ext_getElem?
   intro j
   rw [List.getElem?_set]
   by_cases hj : i = j
   ·subst hj
    rw [if_pos rfl, if_pos hi, hp]
    obtain ⟨a, b, c, d, e, f⟩ := t
    simp only at h0 h1
    subst h0; subst h1
    rfl
   ·rw [if_neg hj]
  refine ⟨V.1, by rw [tfill, e], by rw [e]; exact h, fun m => ?_⟩
  rw [if_neg (fun ⟨s, hs, _⟩ => by omega)]
 | succ k ih =>
  obtain ⟨M1, e1, w1, l1⟩ := ih (by omega)
  obtain ⟨M2, e2, w2, l2⟩ := tslot_spec w1 (i := i) (t := { t with slots := nums k, made := k }) (List.getElem?_set_self hi) (s := numKey (k : Int)) (vs := List.replicate n 0) (nums_none (by omega)) (by simpa using hn) (by simp only; omega) (by simp only [numKey_size]; omega) (by simp only [nums_len]; omega)
  have e3 : (V.2.set i { t with slots := nums k, made := k }).set i (addSlot { t with slots := nums k, made := k } (numKey (k : Int))) = V.2.set i { t with slots := nums (k + 1), made := k + 1 } := by
   rw [List.set_set]
   congr 1
   simp only [addSlot, nums_succ]
  simp only at e2 w2 l2
  rw [e3] at e2 w2
  refine ⟨M2, by rw [tfill, e1, Option.bind_some, e2], w2, fun m => ?_⟩
  rw [l2, l1]
  by_cases hm : m = tarea i k
  ·rw [if_pos hm, if_pos ⟨k, by omega, hm⟩]
  ·rw [if_neg hm]
   by_cases he : ∃ s, s < k ∧ m = tarea i (s : Nat)
   ·rw [if_pos he, if_pos (he.imp fun s hs => ⟨by omega, hs.2⟩)]
   ·rw [if_neg he, if_neg]
    rintro ⟨s, hs, e⟩
    by_cases hsk : s = k
    ·subst hsk; exact hm e
    ·exact he ⟨s, by omega, e⟩
theorem push_wf {V : Areas × List TM} (h : Wf V) {d : TDef} (hd : mayD d = true) (h8 : V.2.length < 8) : Wf (V.1, V.2 ++ [d.tm]) := by
 have hm : MapWf d.tm := by
  simp only [mayD, Bool.and_eq_true, decide_eq_true_eq] at hd
  obtain ⟨⟨⟨⟨⟨hk, h1⟩, h2⟩, h3⟩, h4⟩, h5⟩ := hd
  refine ⟨by simp [TDef.tm], by simp [TDef.tm], by simp [TDef.tm], by simp [TDef.tm], ⟨h1, h2⟩, ⟨h4, h5⟩, ?_, ?_, by simp [TDef.tm]⟩
  ·simp only [TDef.tm]
   cases hh : d.hash
   ·rw [hh] at hk; simp at hk; omega
   ·rw [hh] at hk; simp at hk; exact hk
  ·simp only [TDef.tm, List.length_nil]; omega
 refine ⟨by simp; omega, ?_, ?_, ?_⟩
 ·intro t ht
  rcases List.mem_append.1 ht with ht | ht
  ·exact h.maps t ht
  ·rw [List.mem_singleton] at ht; subst ht; exact hm
 ·intro i s t ht hs
  simp only at ht ⊢
  by_cases hi : i < V.2.length
  ·rw [List.getElem?_append_left hi] at ht
   exact h.areas i s t ht hs
  ·rw [List.getElem?_append_right (by omega)] at ht
   have : i - V.2.length = 0 := by
    by_cases e : i - V.2.length = 0
    ·exact e
    ·rw [List.getElem?_eq_none (by simp; omega)] at ht; cases ht
   rw [this] at ht
   injection ht with ht
   subst ht
   simp only [TDef.tm] at hs
   omega
 ·intro i s hi hs hf
  simp only at hf ⊢
  refine h.free i s hi hs fun t ht => hf t ?_
  rw [List.getElem?_append_left (List.getElem?_eq_some_iff.1 ht).1]
  exact ht
theorem wf_nil : Wf ([], []) := ⟨by simp, by simp, fun i s t ht => by simp at ht, fun _ _ _ _ _ => rfl⟩
theorem tnews_spec {ds : List TDef} (hd : ∀ d ∈ ds, mayD d = true) (h8 : ds.length ≤ 8) (k : Nat) (hk : k ≤ ds.length) :
  ∃ M, tnews [] ds k = some (M, (ds.take k).map fullT) ∧ Wf (M, (ds.take k).map fullT) ∧ ∀ (i s : Nat) d, i < k → ds[i]? = some d → d.hash = false → s < d.max.toNat → M.lookup (tarea i s) = some (fullA (List.replicate d.val.toNat 0)) := by
 induction k with
 | zero => exact ⟨[], by simp [tnews], wf_nil, fun i s d hi => by omega⟩
 | succ k ih =>
  obtain ⟨M, e1, w1, l1⟩ := ih (by omega)
  obtain ⟨d, hdk⟩ := at_of_lt (xs := ds) (k := k) (by omega)
  have hmay := hd d (List.mem_of_getElem? hdk)
  have htk : (ds.take (k + 1)).map fullT = (ds.take k).map fullT ++ [fullT d] := by
   rw [List.take_add_one, hdk]; simp
  have hlen : ((ds.take k).map fullT).length = k := by simp; omega
  have hw := push_wf w1 hmay (by simp only [hlen]; omega)
  simp only at hw
  rw [tnews, e1, Option.bind_some, hdk, Option.bind_some, tnew1, htk]
  cases hh : d.hash with
  | true =>
   have ef : fullT d = d.tm := by rw [fullT, hh]; rfl
   rw [ef]
   refine ⟨M, by simp, hw, fun i s d' hi hd' hf hs => ?_⟩
   by_cases hik : i = k
   ·subst hik; rw [hdk] at hd'; injection hd' with e; subst e; rw [hh] at hf; cases hf
   ·exact l1 i s d' (by omega) hd' hf hs
  | false =>
   simp only [Bool.false_eq_true, if_false]
   have hmd := hmay
   simp only [mayD, hh, Bool.and_eq_true, decide_eq_true_eq, Bool.false_eq_true, if_false, beq_iff_eq] at hmd
   obtain ⟨⟨⟨⟨⟨hk4, hv1⟩, hv2⟩, hv3⟩, hm1⟩, hm2⟩ := hmd
   obtain ⟨M2, e2, w2, l2⟩ := tfill_spec hw (i := k) (t := d.tm) (by simp only; rw [List.getElem?_append_right (by omega), hlen, Nat.sub_self]; rfl) hk4 rfl rfl (n := d.val.toNat) (by simp only [TDef.tm]; omega) d.max.toNat (by simp only [TDef.tm]; omega)
   have es : ((ds.take k).map fullT ++ [d.tm]).set k { d.tm with slots := nums d.max.toNat, made := d.max.toNat } = (ds.take k).map fullT ++ [fullT d] := by
    rw [List.set_append_right _ _ (by omega)]
    simp only [hlen, Nat.sub_self, List.set_cons_zero]
    simp [fullT, hh]
   simp only at e2 w2 l2
   rw [es] at e2 w2
   refine ⟨M2, by simp only [hlen]; exact e2, w2, fun i s d' hi hd' hf hs => ?_⟩
   rw [l2]
   by_cases hik : i = k
   ·subst hik; rw [hdk] at hd'; injection hd' with e; subst e
    rw [if_pos ⟨s, hs, rfl⟩]
   ·rw [if_neg]
    ·exact l1 i s d' (by omega) hd' hf hs
    ·rintro ⟨r, hr, e⟩
     have hs16 : d'.max ≤ 16 := by
      have := hd d' (List.mem_of_getElem? hd')
      simp only [mayD, Bool.and_eq_true, decide_eq_true_eq] at this
      exact this.2
     exact hik (tarea_inj (by omega) (by omega) e).1
theorem tnew_spec {ds : List TDef} (hr : rightL ds = true) :
  ∃ M, tnew [] ds = some (M, ds.map fullT) ∧ Wf (M, ds.map fullT) ∧ ∀ (i s : Nat) d, ds[i]? = some d → d.hash = false → s < d.max.toNat → M.lookup (tarea i s) = some (fullA (List.replicate d.val.toNat 0)) := by
 have h := hr
 simp only [rightL, Bool.and_eq_true, decide_eq_true_eq, List.all_eq_true] at h
 obtain ⟨M, e, w, l⟩ := tnews_spec h.2 h.1 ds.length (Nat.le_refl _)
 rw [List.take_length] at e w
 exact ⟨M, by rw [tnew, if_pos hr, e], w, fun i s d hd => l i s d (List.getElem?_eq_some_iff.1 hd).1 hd⟩
theorem RTabAt.push {w wr w5 : World} {base tb : Nat} {S : RTabs} {lv : Value} {x : RM} (h : RTabAt w base tb S) (he : Ext w wr) (hx : Own w base 129 2 encKS x.lv x.T.slots) (hxf : ∀ j, x.lv.ownBlock = some j → j ∉ rtfoot tb S)
  (hmade : x.T.made ≤ 1024 ∧ ∀ p ∈ x.T.slots, p.2 ≤ 1024) (hk : Keep S.mv.ownBlock.toList wr w5) (hmv : ∀ k, lv.ownBlock = some k → S.mv.ownBlock = some k ∨ wr.heap.size ≤ k) (hl : Own w5 base 126 6 RM.enc lv (S.R ++ [x])) (hfew : S.R.length < 8) :
  RTabAt (w5.setCell ⟨tb, 1, none⟩ lv) base tb { S with mv := lv, R := S.R ++ [x] } ∧ Keep (rtfoot tb S) w (w5.setCell ⟨tb, 1, none⟩ lv) ∧ ∀ j ∈ rtfoot tb { S with mv := lv, R := S.R ++ [x] }, j ∈ rtfoot tb S ∨ x.lv.ownBlock = some j ∨ w.heap.size ≤ j := by
 have n0 := List.nodup_cons.1 h.apart
 have n1 := List.nodup_append.1 n0.2
 have n2 := List.nodup_append.1 n1.2.1
 have hlt := fun j hj => (h.lt j hj).2
 have hsz := he.size
 have htlt := heap_lt h.head
 have hxlt : ∀ j, x.lv.ownBlock = some j → j < w.heap.size := fun j hj => (hx.lt hj).2
 have hF : ∀ j ∈ S.mv.ownBlock.toList, j ∈ rtfoot tb S := fun j hj => by simp only [rtfoot, List.mem_cons, List.mem_append]; exact .inr (.inl hj)
 have hFlt : ∀ j ∈ S.mv.ownBlock.toList, j < w.heap.size := fun j hj => hlt j (hF j hj)
 have htF : tb ∉ S.mv.ownBlock.toList := fun hj => n0.1 (List.mem_append_left _ hj)
 have hin : ∀ y ∈ S.R, ∀ j, y.lv.ownBlock = some j → j ∈ S.R.flatMap (fun x => x.lv.ownBlock.toList) := fun y hy j hj => List.mem_flatMap.2 ⟨y, hy, by simpa using hj⟩
 have hrt : ∀ y ∈ S.R, ∀ j, y.lv.ownBlock = some j → j ∈ rtfoot tb S := fun y hy j hj => by simp only [rtfoot, List.mem_cons, List.mem_append]; exact .inr (.inr (.inl (hin y hy j hj)))
 have hrec : ∀ y ∈ S.R, ∀ j, y.lv.ownBlock = some j → j ∉ S.mv.ownBlock.toList := fun y hy j hj hj' => n1.2.2 j hj' j (List.mem_append_left _ (hin y hy j hj)) rfl
 have hmem : ∀ j ∈ rfoot S.rb S.lv S.L, j ∉ S.mv.ownBlock.toList := fun j hj hj' => n1.2.2 j hj' j (List.mem_append_right _ hj) rfl
 have htx : ∀ j, x.lv.ownBlock = some j → j ≠ tb ∧ j ∉ S.mv.ownBlock.toList ∧ j ∉ S.R.flatMap (fun x => x.lv.ownBlock.toList) ∧ j ∉ rfoot S.rb S.lv S.L := fun j hj => by
  have := hxf j hj
  simp only [rtfoot, List.mem_cons, List.mem_append, not_or] at this
  exact ⟨this.1, this.2.1, this.2.2.1, this.2.2.2⟩
 have hlv : ∀ k, lv.ownBlock = some k → k ≠ tb ∧ (∀ y ∈ S.R ++ [x], y.lv.ownBlock ≠ some k) ∧ k ∉ rfoot S.rb S.lv S.L := by
  intro k hk'
  rcases hmv k hk' with h1 | h1
  ·have hin : k ∈ S.mv.ownBlock.toList := by simpa using h1
   refine ⟨fun e => htF (by rw [← e]; exact hin), fun y hy hy' => ?_, fun hj => hmem k hj hin⟩
   rcases List.mem_append.1 hy with hy | hy
   ·exact hrec y hy k hy' hin
   ·rw [List.mem_singleton] at hy
    subst hy
    exact (htx k hy').2.1 hin
  ·refine ⟨by omega, fun y hy hy' => ?_, fun hj => by have := hlt k (rfoot_sub tb S k hj); omega⟩
   rcases List.mem_append.1 hy with hy | hy
   ·have := hlt k (hrt y hy k hy'); omega
   ·rw [List.mem_singleton] at hy
    subst hy
    have := hxlt k hy'; omega
 have kk : Keep [tb] w5 (w5.setCell ⟨tb, 1, none⟩ lv) := (Keep.rfl' [tb] w5).setCell (by simp) _
 have o5 := hk.obj (he.obj h.head) htF
 have hone : ∀ y ∈ S.R ++ [x], Own w5 base 129 2 encKS y.lv y.T.slots ∧ ∀ j, y.lv.ownBlock = some j → j ≠ tb := by
  intro y hy
  rcases List.mem_append.1 hy with hy | hy
  ·exact ⟨((h.keys y hy).ext he).keep hk (hrec y hy), fun j hj e => n0.1 (List.mem_append_right _ (List.mem_append_left _ (by rw [← e]; exact hin y hy j hj)))⟩
  ·rw [List.mem_singleton] at hy
   subst hy
   exact ⟨(hx.ext he).keep hk (fun j hj => (htx j hj).2.1), fun j hj => (htx j hj).1⟩
 refine ⟨⟨?_, h.low, hl.keep kk (fun j hj => by simpa using (hlv j hj).1), fun y hy => (hone y hy).1.keep kk (fun j hj => by simpa using (hone y hy).2 j hj), ?_, ?_, by simp; omega, ?_⟩, ?_, ?_⟩
 ·have := heap_setCell_same w5 tb 1 _ _ lv o5
  simpa using this
 ·refine ((h.mem.ext he).keep hk hmem).keep kk (fun j hj => ?_)
  simp only [List.mem_singleton]
  intro e
  subst e
  exact n0.1 (List.mem_append_right _ (List.mem_append_right _ hj))
 ·have hb : (S.R ++ [x]).flatMap (fun x => x.lv.ownBlock.toList) = S.R.flatMap (fun x => x.lv.ownBlock.toList) ++ x.lv.ownBlock.toList := by simp
  simp only [rtfoot]
  rw [hb, List.nodup_cons, List.nodup_append, List.nodup_append, List.nodup_append]
  refine ⟨?_, opt_nodup'' _, ⟨⟨n2.1, opt_nodup'' _, ?_⟩, n2.2.1, ?_⟩, ?_⟩
  ·intro hj
   simp only [List.mem_append] at hj
   rcases hj with hj | (hj | hj) | hj
   ·exact (hlv tb (by simpa using hj)).1 rfl
   ·exact n0.1 (List.mem_append_right _ (List.mem_append_left _ hj))
   ·exact (htx tb (by simpa using hj)).1 rfl
   ·exact n0.1 (List.mem_append_right _ (List.mem_append_right _ hj))
  ·intro a ha b hb' e
   subst e
   exact (htx a (by simpa using hb')).2.2.1 ha
  ·intro a ha b hb' e
   subst e
   rcases List.mem_append.1 ha with ha | ha
   ·exact n2.2.2 a ha a hb' rfl
   ·exact (htx a (by simpa using ha)).2.2.2 hb'
  ·intro a ha b hb' e
   subst e
   have h2 := hlv a (by simpa using ha)
   rcases List.mem_append.1 hb' with hb' | hb'
   ·rcases List.mem_append.1 hb' with hb' | hb'
    ·obtain ⟨y, hy, hya⟩ := List.mem_flatMap.1 hb'
     exact h2.2.1 y (List.mem_append_left _ hy) (by simpa using hya)
    ·exact h2.2.1 x (by simp) (by simpa using hb')
   ·exact h2.2.2 hb'
 ·intro y hy
  rcases List.mem_append.1 hy with hy | hy
  ·exact h.made y hy
  ·rw [List.mem_singleton] at hy
   subst hy
   exact hmade
 ·exact (((Keep.of_ext he).trans (hk.mono fun j hj => .inl hj)).mono fun j hj => .inl (hF j hj)).setCell (by simp [rtfoot]) _
 ·intro j hj
  simp only [rtfoot, List.mem_cons, List.mem_append, List.flatMap_append, List.flatMap_cons, List.flatMap_nil, List.append_nil] at hj ⊢
  rcases hj with hj | hj | (hj | hj) | hj
  ·exact .inl (.inl hj)
  ·rcases hmv j (by simpa using hj) with h1 | h1
   ·exact .inl (.inr (.inl (by simpa using h1)))
   ·exact .inr (.inr (by omega))
  ·exact .inl (.inr (.inr (.inl hj)))
  ·exact .inr (.inl (by simpa using hj))
  ·exact .inl (.inr (.inr (.inr hj)))
def rfill (M : Areas) (i : Int) (val : Nat) : Nat → Option Areas
 | 0 => some M
 | k + 1 => (rfill M i val k).bind fun M' => if (mmake M' (tarea i k) (List.replicate val 0) false false).2 = 0 then some (mmake M' (tarea i k) (List.replicate val 0) false false).1 else none
def TDef.full (d : TDef) : TM := { d.tm with slots := nums d.max.toNat, made := d.max.toNat }
def rnew1 (V : Areas × List TM) (d : TDef) : Option (Areas × List TM) :=
 if d.hash then some (V.1, V.2 ++ [d.tm]) else (rfill V.1 V.2.length d.val.toNat d.max.toNat).map fun M => (M, V.2 ++ [d.full])
def rnews (M : Areas) (ds : List TDef) : Nat → Option (Areas × List TM)
 | 0 => some (M, [])
 | k + 1 => (rnews M ds k).bind fun V => (ds[k]?).bind (rnew1 V)
def rnew (M : Areas) (ds : List TDef) : Option (Areas × List TM) := if rightL ds then rnews M ds ds.length else none
end Go.Proofs.YtppefchjoodgnaaGreat
