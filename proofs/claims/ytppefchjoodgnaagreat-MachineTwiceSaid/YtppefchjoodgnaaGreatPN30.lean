/- What the claim leans on: MsH · Pt. -/
import Derived.Test.YtppefchjoodgnaaGreatPN29
import Derived.Test.YtppefchjoodgnaaGreatPN03
namespace Go.Proofs.YtppefchjoodgnaaGreat
open Go.RowKit
set_option linter.unusedVariables false
set_option linter.unusedSimpArgs false
structure TabOk (t : TM) : Prop where
 few : (t.slots.length : Int) ≤ t.max
 max : t.max ≤ 16
 key : t.key ≤ 16
 keys : ∀ p ∈ t.slots, p.1.size ≤ 1000
structure RS.Core (σ : RS) : Prop where
 ok : σ.Ok
 tab : ∀ t ∈ σ.V.2, TabOk t
 dr : U64s σ.dr
 drl : σ.dr.length ≤ 1000000
section
variable {σ : RS}
theorem RS.Core.setR (h : σ.Core) {n : Int} (hn : u64R n) (d : Nat) : (σ.setR d n).Core := by
 refine ⟨fun e he => ?_, h.tab, h.dr, h.drl⟩
 show u64R (updN σ.R d n e)
 unfold updN
 split
 ·exact hn
 ·exact h.ok e he
theorem RS.Core.setM (h : σ.Core) (M : Areas) : (σ.setM M).Core := ⟨h.ok, h.tab, h.dr, h.drl⟩
theorem RS.Core.setV (h : σ.Core) {V : Areas × List TM} (hV : ∀ t ∈ V.2, TabOk t) : ({ σ with V := V } : RS).Core := ⟨h.ok, hV, h.dr, h.drl⟩
theorem tf_key {T : List TM} {i : Int} {n : Nat} {t : TM} (h : tfind T i n = some t) : t ∈ T ∧ (n : Int) = t.key := by
 rcases tfind_cases' T i n with h1 | ⟨j, u, hj, hu, hk⟩
 ·rw [h1] at h; cases h
 ·subst hj
  rw [tfind_at' hu hk] at h
  cases h
  exact ⟨List.mem_of_getElem? hu, hk⟩
theorem rput_tab {V : Areas × List TM} {i : Int} {ks vs : List Int} {fl : Int} (h : ∀ t ∈ V.2, TabOk t) : ∀ t ∈ (rput V i ks vs fl).1.2, TabOk t := by
 unfold rput
 cases hf : tfind V.2 i ks.length with
 | none => exact h
 | some t =>
  have ht := tf_key hf
  have hT := h t ht.1
  simp only
  by_cases h1 : (vs.length : Int) ≠ t.val
  ·rw [if_pos h1]; exact h
  rw [if_neg h1]
  by_cases h2 : 2 < fl
  ·rw [if_pos h2]; exact h
  rw [if_neg h2]
  cases hl : t.slots.lookup (strOfNums ks) with
  | some n =>
   simp only
   by_cases h3 : fl = 1
   ·rw [if_pos h3]; exact h
   ·rw [if_neg h3]; exact h
  | none =>
   simp only
   by_cases h3 : t.hash = false
   ·rw [if_pos h3]; exact h
   rw [if_neg h3]
   by_cases h4 : fl = 2
   ·rw [if_pos h4]; exact h
   rw [if_neg h4]
   by_cases h5 : t.max ≤ t.slots.length
   ·rw [if_pos h5]; exact h
   rw [if_neg h5]
   by_cases h6 : 1024 ≤ t.made
   ·rw [if_pos h6]; exact h
   rw [if_neg h6]
   by_cases h7 : (mmake V.1 (tarea i t.made) vs false false).2 = 0
   ·rw [if_pos h7]
    intro u hu
    rcases List.mem_or_eq_of_mem_set hu with hu | rfl
    ·exact h u hu
    ·have hlen : (addR t (strOfNums ks)).slots.length = t.slots.length + 1 := by
      have h8 := congrArg List.length (List.takeWhile_append_dropWhile (p := ltK (strOfNums ks)) (l := t.slots))
      simp only [List.length_append] at h8
      simp only [addR, List.length_append, List.length_singleton]
      omega
     refine ⟨by rw [hlen]; show ((t.slots.length + 1 : Nat) : Int) ≤ t.max; omega, hT.max, hT.key, fun p hp => ?_⟩
     simp only [addR, List.mem_append, List.mem_singleton] at hp
     rcases hp with (hp | rfl) | hp
     ·exact hT.keys p ((List.takeWhile_sublist _).subset hp)
     ·show (strOfNums ks).size ≤ 1000
      rw [strOf_size]
      have := ht.2
      have := hT.key
      omega
     ·exact hT.keys p ((List.dropWhile_sublist _).subset hp)
   ·rw [if_neg h7]; exact h
theorem rdrop_tab {T : List TM} {i : Int} {ks : List Int} (h : ∀ t ∈ T, TabOk t) : ∀ t ∈ (rdrop T i ks).1, TabOk t := by
 unfold rdrop
 cases hf : tfind T i ks.length with
 | none => exact h
 | some t =>
  have hT := h t (tf_key hf).1
  simp only
  by_cases h1 : t.hash = false
  ·rw [if_pos h1]; exact h
  rw [if_neg h1]
  by_cases h2 : (t.slots.filter (neK (strOfNums ks))).length = t.slots.length
  ·rw [if_pos h2]; exact h
  rw [if_neg h2]
  intro u hu
  rcases List.mem_or_eq_of_mem_set hu with hu | rfl
  ·exact h u hu
  ·have := List.length_filter_le (neK (strOfNums ks)) t.slots
   exact ⟨by have := hT.few; simp only; omega, hT.max, hT.key, fun p hp => hT.keys p (List.mem_filter.1 hp).1⟩
theorem rput_ret (V : Areas × List TM) (i : Int) (ks vs : List Int) (fl : Int) : u64R (rput V i ks vs fl).2.1 := by
 unfold rput
 (repeat' split) <;> (simp only [u64R]; omega)
theorem rdrop_ret (T : List TM) (i : Int) (ks : List Int) : u64R (rdrop T i ks).2.1 := by
 unfold rdrop
 (repeat' split) <;> (simp only [u64R]; omega)
theorem tlook_ret (T : List TM) (i : Int) (ks : List Int) : u64R (tlook T i ks).1 := by
 unfold tlook
 (repeat' split) <;> first | exact mat_le _ _ | (simp only [u64R]; omega)
theorem drawn_rng (id : Int) (xs : List Int) : u64R (drawn id xs) := by
 unfold drawn
 (repeat' split) <;> first | exact bits_rng _ _ _ (by simp) | (simp only [u64R]; omega)
theorem rest_sub (id : Int) (xs : List Int) : List.Sublist (drawnRest id xs) xs := by
 unfold drawnRest
 split
 ·exact List.drop_sublist _ _
 ·exact List.nil_sublist _
theorem RS.Core.drawn (h : σ.Core) (id : Int) : ({ σ with dr := drawnRest id σ.dr } : RS).Core :=
 ⟨h.ok, h.tab, fun x hx => h.dr x ((rest_sub id σ.dr).subset hx), Nat.le_trans (rest_sub id σ.dr).length_le h.drl⟩
theorem RS.Core.done (h : σ.Core) {c : Cl} (hc : u64R c.ret) : (σ.done c).Core := by
 refine ⟨fun e he => ?_, h.tab, h.dr, h.drl⟩
 show u64R (updN (fun j => if 1 ≤ j ∧ j ≤ 5 then 0 else σ.R j) 0 c.ret e)
 unfold updN
 split
 ·exact hc
 ·show u64R (if 1 ≤ e ∧ e ≤ 5 then 0 else σ.R e)
  split
  ·exact ⟨by decide, by decide⟩
  ·exact h.ok e he
theorem acts_tab (h : σ.Core) (c : Cl) : (∀ t ∈ (σ.acts c).1.2, TabOk t) ∧ u64R (σ.acts c).2.1 := by
 unfold RS.acts
 by_cases h1 : c.id = 1
 ·rw [if_pos h1]; exact ⟨h.tab, tlook_ret _ _ _⟩
 rw [if_neg h1]
 by_cases h2 : c.id = 2
 ·rw [if_pos h2]; exact ⟨rput_tab h.tab, rput_ret _ _ _ _ _⟩
 rw [if_neg h2]
 by_cases h3 : c.id = 3
 ·rw [if_pos h3]; exact ⟨rdrop_tab h.tab, rdrop_ret _ _ _⟩
 rw [if_neg h3]
 exact ⟨h.tab, by simp only [u64R]; omega⟩
structure Left (σ σ' : RS) (n : Nat) : Prop where
 L : σ'.L = σ.L
 D : σ'.D = σ.D
 place : σ'.place = σ.place
 code : σ'.code = σ.code
 steps : σ'.steps = σ.steps
 calls : σ'.calls.length ≤ σ.calls.length + n
theorem Left.rfl' (n : Nat) : Left σ σ n := ⟨rfl, rfl, rfl, rfl, rfl, by omega⟩
theorem left_set (d : Nat) (n : Int) (m : Nat) : Left σ (σ.setR d n) m := ⟨rfl, rfl, rfl, rfl, rfl, by show σ.calls.length ≤ _; omega⟩
theorem call_core (h : σ.Core) (x : Ins) : (σ.call x).1.Core ∧ Left σ (σ.call x).1 1 := by
 have hd : ∀ (s : RS) (c : Cl), Left σ s 0 → Left σ (s.done c) 1 := fun s c hl => ⟨hl.L, hl.D, hl.place, hl.code, hl.steps, by show (s.calls ++ [c]).length ≤ _; have := hl.calls; simp; omega⟩
 unfold RS.call
 by_cases h1 : helper x.imm = false
 ·rw [if_pos h1]; exact ⟨h, Left.rfl' _⟩
 rw [if_neg h1]
 by_cases h2 : (σ.told x.imm).2 ≠ 0
 ·rw [if_pos h2]; exact ⟨h, Left.rfl' _⟩
 rw [if_neg h2]
 by_cases h3 : draws x.imm = true
 ·rw [if_pos h3]
  by_cases h4 : drawnErr x.imm σ.dr ≠ 0
  ·rw [if_pos h4]; exact ⟨h, Left.rfl' _⟩
  rw [if_neg h4]
  exact ⟨(h.drawn x.imm).done (drawn_rng _ _), hd _ _ ⟨rfl, rfl, rfl, rfl, rfl, Nat.le_refl _⟩⟩
 rw [if_neg h3]
 have ha := acts_tab h (σ.told x.imm).1
 by_cases h4 : (σ.acts (σ.told x.imm).1).2.2 ≠ 0
 ·rw [if_pos h4]; exact ⟨h.setV ha.1, ⟨rfl, rfl, rfl, rfl, rfl, by show σ.calls.length ≤ _; omega⟩⟩
 rw [if_neg h4]
 exact ⟨(h.setV ha.1).done ha.2, hd _ _ ⟨rfl, rfl, rfl, rfl, rfl, Nat.le_refl _⟩⟩
theorem rev_rng : ∀ (k : Nat) (x o : Int), u64R o → u64R (revN k x o)
 | 0, x, o, h => h
 | k + 1, x, o, h => by
  rw [revN]
  exact rev_rng k _ _ (by unfold u64R; omega)
theorem swap_rng {t : Bool} {n a : Int} (hn : n = 16 ∨ n = 32 ∨ n = 64) (h0 : 0 ≤ a) (h1 : a ≤ 18446744073709551615) : u64R (swapN t n a) := by
 have hc := cutN_le h0 h1 (show wid n from .inr hn)
 unfold swapN
 split
 ·exact rev_rng _ _ _ ⟨by decide, by decide⟩
 ·exact ⟨hc.1, hc.2.1⟩
theorem does_core {x : Ins} {k : Wh} (h : σ.Core) (hb : BytesOk σ.V.1) (hx : x.Ok) (hk : KindOk x k) : (σ.does x k).1.Core ∧ Left σ (σ.does x k).1 1 := by
 have hk12 : k.kind = 1 ∨ k.kind = 2 ∨ k.kind = 3 ∨ k.kind = 4 ∨ k.kind = 5 ∨ (k.kind = 6 ∨ k.kind = 7 ∨ k.kind = 8) ∨ k.kind = 9 ∨ k.kind = 10 ∨ k.kind = 11 ∨ k.kind = 12 := by have := hk.rng; omega
 have hdd : x.dst.toNat ≤ 10 := by have := hk.dst; omega
 have hR := h.ok _ hdd
 have hB := second_rng h.ok x k hk.src
 rcases hk12 with e | e | e | e | e | e | e | e | e | e
 ·simp only [RS.does, e, if_true]
  unfold RS.arith
  split
  ·exact ⟨h, Left.rfl' _⟩
  ·refine ⟨h.setR (alu_rng (hk.k1 e) hR ?_) _, left_set _ _ _⟩
   unfold negB
   split
   ·exact ⟨by decide, by decide⟩
   ·exact hB
 ·have hs := hk.k2 e
  simp [RS.does, e]
  split
  ·exact ⟨h, Left.rfl' _⟩
  ·exact ⟨h.setR (swap_rng (by omega) hR.1 hR.2) _, left_set _ _ _⟩
 ·simp [RS.does, e]
  cases hy : σ.L[σ.place.toNat + 1]? with
  | none => exact ⟨h, Left.rfl' _⟩
  | some y => exact ⟨h.setR (by unfold longN u64R; omega) _, left_set _ _ _⟩
 ·simp [RS.does, e]
  split
  ·exact ⟨h, Left.rfl' _⟩
  ·have := hk.k4 e
   have := hx.imm
   exact ⟨h.setR (by unfold u64R; omega) _, left_set _ _ _⟩
 ·simp only [RS.does, e]
  simp
  unfold RS.load
  have hl := mload_rng hb (σ.addr x.src x) k.size
  split
  ·exact ⟨h, Left.rfl' _⟩
  ·split
   ·exact ⟨h, Left.rfl' _⟩
   ·refine ⟨h.setR ?_ _, left_set _ _ _⟩
    split
    ·have hsz := hk.km (by omega) (by omega)
     exact sign_rng (by simp only [wid]; omega) hl.1 hl.2
    ·exact hl
 ·have he : k.kind ≠ 1 ∧ k.kind ≠ 2 ∧ k.kind ≠ 3 ∧ k.kind ≠ 4 ∧ k.kind ≠ 5 := by omega
  simp only [RS.does, he.1, he.2.1, he.2.2.1, he.2.2.2.1, he.2.2.2.2, if_false, e, if_true]
  unfold RS.store RS.putM
  split
  ·exact ⟨h, Left.rfl' _⟩
  ·split
   ·split
    ·exact ⟨h, Left.rfl' _⟩
    ·exact ⟨h.setM _, ⟨rfl, rfl, rfl, rfl, rfl, by show σ.calls.length ≤ _; omega⟩⟩
   ·exact ⟨h.setM _, ⟨rfl, rfl, rfl, rfl, rfl, by show σ.calls.length ≤ _; omega⟩⟩
 ·simp [RS.does, e]
  exact ⟨h, Left.rfl' _⟩
 ·simp [RS.does, e]
  split
  ·exact ⟨h, Left.rfl' _⟩
  ·exact ⟨h, Left.rfl' _⟩
 ·simp only [RS.does, e]
  simp
  exact call_core h x
 ·simp [RS.does, e]
  split
  ·exact ⟨h, Left.rfl' _⟩
  ·exact ⟨⟨h.ok, h.tab, h.dr, h.drl⟩, ⟨rfl, rfl, rfl, rfl, rfl, by show σ.calls.length ≤ _; omega⟩⟩
structure RS.Inv (σ : RS) : Prop where
 core : σ.Core
 prog : progS σ.L = true
 ins : InsOk σ.L
 calls : (σ.calls.length : Int) ≤ σ.steps
 place : 0 ≤ σ.place ∧ (stF false σ.L)[σ.place.toNat]? = some true
theorem RS.Inv.good (h : σ.Inv) (hs : σ.steps ≤ 1000000) : σ.Good :=
 ⟨h.core.ok, fun t ht => by have := h.core.tab t ht; have := this.few; have := (h.core.tab t ht).max; omega, h.core.dr, h.core.drl, by have := h.calls; omega, (ProgF.of h.prog).len.2, ⟨by have := h.calls; omega, hs⟩, h.ins⟩
theorem start_on {L : List Ins} (hp : progS L = true) (hi : InsOk L) {p : Nat} (hs : (stF false L)[p]? = some true) : ∃ x, L[p]? = some x ∧ x.Ok ∧ KindOk x (whatZ x) ∧ wholeS L x p = true ∧ ((whatZ x).kind = 3 → ∃ y, L[p + 1]? = some y) := by
 have hlt : p < L.length := by rw [← stF_length false L]; exact (List.getElem?_eq_some_iff.1 hs).1
 obtain ⟨x, hx⟩ : ∃ x, L[p]? = some x := ⟨_, List.getElem?_eq_getElem hlt⟩
 have hw : wholeS L x p = true := by rw [← (ok1_at hs hx).1]; exact (ProgF.of hp).o1 p hlt
 have hsome : (whatS x).isSome = true := by
  unfold wholeS at hw
  rw [Bool.and_eq_true] at hw
  exact hw.1
 obtain ⟨k, hk⟩ := Option.isSome_iff_exists.1 hsome
 have hz : whatZ x = k := by unfold whatZ; rw [hk]; rfl
 have hko := kind_ok x k hk
 refine ⟨x, hx, hi.at hx, by rw [hz]; exact hko, hw, fun h3 => ?_⟩
 have h24 : x.op = 24 := hko.k3.1 (.inl (by rw [← hz]; exact h3))
 unfold wholeS at hw
 rw [Bool.and_eq_true] at hw
 have h2 := hw.2
 rw [h24] at h2
 cases hy : L[p + 1]? with
 | none => rw [hy] at h2; simp at h2
 | some y => exact ⟨y, rfl⟩
theorem RS.Inv.on (h : σ.Inv) : ∃ x, σ.On σ.place.toNat x := by
 obtain ⟨x, h1, h2, h3, _, h5⟩ := start_on h.prog h.ins h.place.2
 exact ⟨x, by have := h.place.1; omega, h1, h2, h3, h5⟩
theorem target_some {L : List Ins} (hp : progS L = true) {p : Nat} {x : Ins} (hs : (stF false L)[p]? = some true) (hx : L[p]? = some x) (hk : (whatZ x).kind = 9 ∨ (whatZ x).kind = 10) : ∃ t, targetS L x p = some t := by
 have h2 := (ProgF.of hp).o2 p (List.getElem?_eq_some_iff.1 hx).1
 rw [(ok1_at hs hx).2.1] at h2
 unfold targetS
 cases ht : toS x p with
 | none => unfold toS at ht; rw [if_pos hk] at ht; cases ht
 | some t =>
  rw [ht] at h2
  simp only [jumpOk, Bool.and_eq_true, decide_eq_true_eq] at h2
  exact ⟨t, by simp only; rw [if_pos ⟨h2.1, h2.2.1⟩]⟩
theorem call_over (x : Ins) : (σ.call x).1.over = σ.over := by
 unfold RS.call
 (repeat' split) <;> rfl
theorem call_err (x : Ins) (h : (σ.call x).2 ≠ 0) : (σ.call x).1.calls = σ.calls := by
 revert h
 unfold RS.call
 (repeat' split) <;> intro h <;> first | rfl | exact absurd rfl h
theorem ite_ca {c : Prop} [Decidable c] {a b : RS × Int × Int} {n : List Cl} (ha : a.1.calls = n) (hb : b.1.calls = n) : (if c then a else b).1.calls = n := by split <;> assumption
theorem ite_ca2 {c : Prop} [Decidable c] {a b : RS × Int} {n : List Cl} (ha : a.1.calls = n) (hb : b.1.calls = n) : (if c then a else b).1.calls = n := by split <;> assumption
theorem does_calls (x : Ins) (k : Wh) (hk : k.kind ≠ 11) : (σ.does x k).1.calls = σ.calls := by
 unfold RS.does
 rw [if_neg hk]
 refine ite_ca (ite_ca2 rfl rfl) (ite_ca (ite_ca rfl rfl) (ite_ca ?_ (ite_ca (ite_ca rfl rfl) (ite_ca (ite_ca2 rfl (ite_ca2 rfl rfl)) (ite_ca (ite_ca2 rfl (ite_ca2 (ite_ca2 rfl rfl) rfl)) (ite_ca rfl (ite_ca (ite_ca rfl rfl) (ite_ca (ite_ca rfl rfl) rfl))))))))
 cases σ.L[σ.place.toNat + 1]? <;> rfl
theorem does_err (x : Ins) (k : Wh) (h : (σ.does x k).2.2 ≠ 0) : (σ.does x k).1.calls = σ.calls := by
 by_cases hk : k.kind = 11
 ·have e : σ.does x k = ((σ.call x).1, (nextI x σ.place.toNat : Int), (σ.call x).2) := by simp [RS.does, hk]
  rw [e] at h ⊢
  exact call_err x h
 ·exact does_calls x k hk
theorem does_next {x : Ins} {p : Nat} (hp : progS σ.L = true) (hon : σ.On p x) (hs : (stF false σ.L)[p]? = some true) (he : (σ.does x (whatZ x)).2.2 = 0) :
  ((whatZ x).kind = 12 ∧ (σ.does x (whatZ x)).2.1 = p ∧ (σ.does x (whatZ x)).1 = { σ with over := true }) ∨ ((σ.does x (whatZ x)).2.1 ∈ aheadL σ.L x p ∧ (σ.does x (whatZ x)).1.over = σ.over) := by
 obtain ⟨k, hk⟩ : ∃ k, whatZ x = k := ⟨_, rfl⟩
 have hpt : σ.place.toNat = p := by have := hon.place; omega
 have hko := hon.kind
 rw [hk] at he hko ⊢
 have hnext : k.kind ≠ 12 → k.kind ≠ 9 → ((nextI x p : Nat) : Int) ∈ aheadL σ.L x p := fun h1 h2 => mem_ahead.2 (.inl ⟨by unfold goesOn; rw [hk]; simp [h1, h2], rfl⟩)
 have htgt : k.kind = 9 ∨ k.kind = 10 → (targetS σ.L x p).getD 0 ∈ aheadL σ.L x p := fun h => by
  obtain ⟨t, ht⟩ := target_some hp hs hon.code (by rw [hk]; exact h)
  rw [ht]
  exact mem_ahead.2 (.inr (by rw [ht]; rfl))
 have hk12 : k.kind = 1 ∨ k.kind = 2 ∨ k.kind = 3 ∨ k.kind = 4 ∨ k.kind = 5 ∨ (k.kind = 6 ∨ k.kind = 7 ∨ k.kind = 8) ∨ k.kind = 9 ∨ k.kind = 10 ∨ k.kind = 11 ∨ k.kind = 12 := by have := hko.rng; omega
 rcases hk12 with e | e | e | e | e | e | e | e | e | e
 ·right
  refine ⟨?_, ?_⟩
  ·simp only [RS.does, e, if_true, hpt]; exact hnext (by omega) (by omega)
  ·simp only [RS.does, e, if_true]; unfold RS.arith; split <;> rfl
 ·right
  by_cases hS : σ.S x.dst.toNat = false
  ·simp [RS.does, e, hS] at he
  ·simp [RS.does, e, hS, hpt]; exact ⟨hnext (by omega) (by omega), rfl⟩
 ·right
  obtain ⟨y, hy⟩ := hon.long (by rw [hk]; exact e)
  simp [RS.does, e, hpt, hy]
  exact ⟨hnext (by omega) (by omega), rfl⟩
 ·right
  by_cases hS : (σ.D.length : Int) ≤ x.imm
  ·simp [RS.does, e, hS] at he
  ·simp [RS.does, e, hS, hpt]; exact ⟨hnext (by omega) (by omega), rfl⟩
 ·right
  refine ⟨?_, ?_⟩
  ·simp [RS.does, e, hpt]; exact hnext (by omega) (by omega)
  ·simp only [RS.does, e]; simp; unfold RS.load; (repeat' split) <;> rfl
 ·right
  have he' : k.kind ≠ 1 ∧ k.kind ≠ 2 ∧ k.kind ≠ 3 ∧ k.kind ≠ 4 ∧ k.kind ≠ 5 := by omega
  refine ⟨?_, ?_⟩
  ·simp only [RS.does, he'.1, he'.2.1, he'.2.2.1, he'.2.2.2.1, he'.2.2.2.2, if_false, e, if_true, hpt]; exact hnext (by omega) (by omega)
  ·simp only [RS.does, he'.1, he'.2.1, he'.2.2.1, he'.2.2.2.1, he'.2.2.2.2, if_false, e, if_true]; unfold RS.store RS.putM; (repeat' split) <;> rfl
 ·right
  refine ⟨?_, ?_⟩
  ·simp [RS.does, e, hpt]; exact htgt (.inl e)
  ·simp [RS.does, e]
 ·right
  by_cases hS : (σ.second x k).2 = false ∨ σ.S x.dst.toNat = false
  ·simp only [RS.does, e] at he; simp [hS] at he
  ·refine ⟨?_, ?_⟩
   ·simp only [RS.does, e, hpt]
    simp only [show ¬ ((10 : Int) = 1) by decide, show ¬ ((10 : Int) = 2) by decide, show ¬ ((10 : Int) = 3) by decide, show ¬ ((10 : Int) = 4) by decide, show ¬ ((10 : Int) = 5) by decide, show ¬ ((10 : Int) = 6 ∨ (10 : Int) = 7 ∨ (10 : Int) = 8) by decide, show ¬ ((10 : Int) = 9) by decide, if_false, if_true, hS]
    split
    ·exact htgt (.inr e)
    ·exact hnext (by omega) (by omega)
   ·simp only [RS.does, e]
    simp [hS]
 ·right
  refine ⟨?_, ?_⟩
  ·simp [RS.does, e, hpt]; exact hnext (by omega) (by omega)
  ·simp only [RS.does, e]; simp; exact call_over x
 ·left
  by_cases hS : σ.S 0 = false
  ·simp [RS.does, e, hS] at he
  ·refine ⟨e, ?_, ?_⟩
   ·simp [RS.does, e, hS]; exact hon.place
   ·simp [RS.does, e, hS]
theorem RS.Inv.step (h : σ.Inv) (hb : BytesOk σ.V.1) : σ.step.1.Inv ∧ σ.step.1.L = σ.L ∧ σ.step.1.D = σ.D := by
 obtain ⟨x, hon⟩ := h.on
 unfold RS.step
 by_cases hov : σ.over = true
 ·rw [if_pos hov]; exact ⟨h, rfl, rfl⟩
 rw [if_neg hov, hon.code]
 simp only
 obtain ⟨hc, hl⟩ := does_core h.core hb hon.ok hon.kind
 have hcl := hl.calls
 have hcc := h.calls
 by_cases he : (σ.does x (whatZ x)).2.2 ≠ 0
 ·rw [if_pos he]
  refine ⟨⟨⟨hc.ok, hc.tab, hc.dr, hc.drl⟩, by show progS (σ.does x (whatZ x)).1.L = true; rw [hl.L]; exact h.prog, by show InsOk (σ.does x (whatZ x)).1.L; rw [hl.L]; exact h.ins, ?_, ?_⟩, hl.L, hl.D⟩
  ·show ((σ.does x (whatZ x)).1.calls.length : Int) ≤ (σ.does x (whatZ x)).1.steps
   rw [does_err _ _ he, hl.steps]
   exact h.calls
  ·show 0 ≤ (σ.does x (whatZ x)).1.place ∧ (stF false (σ.does x (whatZ x)).1.L)[(σ.does x (whatZ x)).1.place.toNat]? = some true
   rw [hl.L, hl.place]
   exact h.place
 ·rw [if_neg he]
  have he0 : (σ.does x (whatZ x)).2.2 = 0 := by simpa using he
  refine ⟨⟨⟨hc.ok, hc.tab, hc.dr, hc.drl⟩, by show progS (σ.does x (whatZ x)).1.L = true; rw [hl.L]; exact h.prog, by show InsOk (σ.does x (whatZ x)).1.L; rw [hl.L]; exact h.ins, ?_, ?_⟩, hl.L, hl.D⟩
  ·show ((σ.does x (whatZ x)).1.calls.length : Int) ≤ (σ.does x (whatZ x)).1.steps + 1
   rw [hl.steps]
   omega
  ·show 0 ≤ (σ.does x (whatZ x)).2.1 ∧ (stF false (σ.does x (whatZ x)).1.L)[(σ.does x (whatZ x)).2.1.toNat]? = some true
   rw [hl.L]
   rcases does_next h.prog hon h.place.2 he0 with ⟨_, h2, _⟩ | ⟨h2, _⟩
   ·rw [h2]; exact ⟨by omega, by rw [Int.toNat_natCast]; exact h.place.2⟩
   ·have := ahead_start (ProgF.of h.prog) h.place.2 hon.code h2
    exact ⟨this.1, this.2.2⟩
end
theorem mread_len {M : Areas} {p s : Int} (hp : 0 ≤ p) (h : (mread M p s).2 = 0) : ((mread M p s).1.length : Int) = s := by
 by_cases hb : s < 0 ∨ 1024 < s
 ·rw [read_bad hb] at h; simp at h
 ·cases hf : mfind M p s with
  | none => rw [read_none hb hf] at h; simp at h
  | some q =>
   obtain ⟨A, o⟩ := q
   cases hc : (cutL A.put o s.toNat).contains false with
   | true => rw [read_blank hb hf hc] at h; simp at h
   | false =>
    rw [read_ok hb hf hc]
    have := (find_le hp (by omega) hf).1
    simp only [cutL, List.length_take, List.length_drop]
    omega
def DefsOk (D : List TDef) : Prop := ∀ d ∈ D, 1 ≤ d.key ∧ 1 ≤ d.val
section
variable {σ : RS}
theorem told_tells {id : Int} (h : (σ.told id).2 = 0) : (σ.tells (Cl.new id) 0 (tolds id)).2 = 0 ∧ (σ.told id).1 = (σ.tells (Cl.new id) 0 (tolds id)).1 := by
 unfold RS.told at h ⊢
 by_cases hz : (σ.tells (Cl.new id) 0 (tolds id)).2 ≠ 0
 ·rw [if_pos hz] at h; exact absurd h hz
 ·rw [if_neg hz]; exact ⟨by simpa using hz, rfl⟩
theorem pick_in {α : Type} {L : List α} {i : Int} {x : α} (h : pick L i = some x) : x ∈ L := by
 unfold pick at h
 split at h
 ·cases h
 ·exact List.mem_of_getElem? h
theorem tell1 {c : Cl} {i : Nat} (h : (σ.tell c i 1).2 = 0) : (∃ d, pick σ.D (σ.tell c i 1).1.map = some d) ∧ (σ.tell c i 1).1.key = c.key ∧ (σ.tell c i 1).1.val = c.val := by
 unfold RS.tell at h ⊢
 by_cases hs : σ.S (i + 1) = false
 ·rw [if_pos hs] at h; simp at h
 ·rw [if_neg hs] at h ⊢
  rw [if_pos rfl] at h ⊢
  refine ⟨?_, rfl, rfl⟩
  simp only at h ⊢
  by_cases ht : tblN σ.D.length (σ.R (i + 1)) < 0
  ·rw [if_pos ht] at h; cases h
  ·unfold pick
   rw [if_neg ht]
   unfold tblN at ht ⊢
   by_cases hr : 12884901888 ≤ σ.R (i + 1) ∧ σ.R (i + 1) < 12884901888 + (σ.D.length : Int)
   ·rw [if_pos hr]
    exact ⟨_, List.getElem?_eq_getElem (by omega)⟩
   ·rw [if_neg hr] at ht; omega
theorem tell2 {c : Cl} {i : Nat} {d : TDef} (ho : u64R (σ.R (i + 1))) (hd : pick σ.D c.map = some d) (h : (σ.tell c i 2).2 = 0) : (σ.tell c i 2).1.map = c.map ∧ ((σ.tell c i 2).1.key.length : Int) = d.key ∧ (σ.tell c i 2).1.val = c.val := by
 unfold RS.tell at h ⊢
 by_cases hs : σ.S (i + 1) = false
 ·rw [if_pos hs] at h; simp at h
 ·rw [if_neg hs] at h ⊢
  rw [if_neg (by decide), if_pos rfl] at h ⊢
  simp only [hd, Option.map_some, Option.getD_some] at h ⊢
  refine ⟨?_, mread_len ho.1 h, ?_⟩ <;> first | rfl | trivial
theorem tell3 {c : Cl} {i : Nat} {d : TDef} (ho : u64R (σ.R (i + 1))) (hd : pick σ.D c.map = some d) (h : (σ.tell c i 3).2 = 0) : (σ.tell c i 3).1.map = c.map ∧ (σ.tell c i 3).1.key = c.key ∧ ((σ.tell c i 3).1.val.length : Int) = d.val := by
 unfold RS.tell at h ⊢
 by_cases hs : σ.S (i + 1) = false
 ·rw [if_pos hs] at h; simp at h
 ·rw [if_neg hs] at h ⊢
  rw [if_neg (by decide), if_neg (by decide), if_pos rfl] at h ⊢
  simp only [hd, Option.map_some, Option.getD_some] at h ⊢
  refine ⟨?_, ?_, mread_len ho.1 h⟩ <;> first | rfl | trivial
theorem tell4 {c : Cl} {i : Nat} : (σ.tell c i 4).1.key = c.key ∧ (σ.tell c i 4).1.val = c.val := by
 unfold RS.tell
 by_cases hs : σ.S (i + 1) = false
 ·rw [if_pos hs]; exact ⟨rfl, rfl⟩
 ·rw [if_neg hs, if_neg (by decide), if_neg (by decide), if_neg (by decide)]; exact ⟨rfl, rfl⟩
theorem told12 {id : Int} (ho : σ.Ok) (hD : DefsOk σ.D) (ht : tolds id = [1, 2]) (h : (σ.told id).2 = 0) : (σ.told id).1.key ≠ [] ∧ (σ.told id).1.val = [] := by
 obtain ⟨h1, h2⟩ := told_tells h
 rw [h2]
 rw [ht] at h1 ⊢
 have a := tells_cons h1
 rw [a.2]
 have b := tells_cons (by rw [← a.2]; exact h1)
 rw [b.2, RS.tells]
 obtain ⟨⟨d, hd⟩, k1, v1⟩ := tell1 a.1
 obtain ⟨m2, k2, v2⟩ := tell2 (ho _ (by omega)) hd b.1
 refine ⟨fun e => ?_, by rw [v2, v1]; rfl⟩
 have := hD d (pick_in hd)
 rw [e] at k2
 simp at k2
 omega
theorem told1234 {id : Int} (ho : σ.Ok) (hD : DefsOk σ.D) (ht : tolds id = [1, 2, 3, 4]) (h : (σ.told id).2 = 0) : (σ.told id).1.val ≠ [] := by
 obtain ⟨h1, h2⟩ := told_tells h
 rw [h2]
 rw [ht] at h1 ⊢
 have a := tells_cons h1
 rw [a.2]
 have b := tells_cons (by rw [← a.2]; exact h1)
 rw [b.2]
 have c := tells_cons (by rw [← b.2, ← a.2]; exact h1)
 rw [c.2]
 have e := tells_cons (by rw [← c.2, ← b.2, ← a.2]; exact h1)
 rw [e.2, RS.tells]
 obtain ⟨⟨d, hd⟩, k1, v1⟩ := tell1 a.1
 obtain ⟨m2, k2, v2⟩ := tell2 (ho _ (by omega)) hd b.1
 obtain ⟨m3, k3, v3⟩ := tell3 (ho _ (by omega)) (by rw [m2]; exact hd) c.1
 simp only
 rw [tell4.2]
 intro h0
 rw [h0] at v3
 have := hD d (pick_in hd)
 simp at v3
 omega
theorem tells4 : ∀ (ts : List Int) (c : Cl) (i : Nat), (∀ t ∈ ts, t = 4) → (σ.tells c i ts).1.key = c.key ∧ (σ.tells c i ts).1.val = c.val
 | [], c, i, h => ⟨rfl, rfl⟩
 | t :: ts, c, i, h => by
  obtain rfl := h t (by simp)
  unfold RS.tells
  split
  ·exact tell4
  ·have := tells4 ts (σ.tell c i 4).1 (i + 1) (fun t ht => h t (by simp [ht]))
   exact ⟨this.1.trans tell4.1, this.2.trans tell4.2⟩
theorem told_no {id : Int} (h1 : id ≠ 1) (h2 : id ≠ 2) (h3 : id ≠ 3) : (σ.told id).1.key = [] ∧ (σ.told id).1.val = [] := by
 have ht : ∀ t ∈ tolds id, t = 4 := by
  intro t ht
  unfold tolds at ht
  rw [if_neg (by omega), if_neg (by omega)] at ht
  split at ht <;> simp at ht <;> exact ht
 unfold RS.told
 split
 ·exact ⟨rfl, rfl⟩
 ·exact tells4 _ _ _ ht
end
def RS.helps (σ : RS) (c : Cl) : RS × Int × Int :=
 if draws c.id = true then ((if drawnErr c.id σ.dr ≠ 0 then σ else { σ with dr := drawnRest c.id σ.dr }), drawn c.id σ.dr, drawnErr c.id σ.dr)
 else ({ σ with V := (σ.acts c).1 }, (σ.acts c).2)
theorem call_helps {σ : RS} {x : Ins} {c : Cl} (hh : helper x.imm = true) (ht : σ.told x.imm = (c, 0)) :
  σ.call x = if (σ.helps c).2.2 ≠ 0 then ((σ.helps c).1, (σ.helps c).2.2) else (RS.done (σ.helps c).1 { c with ret := (σ.helps c).2.1 }, 0) := by
 have hid : c.id = x.imm := by have := (told_id (σ := σ) (id := x.imm) (by rw [ht])).1; rw [ht] at this; exact this
 unfold RS.call RS.helps
 rw [if_neg (by rw [hh]; decide), ht, if_neg (by simp)]
 simp only [← hid]
 by_cases hd : draws c.id = true
 ·simp only [hd, if_true]
  by_cases he : drawnErr c.id σ.dr ≠ 0
  ·simp only [he, if_true, ne_eq, not_false_iff]
  ·have he0 : drawnErr c.id σ.dr = 0 := by simpa using he
   simp only [he0, ne_eq, not_true_eq_false, if_false]
 ·simp only [hd, Bool.false_eq_true, if_false]
end Go.Proofs.YtppefchjoodgnaaGreat
