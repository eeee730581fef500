/- What the claim leans on: MsH · GrD · GrS · Conn · GBoth · GrR · GL · GHeads · R16A. -/
import Derived.Test.YtppefchjoodgnaaGreatPL27
import Derived.Test.YtppefchjoodgnaaGreatPL28
import Derived.Test.YtppefchjoodgnaaGreatPL02
import Derived.BigQuiet
import Derived.Deep.LoopGhost
import Derived.Deep.CutBlock
import Derived.BigRegion
import Derived.Test.YtppefchjoodgnaaGreatPL26
namespace Go.Proofs.YtppefchjoodgnaaGreat
open Go.RowKit
set_option linter.unusedVariables false
set_option linter.unusedSimpArgs false
structure TabOk (t : TM) : Prop where
 few : (t.slots.length : Int) ≤ t.max
 max : t.max ≤ 16
 key : t.key ≤ 16
 keys : ∀ p ∈ t.slots, p.1.size ≤ 1000
structure RS.Core (σ : RS) : Prop where
 ok : σ.Ok
 tab : ∀ t ∈ σ.V.2, TabOk t
 dr : U64s σ.dr
 drl : σ.dr.length ≤ 1000000
section
variable {σ : RS}
theorem RS.Core.setR (h : σ.Core) {n : Int} (hn : u64R n) (d : Nat) : (σ.setR d n).Core := by
 refine ⟨fun e he => ?_, h.tab, h.dr, h.drl⟩
 show u64R (updN σ.R d n e)
 unfold updN
 split
 ·exact hn
 ·exact h.ok e he
theorem RS.Core.setM (h : σ.Core) (M : Areas) : (σ.setM M).Core := ⟨h.ok, h.tab, h.dr, h.drl⟩
theorem RS.Core.setV (h : σ.Core) {V : Areas × List TM} (hV : ∀ t ∈ V.2, TabOk t) : ({ σ with V := V } : RS).Core := ⟨h.ok, hV, h.dr, h.drl⟩
theorem tf_key {T : List TM} {i : Int} {n : Nat} {t : TM} (h : tfind T i n = some t) : t ∈ T ∧ (n : Int) = t.key := by
 rcases tfind_cases' T i n with h1 | ⟨j, u, hj, hu, hk⟩
 ·rw [h1] at h; cases h
 ·subst hj
  rw [tfind_at' hu hk] at h
  cases h
  exact ⟨List.mem_of_getElem? hu, hk⟩
theorem rput_tab {V : Areas × List TM} {i : Int} {ks vs : List Int} {fl : Int} (h : ∀ t ∈ V.2, TabOk t) : ∀ t ∈ (rput V i ks vs fl).1.2, TabOk t := by
 unfold rput
 cases hf : tfind V.2 i ks.length with
 | none => exact h
 | some t =>
  have ht := tf_key hf
  have hT := h t ht.1
  simp only
  by_cases h1 : (vs.length : Int) ≠ t.val
  ·rw [if_pos h1]; exact h
  rw [if_neg h1]
  by_cases h2 : 2 < fl
  ·rw [if_pos h2]; exact h
  rw [if_neg h2]
  cases hl : t.slots.lookup (strOfNums ks) with
  | some n =>
   simp only
   by_cases h3 : fl = 1
   ·rw [if_pos h3]; exact h
   ·rw [if_neg h3]; exact h
  | none =>
   simp only
   by_cases h3 : t.hash = false
   ·rw [if_pos h3]; exact h
   rw [if_neg h3]
   by_cases h4 : fl = 2
   ·rw [if_pos h4]; exact h
   rw [if_neg h4]
   by_cases h5 : t.max ≤ t.slots.length
   ·rw [if_pos h5]; exact h
   rw [if_neg h5]
   by_cases h6 : 1024 ≤ t.made
   ·rw [if_pos h6]; exact h
   rw [if_neg h6]
   by_cases h7 : (mmake V.1 (tarea i t.made) vs false false).2 = 0
   ·rw [if_pos h7]
    intro u hu
    rcases List.mem_or_eq_of_mem_set hu with hu | rfl
    ·exact h u hu
    ·have hlen : (addR t (strOfNums ks)).slots.length = t.slots.length + 1 := by
      have h8 := congrArg List.length (List.takeWhile_append_dropWhile (p := ltK (strOfNums ks)) (l := t.slots))
      simp only [List.length_append] at h8
      simp only [addR, List.length_append, List.length_singleton]
      omega
     refine ⟨by rw [hlen]; show ((t.slots.length + 1 : Nat) : Int) ≤ t.max; omega, hT.max, hT.key, fun p hp => ?_⟩
     simp only [addR, List.mem_append, List.mem_singleton] at hp
     rcases hp with (hp | rfl) | hp
     ·exact hT.keys p ((List.takeWhile_sublist _).subset hp)
     ·show (strOfNums ks).size ≤ 1000
      rw [strOf_size]
      have := ht.2
      have := hT.key
      omega
     ·exact hT.keys p ((List.dropWhile_sublist _).subset hp)
   ·rw [if_neg h7]; exact h
theorem rdrop_tab {T : List TM} {i : Int} {ks : List Int} (h : ∀ t ∈ T, TabOk t) : ∀ t ∈ (rdrop T i ks).1, TabOk t := by
 unfold rdrop
 cases hf : tfind T i ks.length with
 | none => exact h
 | some t =>
  have hT := h t (tf_key hf).1
  simp only
  by_cases h1 : t.hash = false
  ·rw [if_pos h1]; exact h
  rw [if_neg h1]
  by_cases h2 : (t.slots.filter (neK (strOfNums ks))).length = t.slots.length
  ·rw [if_pos h2]; exact h
  rw [if_neg h2]
  intro u hu
  rcases List.mem_or_eq_of_mem_set hu with hu | rfl
  ·exact h u hu
  ·have := List.length_filter_le (neK (strOfNums ks)) t.slots
   exact ⟨by have := hT.few; simp only; omega, hT.max, hT.key, fun p hp => hT.keys p (List.mem_filter.1 hp).1⟩
theorem rput_ret (V : Areas × List TM) (i : Int) (ks vs : List Int) (fl : Int) : u64R (rput V i ks vs fl).2.1 := by
 unfold rput
 (repeat' split) <;> (simp only [u64R]; omega)
theorem rdrop_ret (T : List TM) (i : Int) (ks : List Int) : u64R (rdrop T i ks).2.1 := by
 unfold rdrop
 (repeat' split) <;> (simp only [u64R]; omega)
theorem tlook_ret (T : List TM) (i : Int) (ks : List Int) : u64R (tlook T i ks).1 := by
 unfold tlook
 (repeat' split) <;> first | exact mat_le _ _ | (simp only [u64R]; omega)
theorem drawn_rng (id : Int) (xs : List Int) : u64R (drawn id xs) := by
 unfold drawn
 (repeat' split) <;> first | exact bits_rng _ _ _ (by simp) | (simp only [u64R]; omega)
theorem rest_sub (id : Int) (xs : List Int) : List.Sublist (drawnRest id xs) xs := by
 unfold drawnRest
 split
 ·exact List.drop_sublist _ _
 ·exact List.nil_sublist _
theorem RS.Core.drawn (h : σ.Core) (id : Int) : ({ σ with dr := drawnRest id σ.dr } : RS).Core :=
 ⟨h.ok, h.tab, fun x hx => h.dr x ((rest_sub id σ.dr).subset hx), Nat.le_trans (rest_sub id σ.dr).length_le h.drl⟩
theorem RS.Core.done (h : σ.Core) {c : Cl} (hc : u64R c.ret) : (σ.done c).Core := by
 refine ⟨fun e he => ?_, h.tab, h.dr, h.drl⟩
 show u64R (updN (fun j => if 1 ≤ j ∧ j ≤ 5 then 0 else σ.R j) 0 c.ret e)
 unfold updN
 split
 ·exact hc
 ·show u64R (if 1 ≤ e ∧ e ≤ 5 then 0 else σ.R e)
  split
  ·exact ⟨by decide, by decide⟩
  ·exact h.ok e he
theorem acts_tab (h : σ.Core) (c : Cl) : (∀ t ∈ (σ.acts c).1.2, TabOk t) ∧ u64R (σ.acts c).2.1 := by
 unfold RS.acts
 by_cases h1 : c.id = 1
 ·rw [if_pos h1]; exact ⟨h.tab, tlook_ret _ _ _⟩
 rw [if_neg h1]
 by_cases h2 : c.id = 2
 ·rw [if_pos h2]; exact ⟨rput_tab h.tab, rput_ret _ _ _ _ _⟩
 rw [if_neg h2]
 by_cases h3 : c.id = 3
 ·rw [if_pos h3]; exact ⟨rdrop_tab h.tab, rdrop_ret _ _ _⟩
 rw [if_neg h3]
 exact ⟨h.tab, by simp only [u64R]; omega⟩
structure Left (σ σ' : RS) (n : Nat) : Prop where
 L : σ'.L = σ.L
 D : σ'.D = σ.D
 place : σ'.place = σ.place
 code : σ'.code = σ.code
 steps : σ'.steps = σ.steps
 calls : σ'.calls.length ≤ σ.calls.length + n
theorem Left.rfl' (n : Nat) : Left σ σ n := ⟨rfl, rfl, rfl, rfl, rfl, by omega⟩
theorem left_set (d : Nat) (n : Int) (m : Nat) : Left σ (σ.setR d n) m := ⟨rfl, rfl, rfl, rfl, rfl, by show σ.calls.length ≤ _; omega⟩
theorem call_core (h : σ.Core) (x : Ins) : (σ.call x).1.Core ∧ Left σ (σ.call x).1 1 := by
 have hd : ∀ (s : RS) (c : Cl), Left σ s 0 → Left σ (s.done c) 1 := fun s c hl => ⟨hl.L, hl.D, hl.place, hl.code, hl.steps, by show (s.calls ++ [c]).length ≤ _; have := hl.calls; simp; omega⟩
 unfold RS.call
 by_cases h1 : helper x.imm = false
 ·rw [if_pos h1]; exact ⟨h, Left.rfl' _⟩
 rw [if_neg h1]
 by_cases h2 : (σ.told x.imm).2 ≠ 0
 ·rw [if_pos h2]; exact ⟨h, Left.rfl' _⟩
 rw [if_neg h2]
 by_cases h3 : draws x.imm = true
 ·rw [if_pos h3]
  by_cases h4 : drawnErr x.imm σ.dr ≠ 0
  ·rw [if_pos h4]; exact ⟨h, Left.rfl' _⟩
  rw [if_neg h4]
  exact ⟨(h.drawn x.imm).done (drawn_rng _ _), hd _ _ ⟨rfl, rfl, rfl, rfl, rfl, Nat.le_refl _⟩⟩
 rw [if_neg h3]
 have ha := acts_tab h (σ.told x.imm).1
 by_cases h4 : (σ.acts (σ.told x.imm).1).2.2 ≠ 0
 ·rw [if_pos h4]; exact ⟨h.setV ha.1, ⟨rfl, rfl, rfl, rfl, rfl, by show σ.calls.length ≤ _; omega⟩⟩
 rw [if_neg h4]
 exact ⟨(h.setV ha.1).done ha.2, hd _ _ ⟨rfl, rfl, rfl, rfl, rfl, Nat.le_refl _⟩⟩
theorem rev_rng : ∀ (k : Nat) (x o : Int), u64R o → u64R (revN k x o)
 | 0, x, o, h => h
 | k + 1, x, o, h => by
  rw [revN]
  exact rev_rng k _ _ (by unfold u64R; omega)
theorem swap_rng {t : Bool} {n a : Int} (hn : n = 16 ∨ n = 32 ∨ n = 64) (h0 : 0 ≤ a) (h1 : a ≤ 18446744073709551615) : u64R (swapN t n a) := by
 have hc := cutN_le h0 h1 (show wid n from .inr hn)
 unfold swapN
 split
 ·exact rev_rng _ _ _ ⟨by decide, by decide⟩
 ·exact ⟨hc.1, hc.2.1⟩
theorem does_core {x : Ins} {k : Wh} (h : σ.Core) (hb : BytesOk σ.V.1) (hx : x.Ok) (hk : KindOk x k) : (σ.does x k).1.Core ∧ Left σ (σ.does x k).1 1 := by
 have hk12 : k.kind = 1 ∨ k.kind = 2 ∨ k.kind = 3 ∨ k.kind = 4 ∨ k.kind = 5 ∨ (k.kind = 6 ∨ k.kind = 7 ∨ k.kind = 8) ∨ k.kind = 9 ∨ k.kind = 10 ∨ k.kind = 11 ∨ k.kind = 12 := by have := hk.rng; omega
 have hdd : x.dst.toNat ≤ 10 := by have := hk.dst; omega
 have hR := h.ok _ hdd
 have hB := second_rng h.ok x k hk.src
 rcases hk12 with e | e | e | e | e | e | e | e | e | e
 ·simp only [RS.does, e, if_true]
  unfold RS.arith
  split
  ·exact ⟨h, Left.rfl' _⟩
  ·refine ⟨h.setR (alu_rng (hk.k1 e) hR ?_) _, left_set _ _ _⟩
   unfold negB
   split
   ·exact ⟨by decide, by decide⟩
   ·exact hB
 ·have hs := hk.k2 e
  simp [RS.does, e]
  split
  ·exact ⟨h, Left.rfl' _⟩
  ·exact ⟨h.setR (swap_rng (by omega) hR.1 hR.2) _, left_set _ _ _⟩
 ·simp [RS.does, e]
  cases hy : σ.L[σ.place.toNat + 1]? with
  | none => exact ⟨h, Left.rfl' _⟩
  | some y => exact ⟨h.setR (by unfold longN u64R; omega) _, left_set _ _ _⟩
 ·simp [RS.does, e]
  split
  ·exact ⟨h, Left.rfl' _⟩
  ·have := hk.k4 e
   have := hx.imm
   exact ⟨h.setR (by unfold u64R; omega) _, left_set _ _ _⟩
 ·simp only [RS.does, e]
  simp
  unfold RS.load
  have hl := mload_rng hb (σ.addr x.src x) k.size
  split
  ·exact ⟨h, Left.rfl' _⟩
  ·split
   ·exact ⟨h, Left.rfl' _⟩
   ·refine ⟨h.setR ?_ _, left_set _ _ _⟩
    split
    ·have hsz := hk.km (by omega) (by omega)
     exact sign_rng (by simp only [wid]; omega) hl.1 hl.2
    ·exact hl
 ·have he : k.kind ≠ 1 ∧ k.kind ≠ 2 ∧ k.kind ≠ 3 ∧ k.kind ≠ 4 ∧ k.kind ≠ 5 := by omega
  simp only [RS.does, he.1, he.2.1, he.2.2.1, he.2.2.2.1, he.2.2.2.2, if_false, e, if_true]
  unfold RS.store RS.putM
  split
  ·exact ⟨h, Left.rfl' _⟩
  ·split
   ·split
    ·exact ⟨h, Left.rfl' _⟩
    ·exact ⟨h.setM _, ⟨rfl, rfl, rfl, rfl, rfl, by show σ.calls.length ≤ _; omega⟩⟩
   ·exact ⟨h.setM _, ⟨rfl, rfl, rfl, rfl, rfl, by show σ.calls.length ≤ _; omega⟩⟩
 ·simp [RS.does, e]
  exact ⟨h, Left.rfl' _⟩
 ·simp [RS.does, e]
  split
  ·exact ⟨h, Left.rfl' _⟩
  ·exact ⟨h, Left.rfl' _⟩
 ·simp only [RS.does, e]
  simp
  exact call_core h x
 ·simp [RS.does, e]
  split
  ·exact ⟨h, Left.rfl' _⟩
  ·exact ⟨⟨h.ok, h.tab, h.dr, h.drl⟩, ⟨rfl, rfl, rfl, rfl, rfl, by show σ.calls.length ≤ _; omega⟩⟩
structure RS.Inv (σ : RS) : Prop where
 core : σ.Core
 prog : progS σ.L = true
 ins : InsOk σ.L
 calls : (σ.calls.length : Int) ≤ σ.steps
 place : 0 ≤ σ.place ∧ (stF false σ.L)[σ.place.toNat]? = some true
theorem RS.Inv.good (h : σ.Inv) (hs : σ.steps ≤ 1000000) : σ.Good :=
 ⟨h.core.ok, fun t ht => by have := h.core.tab t ht; have := this.few; have := (h.core.tab t ht).max; omega, h.core.dr, h.core.drl, by have := h.calls; omega, (ProgF.of h.prog).len.2, ⟨by have := h.calls; omega, hs⟩, h.ins⟩
theorem start_on {L : List Ins} (hp : progS L = true) (hi : InsOk L) {p : Nat} (hs : (stF false L)[p]? = some true) : ∃ x, L[p]? = some x ∧ x.Ok ∧ KindOk x (whatZ x) ∧ wholeS L x p = true ∧ ((whatZ x).kind = 3 → ∃ y, L[p + 1]? = some y) := by
 have hlt : p < L.length := by rw [← stF_length false L]; exact (List.getElem?_eq_some_iff.1 hs).1
 obtain ⟨x, hx⟩ : ∃ x, L[p]? = some x := ⟨_, List.getElem?_eq_getElem hlt⟩
 have hw : wholeS L x p = true := by rw [← (ok1_at hs hx).1]; exact (ProgF.of hp).o1 p hlt
 have hsome : (whatS x).isSome = true := by
  unfold wholeS at hw
  rw [Bool.and_eq_true] at hw
  exact hw.1
 obtain ⟨k, hk⟩ := Option.isSome_iff_exists.1 hsome
 have hz : whatZ x = k := by unfold whatZ; rw [hk]; rfl
 have hko := kind_ok x k hk
 refine ⟨x, hx, hi.at hx, by rw [hz]; exact hko, hw, fun h3 => ?_⟩
 have h24 : x.op = 24 := hko.k3.1 (.inl (by rw [← hz]; exact h3))
 unfold wholeS at hw
 rw [Bool.and_eq_true] at hw
 have h2 := hw.2
 rw [h24] at h2
 cases hy : L[p + 1]? with
 | none => rw [hy] at h2; simp at h2
 | some y => exact ⟨y, rfl⟩
theorem RS.Inv.on (h : σ.Inv) : ∃ x, σ.On σ.place.toNat x := by
 obtain ⟨x, h1, h2, h3, _, h5⟩ := start_on h.prog h.ins h.place.2
 exact ⟨x, by have := h.place.1; omega, h1, h2, h3, h5⟩
theorem target_some {L : List Ins} (hp : progS L = true) {p : Nat} {x : Ins} (hs : (stF false L)[p]? = some true) (hx : L[p]? = some x) (hk : (whatZ x).kind = 9 ∨ (whatZ x).kind = 10) : ∃ t, targetS L x p = some t := by
 have h2 := (ProgF.of hp).o2 p (List.getElem?_eq_some_iff.1 hx).1
 rw [(ok1_at hs hx).2.1] at h2
 unfold targetS
 cases ht : toS x p with
 | none => unfold toS at ht; rw [if_pos hk] at ht; cases ht
 | some t =>
  rw [ht] at h2
  simp only [jumpOk, Bool.and_eq_true, decide_eq_true_eq] at h2
  exact ⟨t, by simp only; rw [if_pos ⟨h2.1, h2.2.1⟩]⟩
theorem call_over (x : Ins) : (σ.call x).1.over = σ.over := by
 unfold RS.call
 (repeat' split) <;> rfl
theorem call_err (x : Ins) (h : (σ.call x).2 ≠ 0) : (σ.call x).1.calls = σ.calls := by
 revert h
 unfold RS.call
 (repeat' split) <;> intro h <;> first | rfl | exact absurd rfl h
theorem ite_ca {c : Prop} [Decidable c] {a b : RS × Int × Int} {n : List Cl} (ha : a.1.calls = n) (hb : b.1.calls = n) : (if c then a else b).1.calls = n := by split <;> assumption
theorem ite_ca2 {c : Prop} [Decidable c] {a b : RS × Int} {n : List Cl} (ha : a.1.calls = n) (hb : b.1.calls = n) : (if c then a else b).1.calls = n := by split <;> assumption
theorem does_calls (x : Ins) (k : Wh) (hk : k.kind ≠ 11) : (σ.does x k).1.calls = σ.calls := by
 unfold RS.does
 rw [if_neg hk]
 refine ite_ca (ite_ca2 rfl rfl) (ite_ca (ite_ca rfl rfl) (ite_ca ?_ (ite_ca (ite_ca rfl rfl) (ite_ca (ite_ca2 rfl (ite_ca2 rfl rfl)) (ite_ca (ite_ca2 rfl (ite_ca2 (ite_ca2 rfl rfl) rfl)) (ite_ca rfl (ite_ca (ite_ca rfl rfl) (ite_ca (ite_ca rfl rfl) rfl))))))))
 cases σ.L[σ.place.toNat + 1]? <;> rfl
theorem does_err (x : Ins) (k : Wh) (h : (σ.does x k).2.2 ≠ 0) : (σ.does x k).1.calls = σ.calls := by
 by_cases hk : k.kind = 11
 ·have e : σ.does x k = ((σ.call x).1, (nextI x σ.place.toNat : Int), (σ.call x).2) := by simp [RS.does, hk]
  rw [e] at h ⊢
  exact call_err x h
 ·exact does_calls x k hk
theorem does_next {x : Ins} {p : Nat} (hp : progS σ.L = true) (hon : σ.On p x) (hs : (stF false σ.L)[p]? = some true) (he : (σ.does x (whatZ x)).2.2 = 0) :
  ((whatZ x).kind = 12 ∧ (σ.does x (whatZ x)).2.1 = p ∧ (σ.does x (whatZ x)).1 = { σ with over := true }) ∨ ((σ.does x (whatZ x)).2.1 ∈ aheadL σ.L x p ∧ (σ.does x (whatZ x)).1.over = σ.over) := by
 obtain ⟨k, hk⟩ : ∃ k, whatZ x = k := ⟨_, rfl⟩
 have hpt : σ.place.toNat = p := by have := hon.place; omega
 have hko := hon.kind
 rw [hk] at he hko ⊢
 have hnext : k.kind ≠ 12 → k.kind ≠ 9 → ((nextI x p : Nat) : Int) ∈ aheadL σ.L x p := fun h1 h2 => mem_ahead.2 (.inl ⟨by unfold goesOn; rw [hk]; simp [h1, h2], rfl⟩)
 have htgt : k.kind = 9 ∨ k.kind = 10 → (targetS σ.L x p).getD 0 ∈ aheadL σ.L x p := fun h => by
  obtain ⟨t, ht⟩ := target_some hp hs hon.code (by rw [hk]; exact h)
  rw [ht]
  exact mem_ahead.2 (.inr (by rw [ht]; rfl))
 have hk12 : k.kind = 1 ∨ k.kind = 2 ∨ k.kind = 3 ∨ k.kind = 4 ∨ k.kind = 5 ∨ (k.kind = 6 ∨ k.kind = 7 ∨ k.kind = 8) ∨ k.kind = 9 ∨ k.kind = 10 ∨ k.kind = 11 ∨ k.kind = 12 := by have := hko.rng; omega
 rcases hk12 with e | e | e | e | e | e | e | e | e | e
 ·right
  refine ⟨?_, ?_⟩
  ·simp only [RS.does, e, if_true, hpt]; exact hnext (by omega) (by omega)
  ·simp only [RS.does, e, if_true]; unfold RS.arith; split <;> rfl
 ·right
  by_cases hS : σ.S x.dst.toNat = false
  ·simp [RS.does, e, hS] at he
  ·simp [RS.does, e, hS, hpt]; exact ⟨hnext (by omega) (by omega), rfl⟩
 ·right
  obtain ⟨y, hy⟩ := hon.long (by rw [hk]; exact e)
  simp [RS.does, e, hpt, hy]
  exact ⟨hnext (by omega) (by omega), rfl⟩
 ·right
  by_cases hS : (σ.D.length : Int) ≤ x.imm
  ·simp [RS.does, e, hS] at he
  ·simp [RS.does, e, hS, hpt]; exact ⟨hnext (by omega) (by omega), rfl⟩
 ·right
  refine ⟨?_, ?_⟩
  ·simp [RS.does, e, hpt]; exact hnext (by omega) (by omega)
  ·simp only [RS.does, e]; simp; unfold RS.load; (repeat' split) <;> rfl
 ·right
  have he' : k.kind ≠ 1 ∧ k.kind ≠ 2 ∧ k.kind ≠ 3 ∧ k.kind ≠ 4 ∧ k.kind ≠ 5 := by omega
  refine ⟨?_, ?_⟩
  ·simp only [RS.does, he'.1, he'.2.1, he'.2.2.1, he'.2.2.2.1, he'.2.2.2.2, if_false, e, if_true, hpt]; exact hnext (by omega) (by omega)
  ·simp only [RS.does, he'.1, he'.2.1, he'.2.2.1, he'.2.2.2.1, he'.2.2.2.2, if_false, e, if_true]; unfold RS.store RS.putM; (repeat' split) <;> rfl
 ·right
  refine ⟨?_, ?_⟩
  ·simp [RS.does, e, hpt]; exact htgt (.inl e)
  ·simp [RS.does, e]
 ·right
  by_cases hS : (σ.second x k).2 = false ∨ σ.S x.dst.toNat = false
  ·simp only [RS.does, e] at he; simp [hS] at he
  ·refine ⟨?_, ?_⟩
   ·simp only [RS.does, e, hpt]
    simp only [show ¬ ((10 : Int) = 1) by decide, show ¬ ((10 : Int) = 2) by decide, show ¬ ((10 : Int) = 3) by decide, show ¬ ((10 : Int) = 4) by decide, show ¬ ((10 : Int) = 5) by decide, show ¬ ((10 : Int) = 6 ∨ (10 : Int) = 7 ∨ (10 : Int) = 8) by decide, show ¬ ((10 : Int) = 9) by decide, if_false, if_true, hS]
    split
    ·exact htgt (.inr e)
    ·exact hnext (by omega) (by omega)
   ·simp only [RS.does, e]
    simp [hS]
 ·right
  refine ⟨?_, ?_⟩
  ·simp [RS.does, e, hpt]; exact hnext (by omega) (by omega)
  ·simp only [RS.does, e]; simp; exact call_over x
 ·left
  by_cases hS : σ.S 0 = false
  ·simp [RS.does, e, hS] at he
  ·refine ⟨e, ?_, ?_⟩
   ·simp [RS.does, e, hS]; exact hon.place
   ·simp [RS.does, e, hS]
theorem RS.Inv.step (h : σ.Inv) (hb : BytesOk σ.V.1) : σ.step.1.Inv ∧ σ.step.1.L = σ.L ∧ σ.step.1.D = σ.D := by
 obtain ⟨x, hon⟩ := h.on
 unfold RS.step
 by_cases hov : σ.over = true
 ·rw [if_pos hov]; exact ⟨h, rfl, rfl⟩
 rw [if_neg hov, hon.code]
 simp only
 obtain ⟨hc, hl⟩ := does_core h.core hb hon.ok hon.kind
 have hcl := hl.calls
 have hcc := h.calls
 by_cases he : (σ.does x (whatZ x)).2.2 ≠ 0
 ·rw [if_pos he]
  refine ⟨⟨⟨hc.ok, hc.tab, hc.dr, hc.drl⟩, by show progS (σ.does x (whatZ x)).1.L = true; rw [hl.L]; exact h.prog, by show InsOk (σ.does x (whatZ x)).1.L; rw [hl.L]; exact h.ins, ?_, ?_⟩, hl.L, hl.D⟩
  ·show ((σ.does x (whatZ x)).1.calls.length : Int) ≤ (σ.does x (whatZ x)).1.steps
   rw [does_err _ _ he, hl.steps]
   exact h.calls
  ·show 0 ≤ (σ.does x (whatZ x)).1.place ∧ (stF false (σ.does x (whatZ x)).1.L)[(σ.does x (whatZ x)).1.place.toNat]? = some true
   rw [hl.L, hl.place]
   exact h.place
 ·rw [if_neg he]
  have he0 : (σ.does x (whatZ x)).2.2 = 0 := by simpa using he
  refine ⟨⟨⟨hc.ok, hc.tab, hc.dr, hc.drl⟩, by show progS (σ.does x (whatZ x)).1.L = true; rw [hl.L]; exact h.prog, by show InsOk (σ.does x (whatZ x)).1.L; rw [hl.L]; exact h.ins, ?_, ?_⟩, hl.L, hl.D⟩
  ·show ((σ.does x (whatZ x)).1.calls.length : Int) ≤ (σ.does x (whatZ x)).1.steps + 1
   rw [hl.steps]
   omega
  ·show 0 ≤ (σ.does x (whatZ x)).2.1 ∧ (stF false (σ.does x (whatZ x)).1.L)[(σ.does x (whatZ x)).2.1.toNat]? = some true
   rw [hl.L]
   rcases does_next h.prog hon h.place.2 he0 with ⟨_, h2, _⟩ | ⟨h2, _⟩
   ·rw [h2]; exact ⟨by omega, by rw [Int.toNat_natCast]; exact h.place.2⟩
   ·have := ahead_start (ProgF.of h.prog) h.place.2 hon.code h2
    exact ⟨this.1, this.2.2⟩
end
def aheadAt (L : List Ins) (k : Nat) : List Int := match L[k]? with | some x => aheadL L x k | none => []
theorem eq_of_at {α : Type} {xs ys : List α} (hl : xs.length = ys.length) (h : ∀ i, i < xs.length → xs[i]? = ys[i]?) : xs = ys := by
 apply List.ext_getElem?
 intro i
 by_cases hi : i < xs.length
 ·exact h i hi
 ·rw [List.getElem?_eq_none (by omega), List.getElem?_eq_none (by omega)]
theorem take_cutI {w : World} {a : Option Addr} {n c : Nat} {x : List Ins} (h : Rd w 5 Ins.enc (.slice a n c) x) (m : Nat) (hm : m ≤ n) (hm' : (m = n ∧ n ≤ 150) ∨ m = 150) : Rd w 5 Ins.enc (cutV (.slice a n c) 0 m 5) (x.take 150) := by
 have hn := h.num
 have := h.cut (l := 0) (m := m) (Nat.zero_le _) (by omega)
 rw [List.drop_zero, Nat.sub_zero] at this
 rcases hm' with ⟨rfl, h1⟩ | rfl
 ·rwa [hn, List.take_length, ← hn, ← List.take_of_length_le (show x.length ≤ 150 by omega)] at this
 ·exact this
def L0 : List Ins := [⟨183, 0, 0, 0, 0⟩, ⟨21, 0, 0, 1, 0⟩, ⟨183, 0, 0, 0, 0⟩, ⟨149, 0, 0, 0, 0⟩]
def aheadV (L : List Ins) (i : Int) : List Int := if beginsS L i then (match L[i.toNat]? with | some x => aheadL L x i.toNat | none => []) else []
theorem p_AheadV (v : Value) (L : List Ins) (i : Int) (w : World) (h : Rd w 5 Ins.enc v L) (hl : L.length ≤ 1000000) (hok : InsOk L) : Calls Tryz.prog 69 #[v, .int .i64 i] w (OwnA (aheadV L i) w) := p_Ahead v L i w h hl hok
end Go.Proofs.YtppefchjoodgnaaGreat
namespace Go.Proofs.YtppefchjoodgnaaGreat
set_option linter.unusedVariables false
set_option linter.unusedSimpArgs false
def Conn (A : Nat → List Int) (s k : Nat) : Prop := ∀ S : Nat → Prop, S s → (∀ (i j : Nat), S i → (j : Int) ∈ A i → S j) → S k
section
variable {A : Nat → List Int}
theorem Conn.rfl' (s : Nat) : Conn A s s := fun _ h _ => h
theorem Conn.step {s i j : Nat} (h : Conn A s i) (hj : (j : Int) ∈ A i) : Conn A s j := fun S h0 hS => hS i j (h S h0 hS) hj
theorem Conn.trans {a b c : Nat} (h : Conn A a b) (k : Conn A b c) : Conn A a c := k (fun x => Conn A a x) h (fun _ _ hi hj => hi.step hj)
theorem Conn.one {i j : Nat} (hj : (j : Int) ∈ A i) : Conn A i j := (Conn.rfl' i).step hj
end
end Go.Proofs.YtppefchjoodgnaaGreat
namespace Go.Proofs.YtppefchjoodgnaaGreat
open Go.RowKit
set_option linter.unusedVariables false
set_option linter.unusedSimpArgs false
theorem begins_iff {L : List Ins} {i : Int} : beginsS L i = true ↔ progS L = true ∧ 0 ≤ i ∧ i < L.length ∧ (stF false L)[i.toNat]? = some true := by
 unfold beginsS
 simp only [Bool.and_eq_true, decide_eq_true_eq, beq_iff_eq]
theorem Own.short {w : World} {base g n c : Nat} {e : TypeId} {f : Int → Value} {T : List Int} {t : Int} (h : Own w base e 1 (fun x => [f x]) (.slice (some ⟨g, 0, none⟩) n c) (T ++ [t])) : Own w base e 1 (fun x => [f x]) (.slice (some ⟨g, 0, none⟩) T.length c) T := by
 obtain ⟨h1, h2⟩ := h
 rcases h2 with ⟨hv, _⟩ | ⟨g', cap, cur, hv, hb, hg, hn, hc, hs, ht⟩
 ·cases hv
 ·injection hv with e1 e2 e3
  injection e1 with e1
  injection e1 with e1
  subst e1; subst e3
  rw [flat1, List.map_append] at ht
  refine ⟨by rw [flat1]; simp, .inr ⟨g, c, cur, rfl, hb, hg, by simp at hn; omega, hc, hs, ?_⟩⟩
  rw [flat1]
  have := congrArg (List.take T.length) ht
  rw [List.take_take] at this
  simp only [List.length_append, List.length_cons, List.length_nil, Nat.mul_one] at this ⊢
  rw [Nat.min_eq_left (by omega)] at this
  rw [this, List.take_left' (by simp)]
structure RInv (A : Nat → List Int) (s n : Nat) (M : List Bool) (T : List Int) (p : Option Int) : Prop where
 len : M.length = n
 sound : ∀ k : Nat, M[k]? = some true → Conn A s k
 todo : ∀ t, t ∈ T ∨ p = some t → ∃ k : Nat, t = k ∧ k < n ∧ Conn A s k
 closed : ∀ i t : Nat, M[i]? = some true → (t : Int) ∈ A i → M[t]? = some true ∨ (t : Int) ∈ T ∨ p = some (t : Int)
 start : M[s]? = some true ∨ (s : Int) ∈ T ∨ p = some (s : Int)
section
variable {A : Nat → List Int} {s n : Nat} {M : List Bool} {T : List Int}
theorem RInv.skip {k : Nat} (h : RInv A s n M T (some (k : Int))) (hk : M[k]? = some true) : RInv A s n M T none := by
 refine ⟨h.len, h.sound, fun t ht => h.todo t (.inl (by simpa using ht)), fun i t hi ht => ?_, ?_⟩
 ·rcases h.closed i t hi ht with h1 | h1 | h1
  ·exact .inl h1
  ·exact .inr (.inl h1)
  ·injection h1 with h1
   have : k = t := by omega
   subst this
   exact .inl hk
 ·rcases h.start with h1 | h1 | h1
  ·exact .inl h1
  ·exact .inr (.inl h1)
  ·injection h1 with h1
   have : k = s := by omega
   subst this
   exact .inl hk
theorem RInv.take {t : Int} (h : RInv A s n M (T ++ [t]) none) : RInv A s n M T (some t) := by
 refine ⟨h.len, h.sound, fun u hu => h.todo u (.inl ?_), fun i u hi hu => ?_, ?_⟩
 ·rcases hu with hu | hu
  ·exact List.mem_append_left _ hu
  ·injection hu with hu; subst hu; simp
 ·rcases h.closed i u hi hu with h1 | h1 | h1
  ·exact .inl h1
  ·rcases List.mem_append.1 h1 with h1 | h1
   ·exact .inr (.inl h1)
   ·exact .inr (.inr (by simp at h1; rw [h1]))
  ·cases h1
 ·rcases h.start with h1 | h1 | h1
  ·exact .inl h1
  ·rcases List.mem_append.1 h1 with h1 | h1
   ·exact .inr (.inl h1)
   ·exact .inr (.inr (by simp at h1; rw [h1]))
  ·cases h1
theorem RInv.done (h : RInv A s n M [] none) (k : Nat) : M[k]? = some true ↔ Conn A s k := by
 refine ⟨h.sound k, fun hc => hc (fun x => M[x]? = some true) ?_ (fun i j hi hj => ?_)⟩
 ·rcases h.start with h1 | h1 | h1
  ·exact h1
  ·cases h1
  ·cases h1
 ·rcases h.closed i j hi hj with h1 | h1 | h1
  ·exact h1
  ·cases h1
  ·cases h1
end
theorem aheadL_le (L : List Ins) (x : Ins) (k : Nat) : (aheadL L x k).length ≤ 2 := by
 rw [ahead_two]
 unfold two
 split
 ·split <;> simp
 ·split
  ·split
   ·simp
   ·split <;> simp
  ·simp
theorem within {L : List Ins} (hp : progS L = true) {k : Nat} (hs : (stF false L)[k]? = some true) : ∀ t ∈ aheadAt L k, 0 ≤ t ∧ t < (L.length : Int) ∧ (stF false L)[t.toNat]? = some true := by
 intro t ht
 unfold aheadAt at ht
 cases hx : L[k]? with
 | none => rw [hx] at ht; cases ht
 | some x =>
  rw [hx] at ht
  exact ahead_start (ProgF.of hp) hs hx ht
theorem aheadV_at {L : List Ins} {k : Nat} (h : beginsS L k = true) : aheadV L k = aheadAt L k := by
 unfold aheadV aheadAt
 rw [if_pos h, Int.toNat_natCast]
 all_goals rfl
theorem begins_st {L : List Ins} (hp : progS L = true) {k : Nat} (h : (stF false L)[k]? = some true) : beginsS L k = true := by
 have : k < L.length := by rw [← stF_length false L]; exact (List.getElem?_eq_some_iff.1 h).1
 exact begins_iff.2 ⟨hp, by omega, by omega, by simpa using h⟩
end Go.Proofs.YtppefchjoodgnaaGreat
namespace Go.Proofs.YtppefchjoodgnaaGreat
open Go.RowKit
set_option linter.unusedVariables false
set_option linter.unusedSimpArgs false
theorem mset {M : List Bool} {k : Nat} (hk : k < M.length) (j : Nat) : (M.set k true)[j]? = some true ↔ j = k ∨ M[j]? = some true := by
 by_cases e : j = k
 ·subst e; simp [hk]
 ·rw [List.getElem?_set_ne (Ne.symm e)]; simp [e]
structure SInv (A : Nat → List Int) (fs : List Int) (n : Nat) (M : List Bool) : Prop where
 len : M.length = n
 sound : ∀ k : Nat, M[k]? = some true → ∃ s ∈ fs, Conn A s.toNat k
def BaseM (fs : List Int) (M : List Bool) : Prop := ∀ s ∈ fs, M[s.toNat]? = some true
def ClosedTo (A : Nat → List Int) (M : List Bool) (i : Nat) : Prop := ∀ j : Nat, j < i → M[j]? = some true → ∀ t ∈ A j, M[t.toNat]? = some true
theorem SInv.add {A : Nat → List Int} {fs : List Int} {n : Nat} {M : List Bool} (h : SInv A fs n M) {k : Nat} (hk : k < n) (hs : ∃ s ∈ fs, Conn A s.toNat k) : SInv A fs n (M.set k true) :=
 ⟨by simpa using h.len, fun j hj => by
  rcases (mset (by rw [h.len]; exact hk) j).1 hj with rfl | hj
  ·exact hs
  ·exact h.sound j hj⟩
theorem BaseM.add {fs : List Int} {M : List Bool} (h : BaseM fs M) {k : Nat} (hk : k < M.length) : BaseM fs (M.set k true) := fun s hs => (mset hk _).2 (.inr (h s hs))
open Classical in
noncomputable def reachF (L : List Ins) (fs : List Int) : List Bool := (List.range L.length).map (fun k => decide (∃ s ∈ fs, Conn (aheadAt L) s.toNat k))
theorem reachF_length (L : List Ins) (fs : List Int) : (reachF L fs).length = L.length := by simp [reachF]
theorem reachF_at (L : List Ins) (fs : List Int) {k : Nat} (hk : k < L.length) : (reachF L fs)[k]? = some true ↔ ∃ s ∈ fs, Conn (aheadAt L) s.toNat k := by
 simp [reachF, hk]
theorem bools_eq {M N : List Bool} (hl : M.length = N.length) (h : ∀ k, k < M.length → (M[k]? = some true ↔ N[k]? = some true)) : M = N := by
 apply List.ext_getElem?
 intro k
 by_cases hk : k < M.length
 ·have h1 := h k hk
  obtain ⟨x, hx⟩ := at_of_lt hk
  obtain ⟨y, hy⟩ := at_of_lt (xs := N) (k := k) (by omega)
  rw [hx, hy] at h1 ⊢
  cases x <;> cases y <;> simp_all
 ·rw [List.getElem?_eq_none (by omega), List.getElem?_eq_none (by omega)]
theorem SInv.done {L : List Ins} {fs : List Int} {M : List Bool} (h : SInv (aheadAt L) fs L.length M) (hb : BaseM fs M) (hc : ClosedTo (aheadAt L) M L.length) : M = reachF L fs := by
 refine bools_eq (by rw [h.len, reachF_length]) (fun k hk => ?_)
 rw [reachF_at L fs (by rw [← h.len]; exact hk)]
 refine ⟨h.sound k, fun ⟨s, hs, hc'⟩ => hc' (fun x => M[x]? = some true) (hb s hs) (fun i j hi hj => ?_)⟩
 have := hc i (by rw [← h.len]; exact (List.getElem?_eq_some_iff.1 hi).1) hi _ hj
 simpa using this
end Go.Proofs.YtppefchjoodgnaaGreat
namespace Go.Proofs.YtppefchjoodgnaaGreat
open Go.RowKit
set_option linter.unusedVariables false
set_option linter.unusedSimpArgs false
end Go.Proofs.YtppefchjoodgnaaGreat
namespace Go.Proofs.YtppefchjoodgnaaGreat
open Go.RowKit
set_option linter.unusedVariables false
set_option linter.unusedSimpArgs false
end Go.Proofs.YtppefchjoodgnaaGreat
