/- What the claim leans on: LvW. -/
import Derived.Test.YtppefchjoodgnaaGreatPL35
namespace Go.Proofs.YtppefchjoodgnaaGreat
open Go.RowKit
set_option linter.unusedVariables false
set_option linter.unusedSimpArgs false
section
variable {σ : RS} {x : Ins} {k : Wh}
theorem mread_c (M : Areas) (p s : Int) : (mread M p s).2 = 0 ∨ (mread M p s).2 = 1 ∨ (mread M p s).2 = 80 ∨ (mread M p s).2 = 81 := by
 unfold mread
 split
 ·simp
 ·split
  ·simp
  ·split <;> simp
theorem mload_c (M : Areas) (p s : Int) : (mload M p s).2 = 0 ∨ (mload M p s).2 = 1 ∨ (mload M p s).2 = 80 ∨ (mload M p s).2 = 81 := by
 unfold mload
 split
 ·exact mread_c _ _ _
 ·simp
theorem mread_e (M : Areas) (p s : Int) : (mread M p s).2 ≠ 110 := by have := mread_c M p s; omega
theorem mload_e (M : Areas) (p s : Int) : (mload M p s).2 ≠ 110 := by have := mload_c M p s; omega
theorem mstore_e (M : Areas) (p s n : Int) : (mstore M p s n).2 ≠ 110 := by
 unfold mstore
 split
 ·split
  ·simp
  ·split <;> simp
 ·simp
theorem rput_e (V : Areas × List TM) (i : Int) (ks vs : List Int) (f : Int) : (rput V i ks vs f).2.2 ≠ 110 := by
 unfold rput
 (repeat' split) <;> simp
theorem rdrop_e (T : List TM) (i : Int) (ks : List Int) : (rdrop T i ks).2.2 ≠ 110 := by
 unfold rdrop
 (repeat' split) <;> simp
theorem tlook_e (T : List TM) (i : Int) (ks : List Int) : (tlook T i ks).2 ≠ 110 := by
 unfold tlook
 (repeat' split) <;> simp
theorem drawn_e (id : Int) (xs : List Int) : drawnErr id xs ≠ 110 := by
 unfold drawnErr
 (repeat' split) <;> simp
theorem acts_e (c : Cl) : (σ.acts c).2.2 ≠ 110 := by
 unfold RS.acts
 split
 ·exact tlook_e _ _ _
 ·split
  ·exact rput_e _ _ _ _ _
  ·split
   ·exact rdrop_e _ _ _
   ·simp
theorem tell_e (c : Cl) (i : Nat) (t : Int) (h : σ.S (i + 1) = true) : (σ.tell c i t).2 ≠ 110 := by
 unfold RS.tell
 rw [if_neg (by rw [h]; decide)]
 split
 ·show (if tblN σ.D.length (σ.R (i + 1)) < 0 then (113 : Int) else 0) ≠ 110
  split <;> simp
 ·split
  ·exact mread_e _ _ _
  ·split
   ·exact mread_e _ _ _
   ·simp
theorem tells_e : ∀ (ts : List Int) (c : Cl) (i : Nat), (∀ j, i ≤ j → j < i + ts.length → σ.S (j + 1) = true) → (σ.tells c i ts).2 ≠ 110
 | [], c, i, _ => by unfold RS.tells; simp
 | t :: ts, c, i, h => by
  unfold RS.tells
  split
  ·exact tell_e c i t (h i (Nat.le_refl _) (by simp))
  ·exact tells_e ts _ _ (fun j h1 h2 => h j (by omega) (by simp at h2 ⊢; omega))
theorem call_e (x : Ins) (h : ∀ j, 1 ≤ j → j ≤ (tolds x.imm).length → σ.S j = true) : (σ.call x).2 ≠ 110 := by
 have ht : (σ.told x.imm).2 ≠ 110 := by
  have := tells_e (σ := σ) (tolds x.imm) (Cl.new x.imm) 0 (fun j h1 h2 => h (j + 1) (by omega) (by omega))
  unfold RS.told
  split <;> exact this
 unfold RS.call
 split
 ·simp
 ·split
  ·exact ht
  ·split
   ·split
    ·exact drawn_e _ _
    ·simp
   ·split
    ·exact acts_e _
    ·simp
theorem does_unset (hz : whatZ x = k) (ho : KindOk x k) (hS : ∀ d, (readsS x).testBit d = true → σ.S d = true) : (σ.does x k).2.2 ≠ 110 := by
 have hrs : readsS x = readsK k.kind k.op k.reg x := by unfold readsS; rw [hz]
 rw [hrs] at hS
 have h2 : (∀ d, (regS k.reg x).testBit d = true → σ.S d = true) → (σ.second x k).2 ≠ false := fun h => by
  unfold RS.second
  split
  ·rename_i hr
   show σ.S x.src.toNat ≠ false
   rw [h x.src.toNat (by unfold regS; rw [hr]; exact bit_self)]
   decide
  ·show true ≠ false
   decide
 have hk12 : k.kind = 1 ∨ k.kind = 2 ∨ k.kind = 3 ∨ k.kind = 4 ∨ k.kind = 5 ∨ (k.kind = 6 ∨ k.kind = 7 ∨ k.kind = 8) ∨ k.kind = 9 ∨ k.kind = 10 ∨ k.kind = 11 ∨ k.kind = 12 := by have := ho.rng; omega
 rcases hk12 with e | e | e | e | e | e | e | e | e | e
 ·simp only [e, readsK, if_true] at hS
  simp only [RS.does, e, if_true]
  unfold RS.arith
  rw [if_neg]
  ·simp
  rintro (h | ⟨h, h'⟩)
  ·refine h2 (fun d hd => hS d ?_) h
   split
   ·exact hd
   ·rw [Nat.testBit_or, hd]; rfl
  ·rw [if_neg h] at hS
   rw [hS x.dst.toNat (by rw [Nat.testBit_or, bit_self, Bool.or_true])] at h'
   cases h'
 ·have := hS x.dst.toNat (by rw [readsK, if_neg (by omega), if_pos (.inl e), Nat.testBit_or, bit_self, Bool.or_true])
  simp [RS.does, e, this]
 ·simp only [RS.does, e]
  simp
  cases σ.L[σ.place.toNat + 1]? <;> simp
 ·simp [RS.does, e]
  split <;> simp
 ·have hs := hS x.src.toNat (by rw [readsK, if_neg (by omega), if_neg (by omega), if_pos e]; exact bit_self)
  simp [RS.does, e]
  unfold RS.load
  rw [if_neg (by rw [hs]; decide)]
  split
  ·exact mload_e _ _ _
  ·simp
 ·have he : k.kind ≠ 1 ∧ k.kind ≠ 2 ∧ k.kind ≠ 3 ∧ k.kind ≠ 4 ∧ k.kind ≠ 5 := by omega
  have hrk : readsK k.kind k.op k.reg x = regS k.reg x ||| bitS x.dst := by rw [readsK, if_neg (by omega), if_pos (by omega)]
  rw [hrk] at hS
  simp only [RS.does, he.1, he.2.1, he.2.2.1, he.2.2.2.1, he.2.2.2.2, if_false, e, if_true]
  unfold RS.store RS.putM
  rw [if_neg]
  ·split
   ·split
    ·exact mload_e _ _ _
    ·exact mstore_e _ _ _ _
   ·exact mstore_e _ _ _ _
  rintro (h | h)
  ·exact h2 (fun d hd => hS d (by rw [Nat.testBit_or, hd]; rfl)) h
  ·rw [hS x.dst.toNat (by rw [Nat.testBit_or, bit_self, Bool.or_true])] at h
   cases h
 ·simp [RS.does, e]
 ·have hrk : readsK k.kind k.op k.reg x = regS k.reg x ||| bitS x.dst := by rw [readsK, if_neg (by omega), if_pos (by omega)]
  rw [hrk] at hS
  have hn : ¬ ((σ.second x k).2 = false ∨ σ.S x.dst.toNat = false) := by
   rintro (h | h)
   ·exact h2 (fun d hd => hS d (by rw [Nat.testBit_or, hd]; rfl)) h
   ·rw [hS x.dst.toNat (by rw [Nat.testBit_or, bit_self, Bool.or_true])] at h
    cases h
  simp only [RS.does, e, hn]
  simp
 ·simp only [RS.does, e]
  simp
  refine call_e x (fun j h1 h3 => hS j ?_)
  rw [readsK, if_neg (by omega), if_neg (by omega), if_neg (by omega), if_neg (by omega), if_pos e]
  exact told_bit (tolds_len _) h1 h3
 ·have := hS 0 (by rw [readsK, if_neg (by omega), if_neg (by omega), if_neg (by omega), if_pos e]; decide)
  simp [RS.does, e, this]
theorem does_S (hz : whatZ x = k) (ho : KindOk x k) (hk : k.kind ≠ 11) (he : (σ.does x k).2.2 = 0) (hl : k.kind = 3 → ∃ y, σ.L[σ.place.toNat + 1]? = some y) : ∀ d, (σ.does x k).1.S d = ((writesS x).testBit d || σ.S d) := by
 have hws : writesS x = if k.kind = 1 ∨ k.kind = 2 ∨ k.kind = 3 ∨ k.kind = 4 ∨ k.kind = 5 then bitS x.dst else if k.kind = 11 then 63 else 0 := by unfold writesS; rw [hz]
 have hset : ∀ n, (k.kind = 1 ∨ k.kind = 2 ∨ k.kind = 3 ∨ k.kind = 4 ∨ k.kind = 5) → ∀ d, (σ.setR x.dst.toNat n).S d = ((writesS x).testBit d || σ.S d) := fun n h d => by
  rw [hws, if_pos h]
  show updN σ.S x.dst.toNat true d = _
  unfold updN bitS
  by_cases hd : d = x.dst.toNat
  ·rw [if_pos hd, hd, Nat.testBit_two_pow_self, Bool.true_or]
  ·rw [if_neg hd, show Nat.testBit (2 ^ x.dst.toNat) d = false from bit_off hd, Bool.false_or]
 have hno : ¬ (k.kind = 1 ∨ k.kind = 2 ∨ k.kind = 3 ∨ k.kind = 4 ∨ k.kind = 5) → ∀ d, σ.S d = ((writesS x).testBit d || σ.S d) := fun h d => by
  rw [hws, if_neg h, if_neg hk]
  simp
 have hk12 : k.kind = 1 ∨ k.kind = 2 ∨ k.kind = 3 ∨ k.kind = 4 ∨ k.kind = 5 ∨ (k.kind = 6 ∨ k.kind = 7 ∨ k.kind = 8) ∨ k.kind = 9 ∨ k.kind = 10 ∨ k.kind = 12 := by have := ho.rng; omega
 rcases hk12 with e | e | e | e | e | e | e | e | e
 ·simp only [RS.does, e, if_true] at he ⊢
  revert he
  unfold RS.arith
  split
  ·intro h; cases h
  ·exact fun _ => hset _ (.inl e)
 ·by_cases hS : σ.S x.dst.toNat = false
  ·simp [RS.does, e, hS] at he
  ·simp only [RS.does, e, hS]
   simp
   exact hset _ (.inr (.inl e))
 ·obtain ⟨y, hy⟩ := hl e
  simp only [RS.does, e, hy]
  simp
  exact hset _ (.inr (.inr (.inl e)))
 ·by_cases hS : (σ.D.length : Int) ≤ x.imm
  ·simp [RS.does, e, hS] at he
  ·simp only [RS.does, e, hS]
   simp
   exact hset _ (.inr (.inr (.inr (.inl e))))
 ·simp [RS.does, e] at he ⊢
  revert he
  unfold RS.load
  split
  ·intro h; cases h
  ·split
   ·rename_i h; exact fun h' => absurd h' h
   ·exact fun _ => hset _ (.inr (.inr (.inr (.inr e))))
 ·have he' : k.kind ≠ 1 ∧ k.kind ≠ 2 ∧ k.kind ≠ 3 ∧ k.kind ≠ 4 ∧ k.kind ≠ 5 := by omega
  simp only [RS.does, he'.1, he'.2.1, he'.2.2.1, he'.2.2.2.1, he'.2.2.2.2, if_false, e, if_true]
  have : (σ.store x k).1.S = σ.S := by unfold RS.store RS.putM; (repeat' split) <;> rfl
  rw [this]
  exact hno (by omega)
 ·simp only [RS.does, e]
  simp only [show ¬ ((9 : Int) = 1) by decide, show ¬ ((9 : Int) = 2) by decide, show ¬ ((9 : Int) = 3) by decide, show ¬ ((9 : Int) = 4) by decide, show ¬ ((9 : Int) = 5) by decide, show ¬ ((9 : Int) = 6 ∨ (9 : Int) = 7 ∨ (9 : Int) = 8) by decide, if_false, if_true]
  exact hno (by omega)
 ·have : (σ.does x k).1.S = σ.S := by
   simp only [RS.does, e]
   simp only [show ¬ ((10 : Int) = 1) by decide, show ¬ ((10 : Int) = 2) by decide, show ¬ ((10 : Int) = 3) by decide, show ¬ ((10 : Int) = 4) by decide, show ¬ ((10 : Int) = 5) by decide, show ¬ ((10 : Int) = 6 ∨ (10 : Int) = 7 ∨ (10 : Int) = 8) by decide, show ¬ ((10 : Int) = 9) by decide, if_false, if_true]
   split <;> rfl
  rw [this]
  exact hno (by omega)
 ·have : (σ.does x k).1.S = σ.S := by
   simp only [RS.does, e]
   simp
   split <;> rfl
  rw [this]
  exact hno (by omega)
theorem call_more (x : Ins) (h : (σ.call x).2 = 0) : (σ.call x).1.calls ≠ [] := by
 have hd : ∀ (s : RS) (c : Cl), (s.done c).calls ≠ [] := fun s c => by show s.calls ++ [c] ≠ []; simp
 revert h
 unfold RS.call
 split
 ·intro h; cases h
 ·split
  ·rename_i h; exact fun h' => absurd h' h
  ·split
   ·split
    ·rename_i h; exact fun h' => absurd h' h
    ·exact fun _ => hd _ _
   ·split
    ·rename_i h; exact fun h' => absurd h' h
    ·exact fun _ => hd _ _
theorem call_keep (x : Ins) (h : σ.calls ≠ []) : (σ.call x).1.calls ≠ [] := by
 by_cases he : (σ.call x).2 = 0
 ·exact call_more x he
 ·rw [call_err x he]; exact h
theorem does_keep (x : Ins) (k : Wh) (h : σ.calls ≠ []) : (σ.does x k).1.calls ≠ [] := by
 by_cases hk : k.kind = 11
 ·have e : σ.does x k = ((σ.call x).1, (nextI x σ.place.toNat : Int), (σ.call x).2) := by simp [RS.does, hk]
  rw [e]
  exact call_keep x h
 ·rw [does_calls x k hk]; exact h
def AllSet (σ : RS) : Prop := σ.calls ≠ [] ∨ (σ.code ≠ 110 ∧ (σ.over = false → ∀ d, Nd σ.L σ.place.toNat d → σ.S d = true))
theorem step_set (hi : σ.Inv) (hb : BytesOk σ.V.1) (h : AllSet σ) : AllSet σ.step.1 := by
 obtain ⟨x, hon⟩ := hi.on
 have hL := (hi.step hb).2.1
 have hcd := (does_core hi.core hb hon.ok hon.kind).2.code
 unfold RS.step at hL ⊢
 by_cases hov : σ.over = true
 ·rw [if_pos hov]; exact h
 rw [if_neg hov, hon.code] at hL ⊢
 simp only at hL ⊢
 rcases h with h | ⟨h0, h⟩
 ·left
  split
  ·exact does_keep x _ h
  ·exact does_keep x _ h
 have hov' : σ.over = false := by simpa using hov
 have hbg : beginsS σ.L σ.place.toNat = true := begins_st hi.prog hi.place.2
 have hr : ∀ d, (readsS x).testBit d = true → σ.S d = true := fun d hd => h hov' d (Need.read (by rw [rdN_at hbg hon.code]; exact hd))
 have hun := does_unset rfl hon.kind hr
 by_cases he : (σ.does x (whatZ x)).2.2 ≠ 0
 ·rw [if_pos he]
  exact .inr ⟨hun, fun h => by cases h⟩
 ·rw [if_neg he] at hL ⊢
  have he0 : (σ.does x (whatZ x)).2.2 = 0 := by simpa using he
  by_cases hk : (whatZ x).kind = 11
  ·left
   have e : σ.does x (whatZ x) = ((σ.call x).1, (nextI x σ.place.toNat : Int), (σ.call x).2) := by simp [RS.does, hk]
   rw [e] at he0
   show (σ.does x (whatZ x)).1.calls ≠ []
   rw [e]
   exact call_more x he0
  refine .inr ⟨by show (σ.does x (whatZ x)).1.code ≠ 110; rw [hcd]; exact h0, fun hn d hd => ?_⟩
  have hn' : (σ.does x (whatZ x)).1.over = false := hn
  rcases does_next hi.prog hon hi.place.2 he0 with ⟨_, _, h5⟩ | ⟨h4, h5⟩
  ·rw [h5] at hn'
   cases hn'
  ·show (σ.does x (whatZ x)).1.S d = true
   rw [does_S rfl hon.kind hk he0 hon.long d]
   by_cases hw : (writesS x).testBit d = true
   ·rw [hw]; rfl
   ·rw [show (writesS x).testBit d = false by simpa using hw, Bool.false_or]
    have hst := ahead_start (ProgF.of hi.prog) hi.place.2 hon.code h4
    have hd' : Need (rdN σ.L) (wrN σ.L) (ahN σ.L) d (σ.does x (whatZ x)).2.1.toNat := by
     have : Nd (σ.does x (whatZ x)).1.L (σ.does x (whatZ x)).2.1.toNat d := hd
     rw [show (σ.does x (whatZ x)).1.L = σ.L from hL] at this
     exact this
    refine h hov' d (Need.on (by rw [wrN_at hbg hon.code]; simpa using hw) ⟨(σ.does x (whatZ x)).2.1.toNat, ?_, hd'⟩)
    rw [Int.toNat_of_nonneg hst.1]
    unfold ahN
    rw [aheadV_at hbg]
    unfold aheadAt
    rw [hon.code]
    exact h4
theorem iter_set : ∀ (n : Nat) (σ : RS), σ.Inv → BytesOk σ.V.1 → AllSet σ → AllSet (RS.iter n σ)
 | 0, σ, _, _, h => h
 | n + 1, σ, hi, hb, h => by
  rw [RS.iter]
  split
  ·exact h
  ·exact iter_set n σ.step.1 (hi.step hb).1 (step_bytes hb) (step_set hi hb h)
theorem ends_law (hi : σ.Inv) (hb : BytesOk σ.V.1) (h : AllSet σ) (fuel : Int) : (σ.run fuel).endV.code ≠ 110 ∨ (σ.run fuel).endV.calls ≠ [] := by
 rcases iter_set (fuel - σ.steps).toNat σ hi hb h with h1 | h1
 ·exact .inr h1
 ·left
  show (σ.run fuel).codeV ≠ 110
  unfold RS.codeV
  split
  ·exact h1.1
  ·decide
end
end Go.Proofs.YtppefchjoodgnaaGreat
