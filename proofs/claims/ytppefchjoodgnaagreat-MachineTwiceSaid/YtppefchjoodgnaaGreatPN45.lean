/- What the claim leans on: Lj. -/
import Derived.Test.YtppefchjoodgnaaGreatPN41
namespace Go.Proofs.YtppefchjoodgnaaGreat
open Go.RowKit
set_option linter.unusedVariables false
set_option linter.unusedSimpArgs false
def Two3 (A B : Lies) (Q : List Nat) (w : World) : Prop :=
 ∃ fa za fb zb, A w fa za ∧ B w fb zb ∧ (∀ j ∈ fa, j ∉ fb ∧ j ∉ zb) ∧ (∀ j ∈ fb, j ∉ za) ∧ ∀ q ∈ Q, q < w.heap.size ∧ (q ∉ fa ∧ q ∉ za) ∧ q ∉ fb ∧ q ∉ zb
section
variable {A B A' : Lies} {Q Q' F : List Nat} {w w' w0 w1 wb u : World} {ba a : Nat} {σ : RS}
theorem Two3.symm (h : Two3 A B Q w) : Two3 B A Q w := by
 obtain ⟨fa, za, fb, zb, h1, h2, h3, h4, h7⟩ := h
 exact ⟨fb, zb, fa, za, h2, h1, fun j hj => ⟨fun hj' => (h3 j hj').1 hj, h4 j hj⟩, fun j hj => (h3 j hj).2, fun q hq => ⟨(h7 q hq).1, (h7 q hq).2.2, (h7 q hq).2.1⟩⟩
theorem Two3.sub (h : Two3 A B Q w) (hQ : ∀ q ∈ Q', q ∈ Q) : Two3 A B Q' w := by
 obtain ⟨fa, za, fb, zb, h1, h2, h3, h4, h7⟩ := h
 exact ⟨fa, za, fb, zb, h1, h2, h3, h4, fun q hq => h7 q (hQ q hq)⟩
theorem Two3.more (ka : Kept A) (kb : Kept B) (h : Two3 A B Q w) (k : Ext w w') (hQ : ∀ q ∈ Q', w.heap.size ≤ q ∧ q < w'.heap.size) : Two3 A B (Q' ++ Q) w' := by
 obtain ⟨fa, za, fb, zb, h1, h2, h3, h4, h7⟩ := h
 have := k.size
 refine ⟨fa, za, fb, zb, ka.ext h1 k, kb.ext h2 k, h3, h4, fun q hq => ?_⟩
 rcases List.mem_append.1 hq with hq | hq
 ·have := hQ q hq
  exact ⟨this.2, ⟨fun hj => by have := (ka.lt h1).1 q hj; omega, fun hj => by have := (ka.lt h1).2 q hj; omega⟩, fun hj => by have := (kb.lt h2).1 q hj; omega, fun hj => by have := (kb.lt h2).2 q hj; omega⟩
 ·exact ⟨by have := (h7 q hq).1; omega, (h7 q hq).2⟩
theorem Two3.ext (ka : Kept A) (kb : Kept B) (h : Two3 A B Q w) (k : Ext w w') : Two3 A B Q w' := by
 have := h.more ka kb k (Q' := []) (fun q hq => by cases hq)
 simpa using this
theorem Two3.keep (ka : Kept A) (kb : Kept B) (h : Two3 A B Q w) (k : Keep F w w') (hF : ∀ q ∈ F, q ∈ Q) : Two3 A B Q w' := by
 obtain ⟨fa, za, fb, zb, h1, h2, h3, h4, h7⟩ := h
 refine ⟨fa, za, fb, zb, ka.keep h1 k (fun j hj hj' => (h7 j (hF j hj')).2.1.1 hj) (fun j hj hj' => (h7 j (hF j hj')).2.1.2 hj), kb.keep h2 k (fun j hj hj' => (h7 j (hF j hj')).2.2.1 hj) (fun j hj hj' => (h7 j (hF j hj')).2.2.2 hj), h3, h4, fun q hq => ⟨Nat.lt_of_lt_of_le (h7 q hq).1 k.size, (h7 q hq).2⟩⟩
theorem Two3.made (ka : Kept A) (kb : Kept B) (hA : RelT A [] [] w0 w1) (hE : Ext w1 wb) (hB : RelT B [] [] wb w) : Two3 A B (List.range w0.heap.size) w := by
 obtain ⟨k1, fa, za, a1, a2, a3⟩ := hA
 obtain ⟨k2, fb, zb, b1, b2, b3⟩ := hB
 have s1 := k1.size
 have s2 := hE.size
 have s3 := k2.size
 have hE2 : Ext wb w := k2.ext (fun _ h => by cases h)
 have hlt := (ka.lt a1).1
 have hlz := (ka.lt a1).2
 refine ⟨fa, za, fb, zb, ka.ext a1 (hE.trans' hE2), b1, fun j hj => ⟨fun hj' => ?_, fun hj' => ?_⟩, fun j hj hj' => ?_, fun q hq => ?_⟩
 ·have := hlt j hj
  have := (b2 j hj').resolve_left (by simp)
  omega
 ·have := hlt j hj
  have := (b3 j hj').resolve_left (by simp)
  omega
 ·have := (b2 j hj).resolve_left (by simp)
  have := hlz j hj'
  omega
 ·have hq := List.mem_range.1 hq
  exact ⟨by omega, ⟨fun hj => by have := (a2 q hj).resolve_left (by simp); omega, fun hj => by have := (a3 q hj).resolve_left (by simp); omega⟩, fun hj => by have := (b2 q hj).resolve_left (by simp); omega, fun hj => by have := (b3 q hj).resolve_left (by simp); omega⟩
theorem Two3.both (ka : Kept A) (kb : Kept B) (h : Two3 A B Q w) : ∃ F Z, RelT A F Z w w ∧ (∀ q ∈ F, q ∉ Q) ∧ (∀ q ∈ F, q < w.heap.size) ∧
  ∀ A' w' Q' f z, Keep F w w' → A' w' f z → (∀ j ∈ f, j ∈ F ∨ w.heap.size ≤ j) → (∀ j ∈ z, j ∈ Z ∨ w.heap.size ≤ j) → (∀ q ∈ Q', (w.heap.size ≤ q ∧ q < w'.heap.size) ∧ q ∉ f ∧ q ∉ z) → Two3 A' B (Q' ++ Q) w' := by
 obtain ⟨fa, za, fb, zb, h1, h2, h3, h4, h7⟩ := h
 have hla := (ka.lt h1).1
 have hlb := (kb.lt h2).1
 have hlz := (kb.lt h2).2
 refine ⟨fa, za, ⟨Keep.rfl' _ _, fa, za, h1, fun j hj => .inl hj, fun j hj => .inl hj⟩, fun q hq hQ => (h7 q hQ).2.1.1 hq, hla, ?_⟩
 intro A' w' Q' fa' za' k k1 k2 k3 hq'
 have hs := k.size
 refine ⟨fa', za', fb, zb, k1, kb.keep h2 k (fun j hj hj' => (h3 j hj').1 hj) (fun j hj hj' => (h3 j hj').2 hj), fun j hj => ?_, fun j hj hj' => ?_, fun q hq => ?_⟩
 ·rcases k2 j hj with h | h
  ·exact h3 j h
  ·exact ⟨fun hj' => by have := hlb j hj'; omega, fun hj' => by have := hlz j hj'; omega⟩
 ·rcases k3 j hj' with h | h
  ·exact h4 j hj h
  ·have := hlb j hj; omega
 ·rcases List.mem_append.1 hq with hq | hq
  ·obtain ⟨⟨g1, g2⟩, g3⟩ := hq' q hq
   exact ⟨g2, g3, fun hj => by have := hlb q hj; omega, fun hj => by have := hlz q hj; omega⟩
  ·refine ⟨by have := (h7 q hq).1; omega, ⟨fun hj => ?_, fun hj => ?_⟩, (h7 q hq).2.2⟩
   ·rcases k2 q hj with h | h
    ·exact (h7 q hq).2.1.1 h
    ·have := (h7 q hq).1; omega
   ·rcases k3 q hj with h | h
    ·exact (h7 q hq).2.1.2 h
    ·have := (h7 q hq).1; omega
theorem three_run (fuel : Int) (kb : Kept B) (h : Two3 (PM ba a σ) B Q w) (hba : ba ≤ w.heap.size) (hi : σ.Inv) (hD : DefsOk σ.D) (hsm : CallsSm σ) (hst : σ.steps ≤ 1000000) (hf : fuel ≤ 1000000) (hDl : σ.D.length ≤ 1000000) :
  Calls Tryz.prog 25 #[.pointer (some ⟨a, 0, none⟩), .int .i64 fuel] w (fun e w' => ∃ (lo : Nat) (ca : Option Addr) (cn cc : Nat) (ma : Option Addr) (mn mc : Nat), e = .returned (.agg #[.int .i64 (σ.run fuel).endV.code, .int .i64 (σ.run fuel).endV.at_, .int .u64 (σ.run fuel).endV.r0, .int .i64 (σ.run fuel).endV.steps, .slice ca cn cc, .slice ma mn mc]) ∧
   Two3 (PM ba a (σ.run fuel)) B (blk lo w'.heap.size ++ Q) w' ∧ w.heap.size ≤ lo ∧ Turn Q w w' ∧ ∃ F0 Z0, RunOk F0 Z0 w ba a (σ.run fuel) lo w' (.slice ca cn cc) (.slice ma mn mc)) := by
 obtain ⟨F, Z, h1, h2, h3, h5⟩ := h.both PM.kept kb
 refine (p_Run fuel (h1.ps hba) hi hD hsm hst hf hDl).mono ?_
 rintro e w' ⟨lo, cv, mv, rfl, hR⟩
 obtain ⟨cs, c1, -, -⟩ := hR.cs
 obtain ⟨rows, m1, -, -⟩ := hR.mp
 obtain ⟨ca, cn, cc, rfl, -, -⟩ := (c1.rd enc_cb).val
 obtain ⟨ma, mn, mc, rfl, -, -⟩ := (m1.rd enc_w).val
 obtain ⟨f, z, g1, g2, g3⟩ := hR.mach
 exact ⟨lo, ca, cn, cc, ma, mn, mc, rfl, h5 _ _ _ f z hR.keep g1 (fun j hj => (g2 j hj).1) (fun j hj => (g3 j hj).1) (fun q hq => by
  have := mem_blk.1 hq
  have := hR.low.1
  exact ⟨⟨by omega, by omega⟩, fun hj => by have := (g2 q hj).2; omega, fun hj => by have := (g3 q hj).2; omega⟩), hR.low.1, ⟨F, hR.keep, fun q hq => ⟨h3 q hq, h2 q hq⟩⟩, F, Z, hR⟩
theorem three_step (kb : Kept B) (h : Two3 (PM ba a σ) B Q w) (hba : ba ≤ w.heap.size) (hg : σ.Good) (hD : DefsOk σ.D) (ho : σ.over = false → ∃ p x, σ.On p x) :
  Calls Tryz.prog 27 #[.pointer (some ⟨a, 0, none⟩)] w (fun e w' => e = .returned (.int .i64 σ.step.2) ∧ Two3 (PM ba a σ.step.1) B Q w' ∧ Turn Q w w') := by
 obtain ⟨F, Z, h1, h2, h3, h5⟩ := h.both PM.kept kb
 refine (p_Step (h1.ps hba) hg hD ho).mono ?_
 rintro e w' ⟨rfl, hR⟩
 obtain ⟨k, f, z, g1, g2, g3⟩ := hR.relT
 exact ⟨rfl, h5 _ _ [] f z k g1 g2 g3 (fun q hq => by cases hq), ⟨F, k, fun q hq => ⟨h3 q hq, h2 q hq⟩⟩⟩
theorem Two3.two (h : Two3 A B Q w) : Two2 A B Q w := by
 obtain ⟨fa, za, fb, zb, h1, h2, h3, h4, h7⟩ := h
 exact ⟨fa, za, fb, zb, h1, h2, h3, h4, fun q hq => ⟨(h7 q hq).1, (h7 q hq).2.1.1, (h7 q hq).2.2.1⟩⟩
theorem three_over (kb : Kept B) (h : Two3 (PM ba a σ) B Q w) (hba : ba ≤ w.heap.size) : Calls Tryz.prog 26 #[.pointer (some ⟨a, 0, none⟩)] w (fun e w' => e = .returned (.bool σ.over) ∧ Two3 (PM ba a σ) B Q w' ∧ Ext w w') :=
 (two_over kb h.two hba).mono (fun e w' ⟨h1, _, h2⟩ => ⟨h1, h.ext PM.kept kb h2, h2⟩)
theorem three_at (kb : Kept B) (h : Two3 (PM ba a σ) B Q w) (hba : ba ≤ w.heap.size) : Calls Tryz.prog 31 #[.pointer (some ⟨a, 0, none⟩)] w (fun e w' => e = .returned (.int .i64 σ.place) ∧ Two3 (PM ba a σ) B Q w' ∧ Ext w w') :=
 (two_at kb h.two hba).mono (fun e w' ⟨h1, _, h2⟩ => ⟨h1, h.ext PM.kept kb h2, h2⟩)
theorem three_reg (kb : Kept B) (h : Two3 (PM ba a σ) B Q w) (hba : ba ≤ w.heap.size) (d : Nat) (hd : d ≤ 10) : Calls Tryz.prog 28 #[.pointer (some ⟨a, 0, none⟩), .int .i64 d] w (fun e w' => e = .returned (.tuple #[.int .u64 (σ.R d), .bool (σ.S d)]) ∧ Two3 (PM ba a σ) B Q w' ∧ Ext w w') :=
 (two_reg kb h.two hba d hd).mono (fun e w' ⟨h1, _, h2⟩ => ⟨h1, h.ext PM.kept kb h2, h2⟩)
end
/-! Slices of the call's own that are written over. -/
def Wr (w : World) (e : TypeId) (sz : Nat) (v : Value) (n : Nat) : Prop := 0 < n → ∃ g cap cur, v = .slice (some ⟨g, 0, none⟩) n cap ∧ w.heap[g]? = some (.cells cur e (0, 0)) ∧ n * sz ≤ cur.size
section
variable {w w' : World} {e : TypeId} {sz n : Nat} {v : Value}
theorem Own.wr {α : Type} {enc : α → List Value} {xs : List α} {base : Nat} (h : Own w base e sz enc v xs) : Wr w e sz v xs.length := by
 intro hn
 rcases h.2 with ⟨_, h0⟩ | ⟨g, cap, cur, rfl, hb, hg, h1, h2, h3, h4⟩
 ·omega
 ·exact ⟨g, cap, cur, rfl, hg, by rw [h3]; exact Nat.mul_le_mul_right _ h1⟩
theorem Wr.ext (h : Wr w e sz v n) (k : Ext w w') : Wr w' e sz v n := by
 intro hn
 obtain ⟨g, cap, cur, rfl, hg, hs⟩ := h hn
 exact ⟨g, cap, cur, rfl, k.obj hg, hs⟩
theorem Wr.set (h : Wr w e sz v n) (b i : Nat) (u : Value) : Wr (w.setCell ⟨b, i, none⟩ u) e sz v n := by
 intro hn
 obtain ⟨g, cap, cur, rfl, hg, hs⟩ := h hn
 by_cases hb : g = b
 ·subst hb
  exact ⟨g, cap, _, rfl, heap_setCell_same w g i _ _ u hg, by simpa using hs⟩
 ·exact ⟨g, cap, cur, rfl, (heap_setCell_other w _ _ _ hb).trans hg, hs⟩
theorem Wr.keep {F : List Nat} (h : Wr w e sz v n) (k : Keep F w w') (hF : ∀ j ∈ v.ownBlock.toList, j ∉ F) : Wr w' e sz v n := by
 intro hn
 obtain ⟨g, cap, cur, rfl, hg, hs⟩ := h hn
 exact ⟨g, cap, cur, rfl, k.obj hg (hF g (by simp [Value.ownBlock])), hs⟩
theorem Wr.at (h : Wr w e sz v n) {i : Nat} (hi : i < n * sz) : ∃ g, v.ownBlock = some g ∧ elt v i = ⟨g, i, none⟩ ∧ (∃ cur, w.heap[g]? = some (.cells cur e (0, 0))) ∧ (∃ u, w.cell? ⟨g, i, none⟩ = some u) ∧ w.frozen? ⟨g, i, none⟩ = false := by
 have hn : 0 < n := by rcases Nat.eq_zero_or_pos n with h0 | h0; subst h0; simp at hi; exact h0
 obtain ⟨g, cap, cur, rfl, hg, hs⟩ := h hn
 refine ⟨g, rfl, by simp [elt, Addr.add_lit], ⟨cur, hg⟩, ?_, frozen_obj hg⟩
 rw [cO hg]
 exact ⟨_, Array.getElem?_eq_getElem (by omega)⟩
end
end Go.Proofs.YtppefchjoodgnaaGreat
