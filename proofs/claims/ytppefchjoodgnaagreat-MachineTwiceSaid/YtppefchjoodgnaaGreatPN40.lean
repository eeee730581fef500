/- What the claim leans on: MsN · LvV · MTwo · LvY · Lg · Lc. -/
import Derived.Test.YtppefchjoodgnaaGreatPN37
import Derived.Test.YtppefchjoodgnaaGreatPN39
import Derived.Test.YtppefchjoodgnaaGreatPN33
import Derived.Test.YtppefchjoodgnaaGreatPN38
namespace Go.Proofs.YtppefchjoodgnaaGreat
open Go.RowKit
set_option linter.unusedVariables false
set_option linter.unusedSimpArgs false
theorem lookup_some {β : Type} : ∀ (M : List (Int × β)) (n : Int) (A : β), M.lookup n = some A → ∃ q ∈ M, q.2 = A
 | [], n, A, h => by simp at h
 | (k, B) :: M, n, A, h => by
  rw [List.lookup_cons] at h
  split at h
  ·cases h; exact ⟨(k, B), List.mem_cons_self, rfl⟩
  ·obtain ⟨q, h1, h2⟩ := lookup_some M n A h
   exact ⟨q, List.mem_cons_of_mem _ h1, h2⟩
theorem mstore_bytes {M : Areas} (h : BytesOk M) (p s n : Int) : BytesOk (mstore M p s n).1 := by
 unfold mstore
 split
 ·cases hm : mfind M p s with
  | none => exact h
  | some z =>
   obtain ⟨A, o⟩ := z
   simp only
   split
   ·exact h
   ·have hA : ∀ x ∈ A.bytes, 0 ≤ x ∧ x ≤ 255 := by
     unfold mfind at hm
     cases hl : M.lookup (p / 4294967296) with
     | none => rw [hl] at hm; cases hm
     | some A' =>
      rw [hl] at hm
      simp only at hm
      split at hm
      ·cases hm
      ·cases hm
       obtain ⟨q, h1, h2⟩ := lookup_some M _ _ hl
       rw [← h2]
       exact h q h1
    intro q hq x hx
    simp only [setKey, List.mem_map] at hq
    obtain ⟨r, hr, rfl⟩ := hq
    split at hx
    ·simp only [Ar.write, over, List.mem_append] at hx
     rcases hx with (hx | hx) | hx
     ·exact hA x (List.mem_of_mem_take hx)
     ·exact bytesOf_u8 n _ x hx
     ·exact hA x (List.mem_of_mem_drop hx)
    ·exact h r hr x hx
 ·exact h
theorem mmake_bytes {M : Areas} (h : BytesOk M) (n : Int) {b : List Int} (hb : ∀ x ∈ b, 0 ≤ x ∧ x ≤ 255) (bl fx : Bool) : BytesOk (mmake M n b bl fx).1 := by
 unfold mmake
 split
 ·exact h
 ·split
  ·exact h
  ·intro q hq x hx
   rcases List.mem_append.1 hq with hq | hq
   ·exact h q hq x hx
   ·rw [List.mem_singleton] at hq
    subst hq
    exact hb x hx
theorem mputs_bytes {M : Areas} (h : BytesOk M) (a : Int) (vs : List Int) : ∀ k, BytesOk (mputs M a vs k)
 | 0 => h
 | k + 1 => mstore_bytes (mputs_bytes h a vs k) _ _ _
theorem rput_bytes {V : Areas × List TM} (h : BytesOk V.1) (i : Int) (ks : List Int) {vs : List Int} (hv : ∀ x ∈ vs, 0 ≤ x ∧ x ≤ 255) (fl : Int) : BytesOk (rput V i ks vs fl).1.1 := by
 unfold rput
 (repeat' split) <;> first | exact h | exact mputs_bytes h _ _ _ | exact mmake_bytes h _ hv _ _
section
variable {σ : RS}
theorem acts_bytes (h : BytesOk σ.V.1) (c : Cl) (hc : ∀ x ∈ c.val, 0 ≤ x ∧ x ≤ 255) : BytesOk (σ.acts c).1.1 := by
 unfold RS.acts
 (repeat' split) <;> first | exact h | exact rput_bytes h _ _ hc _
theorem call_bytes (h : BytesOk σ.V.1) (x : Ins) : BytesOk (σ.call x).1.V.1 := by
 unfold RS.call
 (repeat' split) <;> first | exact h | exact acts_bytes h _ (told_val h x.imm)
theorem ite_by {c : Prop} [Decidable c] {a b : RS × Int × Int} (ha : BytesOk a.1.V.1) (hb : BytesOk b.1.V.1) : BytesOk (if c then a else b).1.V.1 := by split <;> assumption
theorem ite_by2 {c : Prop} [Decidable c] {a b : RS × Int} (ha : BytesOk a.1.V.1) (hb : BytesOk b.1.V.1) : BytesOk (if c then a else b).1.V.1 := by split <;> assumption
theorem does_bytes (h : BytesOk σ.V.1) (x : Ins) (k : Wh) : BytesOk (σ.does x k).1.V.1 := by
 unfold RS.does
 refine ite_by (ite_by2 h h) (ite_by (ite_by h h) (ite_by ?_ (ite_by (ite_by h h) (ite_by (ite_by2 h (ite_by2 h h)) (ite_by (ite_by2 h (ite_by2 (ite_by2 h (mstore_bytes h _ _ _)) (mstore_bytes h _ _ _))) (ite_by h (ite_by (ite_by h h) (ite_by (call_bytes h x) (ite_by (ite_by h h) h)))))))))
 cases σ.L[σ.place.toNat + 1]? <;> exact h
theorem step_bytes (h : BytesOk σ.V.1) : BytesOk σ.step.1.V.1 := by
 unfold RS.step
 split
 ·exact h
 ·split
  ·exact h
  ·split
   ·exact does_bytes h _ _
   ·exact does_bytes h _ _
end
section
variable {σ : RS} {R : Nat → Int} {S : Nat → Bool}
end
def Mat2 (Q : List Nat) (w : World) (ba bb a b : Nat) (σ τ : RS) : Prop :=
 ∃ la lb, MAt w ba a σ la ∧ MAt w bb b τ lb ∧ (∀ j ∈ mfoot a la, j ∉ mfoot b lb ∧ j ∉ mfrz lb) ∧ (∀ j ∈ mfoot b lb, j ∉ mfrz la) ∧ ba ≤ w.heap.size ∧ bb ≤ w.heap.size ∧ ∀ q ∈ Q, q < w.heap.size ∧ q ∉ mfoot a la ∧ q ∉ mfoot b lb
section
variable {w w' w0 w1 wb : World} {ba bb a b : Nat} {σ τ : RS} {Z Zb Q : List Nat}
theorem MAt.ge {l : RLay} (h : MAt w ba a σ l) : ∀ j ∈ mfoot a l, ba ≤ j := fun j hj => by
 rcases List.mem_cons.1 hj with rfl | hj
 ·exact h.low
 ·rcases List.mem_append.1 hj with hj | hj
  ·exact (h.calls.lt (by simpa using hj)).1
  ·exact (h.tab.lt j hj).1
theorem Mat2.symm (h : Mat2 Q w ba bb a b σ τ) : Mat2 Q w bb ba b a τ σ := by
 obtain ⟨la, lb, h1, h2, h3, h4, h5, h6, h7⟩ := h
 exact ⟨lb, la, h2, h1, fun j hj => ⟨fun hj' => (h3 j hj').1 hj, h4 j hj⟩, fun j hj => (h3 j hj).2, h6, h5, fun q hq => ⟨(h7 q hq).1, (h7 q hq).2.2, (h7 q hq).2.1⟩⟩
theorem Mat2.ext (h : Mat2 Q w ba bb a b σ τ) (k : Ext w w') : Mat2 Q w' ba bb a b σ τ := by
 obtain ⟨la, lb, h1, h2, h3, h4, h5, h6, h7⟩ := h
 have := k.size
 exact ⟨la, lb, h1.ext k, h2.ext k, h3, h4, by omega, by omega, fun q hq => ⟨by have := (h7 q hq).1; omega, (h7 q hq).2⟩⟩
theorem Mat2.more (h : Mat2 Q w ba bb a b σ τ) (k : Ext w w') {Q' : List Nat} (hQ : ∀ q ∈ Q', w.heap.size ≤ q ∧ q < w'.heap.size) : Mat2 (Q' ++ Q) w' ba bb a b σ τ := by
 obtain ⟨la, lb, h1, h2, h3, h4, h5, h6, h7⟩ := h
 have := k.size
 refine ⟨la, lb, h1.ext k, h2.ext k, h3, h4, by omega, by omega, fun q hq => ?_⟩
 rcases List.mem_append.1 hq with hq | hq
 ·have := hQ q hq
  exact ⟨this.2, fun hj => by have := h1.lt q hj; omega, fun hj => by have := h2.lt q hj; omega⟩
 ·exact ⟨by have := (h7 q hq).1; omega, (h7 q hq).2⟩
theorem Mat2.made (hA : MRel [] Z w0 w0.heap.size w1 a σ) (hE : Ext w1 wb) (hB : MRel [] Zb wb wb.heap.size w b τ) (hZb : ∀ j ∈ Zb, j < w0.heap.size ∨ w1.heap.size ≤ j) : Mat2 [] w w0.heap.size wb.heap.size a b σ τ := by
 obtain ⟨ka, la0, la, a1, a2, a3⟩ := hA
 obtain ⟨kb, lb0, lb, b1, b2, b3⟩ := hB
 have s1 := ka.size
 have s2 := hE.size
 have s3 := kb.size
 have hE2 : Ext wb w := kb.ext (fun _ h => by cases h)
 have hlt := a1.lt
 refine ⟨la, lb, (a1.ext hE).ext hE2, b1, fun j hj => ⟨fun hj' => ?_, fun hj' => ?_⟩, fun j hj hj' => ?_, by omega, by omega, fun _ h => by cases h⟩
 ·have := hlt j hj
  have := (b2 j hj').resolve_left (by simp)
  omega
 ·have := hlt j hj
  have h1 := (a2 j hj).resolve_left (by simp)
  rcases b3 j hj' with h | h
  ·rcases hZb j h with h | h <;> omega
  ·omega
 ·have := (b2 j hj).resolve_left (by simp)
  have := (a1.frz j hj').2
  omega
theorem Mat2.both (h : Mat2 Q w ba bb a b σ τ) : ∃ F Z Fb Zb, MRel F Z w ba w a σ ∧ (∀ q ∈ Fb, q ∉ F ∧ q ∉ Z ∧ q < w.heap.size) ∧ (∀ q ∈ F, ba ≤ q ∧ q ∉ Q) ∧ (∀ q ∈ Fb, bb ≤ q) ∧ ∀ w' σ', MRel F Z w ba w' a σ' → MRel Fb Zb w' bb w' b τ ∧ Mat2 Q w' ba bb a b σ' τ := by
 obtain ⟨la, lb, h1, h2, h3, h4, h5, h6, h7⟩ := h
 have hla := h1.lt
 have hlb := h2.lt
 refine ⟨mfoot a la, mfrz la, mfoot b lb, mfrz lb, ⟨Keep.rfl' _ _, h5, la, h1, fun j hj => .inl hj, fun j hj => .inl hj⟩, fun q hq => ⟨fun hq' => (h3 q hq').1 hq, h4 q hq, hlb q hq⟩, fun q hq => ⟨h1.ge q hq, fun hQ => (h7 q hQ).2.1 hq⟩, fun q hq => h2.ge q hq, ?_⟩
 rintro w' σ' ⟨k, kl, la', k1, k2, k3⟩
 have hb' : MAt w' bb b τ lb := h2.keep k (fun j hj hj' => (h3 j hj').1 hj) (fun j hj hj' => (h3 j hj').2 hj)
 have hs := k.size
 refine ⟨⟨Keep.rfl' _ _, by omega, lb, hb', fun j hj => .inl hj, fun j hj => .inl hj⟩, la', lb, k1, hb', fun j hj => ?_, fun j hj hj' => ?_, by omega, by omega, fun q hq => ⟨by have := (h7 q hq).1; omega, fun hj => ?_, (h7 q hq).2.2⟩⟩
 ·rcases k2 j hj with h | h
  ·exact h3 j h
  ·exact ⟨fun hj' => by have := hlb j hj'; omega, fun hj' => by have := (h2.frz j hj').2; omega⟩
 ·rcases k3 j hj' with h | h
  ·exact h4 j hj h
  ·have := hlb j hj; omega
 ·rcases k2 q hj with h | h
  ·exact (h7 q hq).2.1 h
  ·have := (h7 q hq).1; omega
theorem Mat2.cells (h : Mat2 Q w ba bb a b σ τ) {τ' : RS} (i j : Nat) (u v : Value) (hc : ∀ l, ((rCells τ l).set i u).set j v = rCells τ' l) (hV : τ'.V = τ.V := by rfl) (hL : τ'.L = τ.L := by rfl) (hD : τ'.D = τ.D := by rfl) (hd : τ'.dr = τ.dr := by rfl) (hcl : τ'.calls = τ.calls := by rfl) : Mat2 Q ((w.setCell ⟨b, i, none⟩ u).setCell ⟨b, j, none⟩ v) ba bb a b σ τ' := by
 obtain ⟨F, Z, Fb, Zb, h1, h2, h3, _, h4⟩ := h.symm.both
 have k : Keep [b] w ((w.setCell ⟨b, i, none⟩ u).setCell ⟨b, j, none⟩ v) := ((Keep.rfl' _ _).setCell (by simp) u).setCell (by simp) v
 refine (h4 _ _ (h1.turn k (fun l hl => ?_) hV hL hD hd hcl)).2.symm
 have e1 := heap_setCell_same w b i _ _ u hl.head
 have e2 := heap_setCell_same _ b j _ _ v e1
 rw [e2, ← hc l]
 simp
end
theorem rfill_bytes {i : Int} {val : Nat} : ∀ (k : Nat) {M M' : Areas}, BytesOk M → rfill M i val k = some M' → BytesOk M'
 | 0, M, M', h, e => by have : M = M' := by simpa [rfill] using e
                        subst this; exact h
 | k + 1, M, M', h, e => by
  rw [rfill, Option.bind_eq_some_iff] at e
  obtain ⟨M1, h1, h2⟩ := e
  split at h2
  ·cases h2
   exact mmake_bytes (rfill_bytes k h h1) _ (fun x hx => by rw [List.eq_of_mem_replicate hx]; decide) _ _
  ·cases h2
theorem rnews_bytes {ds : List TDef} : ∀ (k : Nat) {M : Areas} {V : Areas × List TM}, BytesOk M → rnews M ds k = some V → BytesOk V.1
 | 0, M, V, h, e => by have : (M, []) = V := by simpa [rnews] using e
                       subst this; exact h
 | k + 1, M, V, h, e => by
  rw [rnews, Option.bind_eq_some_iff] at e
  obtain ⟨V1, h1, h2⟩ := e
  rw [Option.bind_eq_some_iff] at h2
  obtain ⟨d, _, h3⟩ := h2
  have hb := rnews_bytes k h h1
  unfold rnew1 at h3
  split at h3
  ·cases h3; exact hb
  ·rw [Option.map_eq_some_iff] at h3
   obtain ⟨M2, h4, h5⟩ := h3
   subst h5
   exact rfill_bytes _ hb h4
theorem rnew_bytes {M : Areas} {ds : List TDef} {V : Areas × List TM} (h : BytesOk M) (e : rnew M ds = some V) : BytesOk V.1 := by
 unfold rnew at e
 split at e
 ·exact rnews_bytes _ h e
 ·cases e
theorem putIts_bytes {i : Nat} : ∀ (l : List (List Int × List Int)) {V V' : Areas × List TM}, (∀ p ∈ l, ∀ x ∈ p.2, 0 ≤ x ∧ x ≤ 255) → BytesOk V.1 → putIts V i l = some V' → BytesOk V'.1
 | [], V, V', _, h, e => by have : V = V' := by simpa [putIts] using e
                            subst this; exact h
 | p :: l, V, V', hl, h, e => by
  rw [putIts] at e
  split at e
  ·exact putIts_bytes l (fun q hq => hl q (List.mem_cons_of_mem _ hq)) (rput_bytes h _ _ (hl p List.mem_cons_self) _) e
  ·cases e
theorem putAll_bytes : ∀ (ls : List (List (List Int × List Int))) (i : Nat) {V V' : Areas × List TM}, (∀ l ∈ ls, ∀ p ∈ l, ∀ x ∈ p.2, 0 ≤ x ∧ x ≤ 255) → BytesOk V.1 → putAll V i ls = some V' → BytesOk V'.1
 | [], i, V, V', _, h, e => by have : V = V' := by simpa [putAll] using e
                               subst this; exact h
 | l :: ls, i, V, V', hl, h, e => by
  rw [putAll, Option.bind_eq_some_iff] at e
  obtain ⟨V1, h1, h2⟩ := e
  exact putAll_bytes ls (i + 1) (fun q hq => hl q (List.mem_cons_of_mem _ hq)) (putIts_bytes l (hl l List.mem_cons_self) h h1) h2
theorem new_bytes {L : List Ins} {e : EnvD} {σ : RS} (h : RS.new L e = some σ) (hc : ∀ x ∈ e.ctx, 0 ≤ x ∧ x ≤ 255) (hi : ∀ l ∈ e.items, ∀ p ∈ l, ∀ x ∈ p.2, 0 ≤ x ∧ x ≤ 255) : BytesOk σ.V.1 := by
 unfold RS.new at h
 split at h
 ·cases h
 ·rw [Option.bind_eq_some_iff] at h
  obtain ⟨V, h1, h2⟩ := h
  rw [Option.map_eq_some_iff] at h2
  obtain ⟨V', h3, h4⟩ := h2
  subst h4
  refine putAll_bytes _ _ hi (rnew_bytes ?_ h1) h3
  unfold areas0
  exact mmake_bytes (mmake_bytes (fun q hq => by cases hq) _ hc _ _) _ small_512 _ _
section
variable {σ : RS}
theorem iter_inv : ∀ (n : Nat) (σ : RS), σ.Inv → BytesOk σ.V.1 → (RS.iter n σ).Inv ∧ BytesOk (RS.iter n σ).V.1 ∧ (RS.iter n σ).L = σ.L ∧ (RS.iter n σ).D = σ.D
 | 0, σ, hi, hb => ⟨hi, hb, rfl, rfl⟩
 | n + 1, σ, hi, hb => by
  rw [RS.iter]
  split
  ·exact ⟨hi, hb, rfl, rfl⟩
  ·obtain ⟨h1, h2, h3⟩ := hi.step hb
   obtain ⟨g1, g2, g3, g4⟩ := iter_inv n σ.step.1 h1 (step_bytes hb)
   exact ⟨g1, g2, g3.trans h2, g4.trans h3⟩
theorem run_inv (hi : σ.Inv) (hb : BytesOk σ.V.1) (k : Int) : (σ.run k).Inv ∧ BytesOk (σ.run k).V.1 ∧ (σ.run k).L = σ.L ∧ (σ.run k).D = σ.D := iter_inv _ _ hi hb
theorem Agr.put {A : Nat → Prop} {R : Nat → Int} {S : Nat → Bool} (h : Agr A σ R S) {d : Nat} (hd : ¬ A d) (n : Int) (b : Bool) : Agr A σ (updN R d n) (updN S d b) := fun e he => by
 have : e ≠ d := fun h' => hd (by rw [← h']; exact he)
 unfold updN
 rw [if_neg this, if_neg this]
 exact h e he
end
section
variable {σ : RS}
/-! No error is the one that tells of fuel. -/
theorem ite_n {c : Prop} [Decidable c] {a b : Int} (ha : a ≠ 111) (hb : b ≠ 111) : (if c then a else b) ≠ 111 := by split <;> assumption
theorem ite_n2 {α : Type} {c : Prop} [Decidable c] {a b : α × Int} (ha : a.2 ≠ 111) (hb : b.2 ≠ 111) : (if c then a else b).2 ≠ 111 := by split <;> assumption
theorem ite_n3 {α β : Type} {c : Prop} [Decidable c] {a b : α × β × Int} (ha : a.2.2 ≠ 111) (hb : b.2.2 ≠ 111) : (if c then a else b).2.2 ≠ 111 := by split <;> assumption
theorem n0 : (0 : Int) ≠ 111 := by decide
theorem n1 : (1 : Int) ≠ 111 := by decide
theorem n80 : (80 : Int) ≠ 111 := by decide
theorem n81 : (81 : Int) ≠ 111 := by decide
theorem n82 : (82 : Int) ≠ 111 := by decide
theorem n100 : (100 : Int) ≠ 111 := by decide
theorem n110 : (110 : Int) ≠ 111 := by decide
theorem n112 : (112 : Int) ≠ 111 := by decide
theorem n113 : (113 : Int) ≠ 111 := by decide
theorem mread_nf (M : Areas) (p s : Int) : (mread M p s).2 ≠ 111 := by
 unfold mread
 refine ite_n2 (by first | exact n0 | exact n1 | exact n80 | exact n81 | exact n82 | exact n100 | exact n110 | exact n112 | exact n113) ?_
 cases mfind M p s with
 | none => exact (by first | exact n0 | exact n1 | exact n80 | exact n81 | exact n82 | exact n100 | exact n110 | exact n112 | exact n113)
 | some A => exact ite_n2 (by first | exact n0 | exact n1 | exact n80 | exact n81 | exact n82 | exact n100 | exact n110 | exact n112 | exact n113) (by first | exact n0 | exact n1 | exact n80 | exact n81 | exact n82 | exact n100 | exact n110 | exact n112 | exact n113)
theorem mload_nf (M : Areas) (p s : Int) : (mload M p s).2 ≠ 111 := by
 unfold mload
 exact ite_n2 (mread_nf _ _ _) (by first | exact n0 | exact n1 | exact n80 | exact n81 | exact n82 | exact n100 | exact n110 | exact n112 | exact n113)
theorem mstore_nf (M : Areas) (p s n : Int) : (mstore M p s n).2 ≠ 111 := by
 unfold mstore
 refine ite_n2 ?_ (by first | exact n0 | exact n1 | exact n80 | exact n81 | exact n82 | exact n100 | exact n110 | exact n112 | exact n113)
 cases mfind M p s with
 | none => exact (by first | exact n0 | exact n1 | exact n80 | exact n81 | exact n82 | exact n100 | exact n110 | exact n112 | exact n113)
 | some A => exact ite_n2 (by first | exact n0 | exact n1 | exact n80 | exact n81 | exact n82 | exact n100 | exact n110 | exact n112 | exact n113) (by first | exact n0 | exact n1 | exact n80 | exact n81 | exact n82 | exact n100 | exact n110 | exact n112 | exact n113)
theorem rput_nf (V : Areas × List TM) (i : Int) (ks vs : List Int) (f : Int) : (rput V i ks vs f).2.2 ≠ 111 := by
 unfold rput
 cases tfind V.2 i ks.length with
 | none => exact (by first | exact n0 | exact n1 | exact n80 | exact n81 | exact n82 | exact n100 | exact n110 | exact n112 | exact n113)
 | some t =>
  refine ite_n3 (by first | exact n0 | exact n1 | exact n80 | exact n81 | exact n82 | exact n100 | exact n110 | exact n112 | exact n113) (ite_n3 (by first | exact n0 | exact n1 | exact n80 | exact n81 | exact n82 | exact n100 | exact n110 | exact n112 | exact n113) ?_)
  cases t.slots.lookup (strOfNums ks) with
  | some n => exact ite_n3 (by first | exact n0 | exact n1 | exact n80 | exact n81 | exact n82 | exact n100 | exact n110 | exact n112 | exact n113) (by first | exact n0 | exact n1 | exact n80 | exact n81 | exact n82 | exact n100 | exact n110 | exact n112 | exact n113)
  | none => exact ite_n3 (by first | exact n0 | exact n1 | exact n80 | exact n81 | exact n82 | exact n100 | exact n110 | exact n112 | exact n113) (ite_n3 (by first | exact n0 | exact n1 | exact n80 | exact n81 | exact n82 | exact n100 | exact n110 | exact n112 | exact n113) (ite_n3 (by first | exact n0 | exact n1 | exact n80 | exact n81 | exact n82 | exact n100 | exact n110 | exact n112 | exact n113) (ite_n3 (by first | exact n0 | exact n1 | exact n80 | exact n81 | exact n82 | exact n100 | exact n110 | exact n112 | exact n113) (ite_n3 (by first | exact n0 | exact n1 | exact n80 | exact n81 | exact n82 | exact n100 | exact n110 | exact n112 | exact n113) (by first | exact n0 | exact n1 | exact n80 | exact n81 | exact n82 | exact n100 | exact n110 | exact n112 | exact n113)))))
theorem rdrop_nf (T : List TM) (i : Int) (ks : List Int) : (rdrop T i ks).2.2 ≠ 111 := by
 unfold rdrop
 cases tfind T i ks.length with
 | none => exact (by first | exact n0 | exact n1 | exact n80 | exact n81 | exact n82 | exact n100 | exact n110 | exact n112 | exact n113)
 | some t => exact ite_n3 (by first | exact n0 | exact n1 | exact n80 | exact n81 | exact n82 | exact n100 | exact n110 | exact n112 | exact n113) (ite_n3 (by first | exact n0 | exact n1 | exact n80 | exact n81 | exact n82 | exact n100 | exact n110 | exact n112 | exact n113) (by first | exact n0 | exact n1 | exact n80 | exact n81 | exact n82 | exact n100 | exact n110 | exact n112 | exact n113))
theorem tell_nf (c : Cl) (i : Nat) (t : Int) : (σ.tell c i t).2 ≠ 111 := by
 unfold RS.tell
 exact ite_n2 (by first | exact n0 | exact n1 | exact n80 | exact n81 | exact n82 | exact n100 | exact n110 | exact n112 | exact n113) (ite_n2 (ite_n (by first | exact n0 | exact n1 | exact n80 | exact n81 | exact n82 | exact n100 | exact n110 | exact n112 | exact n113) (by first | exact n0 | exact n1 | exact n80 | exact n81 | exact n82 | exact n100 | exact n110 | exact n112 | exact n113)) (ite_n2 (mread_nf _ _ _) (ite_n2 (mread_nf _ _ _) (by first | exact n0 | exact n1 | exact n80 | exact n81 | exact n82 | exact n100 | exact n110 | exact n112 | exact n113))))
theorem tells_nf : ∀ (ts : List Int) (c : Cl) (i : Nat), (σ.tells c i ts).2 ≠ 111
 | [], c, i => by exact n0
 | t :: ts, c, i => by
  unfold RS.tells
  exact ite_n2 (tell_nf _ _ _) (tells_nf ts _ _)
theorem told_nf (id : Int) : (σ.told id).2 ≠ 111 := by
 unfold RS.told
 exact ite_n2 (tells_nf _ _ _) (tells_nf _ _ _)
theorem acts_nf (c : Cl) : (σ.acts c).2.2 ≠ 111 := by
 unfold RS.acts
 exact ite_n3 (by unfold tlook; cases tfind σ.V.2 c.map c.key.length with
  | none => exact (by first | exact n0 | exact n1 | exact n80 | exact n81 | exact n82 | exact n100 | exact n110 | exact n112 | exact n113)
  | some t => simp only; split <;> first | exact n0 | exact n1) (ite_n3 (rput_nf _ _ _ _ _) (ite_n3 (rdrop_nf _ _ _) (by first | exact n0 | exact n1 | exact n80 | exact n81 | exact n82 | exact n100 | exact n110 | exact n112 | exact n113)))
theorem drawnErr_nf (id : Int) (xs : List Int) : drawnErr id xs ≠ 111 := by
 unfold drawnErr
 exact ite_n (ite_n (by first | exact n0 | exact n1 | exact n80 | exact n81 | exact n82 | exact n100 | exact n110 | exact n112 | exact n113) (by first | exact n0 | exact n1 | exact n80 | exact n81 | exact n82 | exact n100 | exact n110 | exact n112 | exact n113)) (by first | exact n0 | exact n1 | exact n80 | exact n81 | exact n82 | exact n100 | exact n110 | exact n112 | exact n113)
theorem call_nf (x : Ins) : (σ.call x).2 ≠ 111 := by
 unfold RS.call
 exact ite_n2 (by first | exact n0 | exact n1 | exact n80 | exact n81 | exact n82 | exact n100 | exact n110 | exact n112 | exact n113) (ite_n2 (told_nf _) (ite_n2 (ite_n2 (drawnErr_nf _ _) (by first | exact n0 | exact n1 | exact n80 | exact n81 | exact n82 | exact n100 | exact n110 | exact n112 | exact n113)) (ite_n2 (acts_nf _) (by first | exact n0 | exact n1 | exact n80 | exact n81 | exact n82 | exact n100 | exact n110 | exact n112 | exact n113))))
theorem does_nf (x : Ins) (k : Wh) : (σ.does x k).2.2 ≠ 111 := by
 have h1 : (σ.arith x k).2 ≠ 111 := by unfold RS.arith; exact ite_n2 (by first | exact n0 | exact n1 | exact n80 | exact n81 | exact n82 | exact n100 | exact n110 | exact n112 | exact n113) (by first | exact n0 | exact n1 | exact n80 | exact n81 | exact n82 | exact n100 | exact n110 | exact n112 | exact n113)
 have h2 : (σ.load x k).2 ≠ 111 := by unfold RS.load; exact ite_n2 (by first | exact n0 | exact n1 | exact n80 | exact n81 | exact n82 | exact n100 | exact n110 | exact n112 | exact n113) (ite_n2 (mload_nf _ _ _) (by first | exact n0 | exact n1 | exact n80 | exact n81 | exact n82 | exact n100 | exact n110 | exact n112 | exact n113))
 have h3 : (σ.store x k).2 ≠ 111 := by unfold RS.store; exact ite_n2 (by first | exact n0 | exact n1 | exact n80 | exact n81 | exact n82 | exact n100 | exact n110 | exact n112 | exact n113) (ite_n2 (ite_n2 (mload_nf _ _ _) (mstore_nf _ _ _ _)) (mstore_nf _ _ _ _))
 unfold RS.does
 refine ite_n3 h1 (ite_n3 (ite_n3 (by first | exact n0 | exact n1 | exact n80 | exact n81 | exact n82 | exact n100 | exact n110 | exact n112 | exact n113) (by first | exact n0 | exact n1 | exact n80 | exact n81 | exact n82 | exact n100 | exact n110 | exact n112 | exact n113)) (ite_n3 ?_ (ite_n3 (ite_n3 (by first | exact n0 | exact n1 | exact n80 | exact n81 | exact n82 | exact n100 | exact n110 | exact n112 | exact n113) (by first | exact n0 | exact n1 | exact n80 | exact n81 | exact n82 | exact n100 | exact n110 | exact n112 | exact n113)) (ite_n3 h2 (ite_n3 h3 (ite_n3 (by first | exact n0 | exact n1 | exact n80 | exact n81 | exact n82 | exact n100 | exact n110 | exact n112 | exact n113) (ite_n3 (ite_n3 (by first | exact n0 | exact n1 | exact n80 | exact n81 | exact n82 | exact n100 | exact n110 | exact n112 | exact n113) (by first | exact n0 | exact n1 | exact n80 | exact n81 | exact n82 | exact n100 | exact n110 | exact n112 | exact n113)) (ite_n3 (call_nf _) (ite_n3 (ite_n3 (by first | exact n0 | exact n1 | exact n80 | exact n81 | exact n82 | exact n100 | exact n110 | exact n112 | exact n113) (by first | exact n0 | exact n1 | exact n80 | exact n81 | exact n82 | exact n100 | exact n110 | exact n112 | exact n113)) (by first | exact n0 | exact n1 | exact n80 | exact n81 | exact n82 | exact n100 | exact n110 | exact n112 | exact n113))))))))))
 cases σ.L[σ.place.toNat + 1]? with
 | none => exact (by first | exact n0 | exact n1 | exact n80 | exact n81 | exact n82 | exact n100 | exact n110 | exact n112 | exact n113)
 | some y => exact (by first | exact n0 | exact n1 | exact n80 | exact n81 | exact n82 | exact n100 | exact n110 | exact n112 | exact n113)
def isD (id : Int) : Bool := id == 5 || id == 7 || id == 8
def cntD : List Cl → Nat
 | [] => 0
 | c :: cs => (if isD c.id then 1 else 0) + cntD cs
theorem cntD_app (a b : List Cl) : cntD (a ++ b) = cntD a + cntD b := by
 induction a with
 | nil => simp [cntD]
 | cons c a ih => simp only [List.cons_append, cntD, ih]; omega
def DrawnOk (ds : List Int) (cs : List Cl) : Prop := ∀ (j : Nat) c, cs[j]? = some c → isD c.id = true → cntD (cs.take j) < ds.length ∧ (c.id = 5 → ds[cntD (cs.take j)]? = some c.ret)
structure StayI (ds : List Int) (σ : RS) : Prop where
 r10 : σ.R 10 = 8589935104
 s10 : σ.S 10 = true
 code : σ.code ≠ 111
 dr : σ.dr = ds.drop (cntD σ.calls)
 ok : DrawnOk ds σ.calls
theorem drawn_5 {x : Int} {xs : List Int} (h : 0 ≤ x ∧ x ≤ 18446744073709551615) : drawn 5 (x :: xs) = x := by
 obtain ⟨n, rfl⟩ := Int.eq_ofNat_of_zero_le h.1
 show bits .and .u64 (n : Int) 18446744073709551615 = n
 have e := bits_and_u64_nat n 18446744073709551615 (by omega) (by decide)
 rw [show ((18446744073709551615 : Nat) : Int) = 18446744073709551615 from rfl] at e
 rw [e, show (18446744073709551615 : Nat) = 2 ^ 64 - 1 from rfl, Nat.and_two_pow_sub_one_eq_mod, Nat.mod_eq_of_lt (by omega)]
theorem DrawnOk.more {ds : List Int} {cs : List Cl} {c : Cl} (h : DrawnOk ds cs) (hc : isD c.id = true → cntD cs < ds.length ∧ (c.id = 5 → ds[cntD cs]? = some c.ret)) : DrawnOk ds (cs ++ [c]) := by
 intro j d hj hd
 by_cases hlt : j < cs.length
 ·rw [List.getElem?_append_left hlt] at hj
  rw [List.take_append_of_le_length (by omega)]
  exact h j d hj hd
 ·have hj2 : j = cs.length := by
   have := (List.getElem?_eq_some_iff.1 hj).1
   rw [List.length_append, List.length_singleton] at this
   omega
  subst hj2
  rw [List.getElem?_append_right (Nat.le_refl _), Nat.sub_self] at hj
  obtain rfl : c = d := by simpa using hj
  rw [List.take_append_of_le_length (by omega), List.take_of_length_le (by omega)]
  exact hc hd
theorem StayI.done {ds : List Int} {s : RS} {c : Cl} (h : StayI ds s) (hdr : isD c.id = false) : StayI ds (s.done c) := by
 refine ⟨?_, ?_, h.code, ?_, h.ok.more (fun h' => by rw [hdr] at h'; cases h')⟩
 ·show updN (fun j => if 1 ≤ j ∧ j ≤ 5 then 0 else s.R j) 0 c.ret 10 = _
  unfold updN
  simp [h.r10]
 ·show updN (fun j => if 1 ≤ j ∧ j ≤ 5 then false else s.S j) 0 true 10 = _
  unfold updN
  simp [h.s10]
 ·show s.dr = ds.drop (cntD (s.calls ++ [c]))
  rw [cntD_app, h.dr]
  simp [cntD, hdr]
theorem StayI.call {ds : List Int} (h : StayI ds σ) (hds : U64s ds) (x : Ins) : StayI ds (σ.call x).1 := by
 unfold RS.call
 split
 ·exact h
 split
 ·exact h
 rename_i h2
 obtain ⟨i1, i2⟩ := told_id (σ := σ) (id := x.imm) (by simpa using h2)
 split
 ·rename_i hd
  split
  ·exact h
  ·rename_i he
   have hne : σ.dr ≠ [] := by
    intro h0
    apply he
    unfold drawnErr
    rw [if_pos hd, if_pos h0]
    decide
   have hlt : cntD σ.calls < ds.length := by
    rw [h.dr] at hne
    exact Nat.lt_of_not_le (fun h' => hne (List.drop_of_length_le h'))
   obtain ⟨y, hy⟩ : ∃ y, ds[cntD σ.calls]? = some y := ⟨_, List.getElem?_eq_getElem hlt⟩
   have hcons : σ.dr = y :: ds.drop (cntD σ.calls + 1) := by
    rw [h.dr, List.drop_eq_getElem_cons hlt]
    rw [List.getElem?_eq_getElem hlt] at hy
    injection hy with hy
    rw [hy]
   have hD : isD x.imm = true := hd
   refine ⟨?_, ?_, h.code, ?_, h.ok.more (fun _ => ⟨hlt, fun h5 => ?_⟩)⟩
   ·show updN (fun j => if 1 ≤ j ∧ j ≤ 5 then 0 else σ.R j) 0 (drawn x.imm σ.dr) 10 = _
    unfold updN
    simp [h.r10]
   ·show updN (fun j => if 1 ≤ j ∧ j ≤ 5 then false else σ.S j) 0 true 10 = _
    unfold updN
    simp [h.s10]
   ·show drawnRest x.imm σ.dr = ds.drop (cntD (σ.calls ++ [_]))
    unfold drawnRest
    rw [if_pos hd, cntD_app]
    have : ∀ c : Cl, c.id = x.imm → cntD [c] = 1 := fun c hc => by
     simp only [cntD, hc, hD]
     rfl
    rw [this _ (by exact i1), h.dr, List.drop_drop]
   ·have h5' : x.imm = 5 := by rw [← i1]; exact h5
    show ds[cntD σ.calls]? = some (drawn x.imm σ.dr)
    rw [h5', hcons, drawn_5 (hds y (List.mem_of_getElem? hy)), hy]
 ·rename_i hd
  have hD : isD x.imm = false := by
   have : draws x.imm = false := by simpa using hd
   exact this
  split
  ·exact ⟨h.r10, h.s10, h.code, h.dr, h.ok⟩
  ·refine StayI.done (s := { σ with V := _ }) ⟨h.r10, h.s10, h.code, h.dr, h.ok⟩ ?_
   show isD (σ.told x.imm).1.id = false
   rw [i1]
   exact hD
theorem StayI.setR {ds : List Int} (h : StayI ds σ) {d : Nat} (hd : d ≠ 10) (n : Int) : StayI ds (σ.setR d n) := by
 refine ⟨?_, ?_, h.code, h.dr, h.ok⟩
 ·show updN σ.R d n 10 = _
  unfold updN
  rw [if_neg (fun h => hd h.symm)]
  exact h.r10
 ·show updN σ.S d true 10 = _
  unfold updN
  rw [if_neg (fun h => hd h.symm)]
  exact h.s10
theorem ite_i {ds : List Int} {c : Prop} [Decidable c] {a b : RS × Int × Int} (ha : StayI ds a.1) (hb : StayI ds b.1) : StayI ds (if c then a else b).1 := by split <;> assumption
theorem ite_i2 {ds : List Int} {c : Prop} [Decidable c] {a b : RS × Int} (ha : StayI ds a.1) (hb : StayI ds b.1) : StayI ds (if c then a else b).1 := by split <;> assumption
theorem StayI.does {ds : List Int} (h : StayI ds σ) (hds : U64s ds) {x : Ins} {k : Wh} (hx : 0 ≤ x.dst) (hk : k.kind ≤ 5 → x.dst ≠ 10) : StayI ds (σ.does x k).1 := by
 have h10 : k.kind ≤ 5 → x.dst.toNat ≠ 10 := fun h' => by have := hk h'; omega
 have hM : ∀ M, StayI ds (σ.setM M) := fun M => ⟨h.r10, h.s10, h.code, h.dr, h.ok⟩
 have hst : StayI ds (σ.store x k).1 := by
  unfold RS.store
  exact ite_i2 h (ite_i2 (ite_i2 h (hM _)) (hM _))
 unfold RS.does
 by_cases h1 : k.kind = 1
 ·rw [if_pos h1]
  show StayI ds (σ.arith x k).1
  unfold RS.arith
  exact ite_i2 h (h.setR (h10 (by omega)) _)
 rw [if_neg h1]
 by_cases h2 : k.kind = 2
 ·rw [if_pos h2]
  exact ite_i h (h.setR (h10 (by omega)) _)
 rw [if_neg h2]
 by_cases h3 : k.kind = 3
 ·rw [if_pos h3]
  cases σ.L[σ.place.toNat + 1]? with
  | none => exact h
  | some y => exact h.setR (h10 (by omega)) _
 rw [if_neg h3]
 by_cases h4 : k.kind = 4
 ·rw [if_pos h4]
  exact ite_i h (h.setR (h10 (by omega)) _)
 rw [if_neg h4]
 by_cases h5 : k.kind = 5
 ·rw [if_pos h5]
  show StayI ds (σ.load x k).1
  unfold RS.load
  exact ite_i2 h (ite_i2 h (h.setR (h10 (by omega)) _))
 rw [if_neg h5]
 exact ite_i hst (ite_i h (ite_i (ite_i h h) (ite_i (h.call hds x) (ite_i (ite_i h ⟨h.r10, h.s10, h.code, h.dr, h.ok⟩) h))))
theorem StayI.step {ds : List Int} (h : StayI ds σ) (hds : U64s ds) (hi : σ.Inv) : StayI ds σ.step.1 := by
 obtain ⟨x, hon⟩ := hi.on
 have hd := h.does hds (x := x) (k := whatZ x) hon.ok.dst.1 hon.kind.kd
 unfold RS.step
 by_cases hov : σ.over = true
 ·rw [if_pos hov]; exact h
 rw [if_neg hov, hon.code]
 simp only
 by_cases he : (σ.does x (whatZ x)).2.2 ≠ 0
 ·rw [if_pos he]
  exact ⟨hd.r10, hd.s10, does_nf _ _, hd.dr, hd.ok⟩
 ·rw [if_neg he]
  exact ⟨hd.r10, hd.s10, hd.code, hd.dr, hd.ok⟩
theorem StayI.iter {ds : List Int} (hds : U64s ds) : ∀ (n : Nat) (σ : RS), StayI ds σ → σ.Inv → BytesOk σ.V.1 → StayI ds (RS.iter n σ)
 | 0, σ, h, _, _ => h
 | n + 1, σ, h, hi, hb => by
  rw [RS.iter]
  split
  ·exact h
  ·exact StayI.iter hds n _ (h.step hds hi) (hi.step hb).1 (step_bytes hb)
theorem StayI.run {ds : List Int} (hds : U64s ds) (h : StayI ds σ) (hi : σ.Inv) (hb : BytesOk σ.V.1) (n : Int) : StayI ds (σ.run n) := StayI.iter hds _ _ h hi hb
theorem StayI.codeV {ds : List Int} (h : StayI ds σ) : σ.endV.code = 111 ↔ σ.over = false := by
 show σ.codeV = 111 ↔ _
 unfold RS.codeV
 cases ho : σ.over with
 | true => simp [h.code]
 | false => simp
/-! In two parts as at once. -/
theorem step_le1 (hi : σ.Inv) : σ.step.1.steps ≤ σ.steps + 1 := by
 obtain ⟨x, hon⟩ := hi.on
 unfold RS.step
 by_cases h : σ.over = true
 ·rw [if_pos h]; show σ.steps ≤ σ.steps + 1; omega
 rw [if_neg h, hon.code]
 simp only
 by_cases he : (σ.does x (whatZ x)).2.2 ≠ 0
 ·rw [if_pos he]; show (σ.does x (whatZ x)).1.steps ≤ σ.steps + 1; rw [does_steps]; omega
 ·rw [if_neg he]; show (σ.does x (whatZ x)).1.steps + 1 ≤ σ.steps + 1; rw [does_steps]; omega
theorem run_two : ∀ (m : Nat) (σ : RS) (k n : Int), (k - σ.steps).toNat = m → σ.Inv → BytesOk σ.V.1 → k ≤ n → (σ.run k).run n = σ.run n
 | m, σ, k, n, hm, hi, hb, hk => by
  by_cases ho : σ.over = true
  ·rw [run_stop (fuel := k) (.inl ho)]
  have ho' : σ.over = false := by simpa using ho
  by_cases hs : k ≤ σ.steps
  ·rw [run_stop (fuel := k) (.inr hs)]
  obtain ⟨h1, -, -⟩ := hi.step hb
  rw [← run_step (fuel := k) ho' (by omega) hi, ← run_step (fuel := n) ho' (by omega) hi]
  rcases step_steps ho' hi with h2 | h2
  ·rw [run_stop (fuel := k) (.inl h2)]
  ·match m, hm with
   | 0, hm => omega
   | m + 1, hm => exact run_two m σ.step.1 k n (by omega) h1 (step_bytes hb) hk
theorem run_le : ∀ (m : Nat) (σ : RS) (n : Int), (n - σ.steps).toNat = m → σ.Inv → BytesOk σ.V.1 → σ.steps ≤ n → (σ.run n).steps ≤ n
 | m, σ, n, hm, hi, hb, hn => by
  by_cases ho : σ.over = true
  ·rw [run_stop (.inl ho)]; exact hn
  have ho' : σ.over = false := by simpa using ho
  by_cases hs : n ≤ σ.steps
  ·rw [run_stop (.inr hs)]; exact hn
  obtain ⟨h1, -, -⟩ := hi.step hb
  rw [← run_step (fuel := n) ho' (by omega) hi]
  rcases step_steps ho' hi with h2 | h2
  ·rw [run_stop (.inl h2)]
   have := step_le1 hi
   omega
  ·match m, hm with
   | 0, hm => omega
   | m + 1, hm => exact run_le m σ.step.1 n (by omega) h1 (step_bytes hb) (by omega)
end
structure NewF (e : EnvD) (σ : RS) : Prop where
 inv : σ.Inv
 u8 : BytesOk σ.V.1
 defs : DefsOk σ.D
 sm : CallsSm σ
 D : σ.D = e.defs
 dl : σ.D.length ≤ 1000000
 steps : σ.steps = 0
 over : σ.over = false
 stay : StayI e.draws σ
theorem new_facts {L : List Ins} {e : EnvD} {σ : RS} (h : RS.new L e = some σ) (hok : InsOk L) (hd : U64s e.draws) (hl : e.draws.length ≤ 1000000) (hc : ∀ x ∈ e.ctx, 0 ≤ x ∧ x ≤ 255) (hi : ∀ l ∈ e.items, ∀ p ∈ l, ∀ x ∈ p.2, 0 ≤ x ∧ x ≤ 255) : NewF e σ := by
 obtain ⟨h1, h2, h3, h4, h5, h6, h7, h8, h9⟩ := new_inv h hok hd hl
 refine ⟨h1, new_bytes h hc hi, ?_, (fun c hcc => by rw [h8] at hcc; cases hcc), h3, by rw [h3]; omega, h6, h5, ?_⟩
 ·rw [h3]
  unfold RS.new at h
  split at h
  ·cases h
  rw [Option.bind_eq_some_iff] at h
  obtain ⟨V, g1, g2⟩ := h
  unfold rnew at g1
  split at g1
  ·rename_i hr
   intro d hd'
   have := (may_iff d).1 ((right_iff hr).2 d hd')
   rcases this.1 with h | h <;> omega
  ·cases g1
 ·unfold RS.new at h
  split at h
  ·cases h
  rw [Option.bind_eq_some_iff] at h
  obtain ⟨V, g1, g2⟩ := h
  rw [Option.map_eq_some_iff] at g2
  obtain ⟨V', g3, rfl⟩ := g2
  exact ⟨rfl, rfl, by show (0 : Int) ≠ 111; decide, rfl, fun j c hj => by rw [show (((RS.zero L e.defs e.draws V').setR 1 4294967296).setR 10 8589935104).calls = [] from rfl] at hj; simp at hj⟩
theorem take_cutG {α : Type} {w : World} {sz : Nat} {enc : α → List Value} {a : Option Addr} {n c : Nat} {xs : List α} (h : Rd w sz enc (.slice a n c) xs) (N m : Nat) (hm : min (n : Int) (N : Int) = (m : Int)) : Rd w sz enc (cutV (.slice a n c) 0 m sz) (xs.take N) := by
 have hn := h.num
 have hmn : m ≤ n := by omega
 have := h.cut (l := 0) (m := m) (Nat.zero_le _) (by omega)
 rw [List.drop_zero, Nat.sub_zero] at this
 by_cases h1 : n ≤ N
 ·have e : m = n := by omega
  rw [List.take_of_length_le (by omega : xs.length ≤ N)]
  rw [e, hn, List.take_length, ← hn] at this
  rw [e]
  exact this
 ·have e : m = N := by omega
  rw [e] at this ⊢
  exact this
set_option maxHeartbeats 1000000 in
theorem l11_few (v : Value) (L : List Ins) (w : World) (h : Rd w 5 Ins.enc v L) : Calls Tryz.prog 23 #[v] w fun e w' => ∃ v', e = .returned v' ∧ Rd w' 5 Ins.enc v' (L.take 520) ∧ Ext w w' := by
 obtain ⟨a, n, c, rfl, hn, hN⟩ := h.val
 have HD := η h
 obtain ⟨m, hm⟩ : ∃ m : Nat, min (n : Int) 520 = (m : Int) := ⟨(min (n : Int) 520).toNat, by omega⟩
 have c1 := fun W => HD.out.run_cut_h (P := Tryz.prog) el_ins.under el_ins.size .i64 (m : Int) (by omega) (by omega) W
 have E := η (take_cutG HD.out 520 m (by simpa using hm))
 simp only [Int.toNat_natCast] at c1
 clear h
 go_enter Tryz.func23, Tryz.ntmps23
 go_wp2_with fail
 go_returns
 exact ⟨_, rfl, E.out, by (repeat (first|exact xE0 _|assumption|refine xE1 ?_ _|refine xE2 ?_|refine xE3 ?_ _|refine xE4 ?_ (by assumption)))⟩
def itsN (l : List (List Int × List Int)) : Nat → List (List Int × List Int)
 | 0 => []
 | j + 1 => match l[j]? with
  | some p => if j < 20 ∧ p.1.length ≤ 80 ∧ p.2.length ≤ 80 then itsN l j ++ [p] else itsN l j
  | none => itsN l j
theorem itsN_in {l : List (List Int × List Int)} : ∀ (n : Nat), ∀ p ∈ itsN l n, p ∈ l
 | 0, p, h => by simp [itsN] at h
 | j + 1, p, h => by
  rw [itsN] at h
  cases hp : l[j]? with
  | none => rw [hp] at h; exact itsN_in j p h
  | some q =>
   rw [hp] at h
   simp only at h
   split at h
   ·rcases List.mem_append.1 h with h | h
    ·exact itsN_in j p h
    ·rw [List.mem_singleton] at h; subst h; exact List.mem_of_getElem? hp
   ·exact itsN_in j p h
def envS (e : EnvD) : EnvD := ⟨e.ctx.take 100, e.defs.take 10, (e.items.take 10).map (fun l => itsN l l.length), e.draws.take 100⟩
theorem el_rows2 : El Tryz.prog 25 34 1 24 (.slice none 0 0) := ⟨Tryz.underlying25, by kernel_rfl, rfl, by decide, fun _ => by kernel_rfl⟩
theorem ne_item_rows : 36 ≠ 34 := by decide
def RowOk (w0 w : World) (lo : Nat) (row : SV) (l : List (List Int × List Int)) : Prop := ∃ I : List IT, Own w lo 36 2 IT.enc row.v I ∧ (∀ y ∈ I, Sl w0 .u8 y.kv y.key ∧ Sl w0 .u8 y.vv y.val) ∧ I.map (fun x => (x.key, x.val)) = l
structure OutE (w0 w : World) (e : EnvD) (q : Nat) (cv dv rv : Value) (ia : Option Addr) (k ic : Nat) (rows : List SV) : Prop where
 ext : Ext w0 w
 box : w.heap[q]? = some (envObj cv dv (.slice ia k ic) rv)
 own : Own w (q + 1) 34 1 encW (.slice ia k ic) rows
 each : ∀ (j : Nat) row l, rows[j]? = some row → e.items[j]? = some l → RowOk w0 w (q + 1) row (itsN l l.length)
section
variable {w0 w w' w5 wc : World} {e : EnvD} {q : Nat} {cv dv rv : Value} {ia : Option Addr} {k ic : Nat} {rows : List SV}
theorem RowOk.ext {lo : Nat} {row : SV} {l : List (List Int × List Int)} (h : RowOk w0 w lo row l) (he : Ext w w') : RowOk w0 w' lo row l := by
 obtain ⟨I, a, b, c⟩ := h
 exact ⟨I, a.ext he, b, c⟩
theorem OutE.push {r : SV} {l : List (List Int × List Int)} {a5 : Option Addr} {c5 : Nat} {o : Obj} (h : OutE w0 w e q cv dv rv ia k ic rows) (he : Ext w wc) (hr : RowOk w0 wc (q + 1) r (itsN l l.length)) (hl : e.items[rows.length]? = some l) (hq : w0.heap.size ≤ q) (hg : (wc.alloc o).grownBy w5 (Value.slice ia k ic).ownBlock) (hown : Own w5 (q + 1) 34 1 encW (.slice a5 (k + 1) c5) (rows ++ [r])) :
  OutE w0 (w5.setCell ⟨q, 2, none⟩ (.slice a5 (k + 1) c5)) e q cv dv rv a5 (k + 1) c5 (rows ++ [r]) := by
 have hA : Ext w (wc.alloc o) := he.alloc' o
 have hg2 := grown_keep hg
 have hk : Keep (Value.slice ia k ic).ownBlock.toList w w5 := (Keep.of_ext hA).trans hg2
 have hlo : ∀ j ∈ (Value.slice ia k ic).ownBlock.toList, q + 1 ≤ j := fun j hj => (h.own.lt (by simpa using hj)).1
 have hE5 : Ext w0 w5 := hk.below h.ext h.ext.size (fun j hj => by have := hlo j hj; omega)
 have hbx := hk.obj h.box (fun hj => by have := hlo _ hj; omega)
 have hlt : (⟨q, 2, none⟩ : Addr).block < q + 1 := Nat.lt_succ_self q
 have hrow : ∀ {row : SV} {l' : List (List Int × List Int)}, RowOk w0 (wc.alloc o) (q + 1) row l' → RowOk w0 (w5.setCell ⟨q, 2, none⟩ (.slice a5 (k + 1) c5)) (q + 1) row l' := by
  rintro row l' ⟨I, a, b, c⟩
  exact ⟨I, (a.keep hg2 (fun j hj hj' => a.type_ne (h.own.ext hA) ne_item_rows hj (by simpa using hj'))).other hlt _, b, c⟩
 refine ⟨hE5.setCell hq _, ?_, hown.other hlt _, fun j row l' hj hl' => ?_⟩
 ·have := heap_setCell_same w5 q 2 _ _ (.slice a5 (k + 1) c5) hbx
  rw [this]
  simp
 ·by_cases hjl : j < rows.length
  ·rw [List.getElem?_append_left hjl] at hj
   exact hrow ((h.each j row l' hj hl').ext hA)
  ·have hj2 : j = rows.length := by
    have := (List.getElem?_eq_some_iff.1 hj).1
    rw [List.length_append, List.length_singleton] at this
    omega
   subst hj2
   rw [List.getElem?_append_right (Nat.le_refl _), Nat.sub_self] at hj
   obtain rfl : r = row := by simpa using hj
   rw [hl] at hl'
   injection hl' with hl'
   subst hl'
   exact hrow (hr.ext ((Ext.rfl' wc).alloc' o))
theorem OutE.done (h : OutE w0 w e q cv dv rv ia k ic rows) (hk : rows.length = min 10 e.items.length) (hib : ∀ l ∈ e.items, ∀ p ∈ l, ∀ x ∈ p.2, 0 ≤ x ∧ x ≤ 255) (hub : ∀ x ∈ e.ctx, 0 ≤ x ∧ x ≤ 255) (hc : Sl w0 .u8 cv (e.ctx.take 100)) (hd : Rd w0 4 TDef.enc dv (e.defs.take 10)) (hr : Sl w0 .u64 rv (e.draws.take 100)) : EnvR w (envS e) cv dv (.slice ia k ic) rv rows := by
 refine ⟨hc.ext h.ext, fun x hx => hub x (List.mem_of_mem_take hx), hd.ext h.ext, hr.ext h.ext, h.own.rd enc_w, by simp [envS, hk], fun i row l hi hl => ?_, fun l hl p hp x hx => ?_⟩
 ·simp only [envS, List.getElem?_map, Option.map_eq_some_iff] at hl
  obtain ⟨l0, hl0, rfl⟩ := hl
  have hl1 : e.items[i]? = some l0 := by
   rw [List.getElem?_take] at hl0
   split at hl0
   ·exact hl0
   ·cases hl0
  obtain ⟨I, a, b, c⟩ := h.each i row l0 hi hl1
  exact ⟨I, a.rd enc_it, fun x hx => ⟨(b x hx).1.ext h.ext, (b x hx).2.ext h.ext⟩, c⟩
 ·simp only [envS, List.mem_map] at hl
  obtain ⟨l0, hl0, rfl⟩ := hl
  exact hib l0 (List.mem_of_mem_take hl0) p (itsN_in _ p hp) x hx
end
def EnvA (e : EnvD) (w : World) (r : Ending) (w' : World) : Prop := ∃ cv dv iv rv rows, r = .returned (.agg #[cv, dv, iv, rv]) ∧ EnvR w' (envS e) cv dv iv rv rows ∧ Ext w w'
def EnvA2 (d0 : Value) (e : EnvD) (w : World) (r : Ending) (w' : World) : Prop := ∃ cv dv iv rv rows, r = .returned (.agg #[cv, dv, iv, rv]) ∧ EnvR w' (envS e) cv dv iv rv rows ∧ Ext w w' ∧ ∀ W, Rd W 4 TDef.enc d0 e.defs → Rd W 4 TDef.enc dv (e.defs.take 10)
end Go.Proofs.YtppefchjoodgnaaGreat
