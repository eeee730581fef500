/- What the claim leans on: MsD. -/
import Derived.Test.YtppefchjoodgnaaGreatPL17
import Derived.Test.YtppefchjoodgnaaGreatPL06
import Derived.Test.YtppefchjoodgnaaGreatPL07
namespace Go.Proofs.YtppefchjoodgnaaGreat
open Go.RowKit
set_option linter.unusedVariables false
set_option linter.unusedSimpArgs false
def SlotsOk (V : Areas × List TM) : Prop := ∀ t ∈ V.2, t.slots.length ≤ 1000
section
variable {F0 Z0 : List Nat} {wf w w' : World} {base mb : Nat} {σ : RS} {l : RLay}
structure MRelQ (Q F0 Z0 : List Nat) (wf : World) (base : Nat) (w : World) (mb : Nat) (σ : RS) : Prop where
 keep : Keep F0 wf w
 low : base ≤ wf.heap.size
 lay : ∃ l, MAt w base mb σ l ∧ (∀ j ∈ mfoot mb l, j ∈ F0 ∨ wf.heap.size ≤ j) ∧ (∀ j ∈ mfrz l, j ∈ Z0 ∨ wf.heap.size ≤ j) ∧ ∀ q ∈ Q, q < w.heap.size ∧ q ∉ mfoot mb l ∧ q ∉ mfrz l
theorem MRelQ.rel {Q : List Nat} (h : MRelQ Q F0 Z0 wf base w mb σ) : MRel F0 Z0 wf base w mb σ := by
 obtain ⟨h0, hl, l, h1, h2, h3, h4⟩ := h
 exact ⟨h0, hl, l, h1, h2, h3⟩
theorem MRel.apart (h : MRel F0 Z0 wf base w mb σ) {w1 : World} (he : Ext w w1) {Q : List Nat} (hQ : ∀ q ∈ Q, w.heap.size ≤ q ∧ q < w1.heap.size) : MRelQ Q F0 Z0 wf base w1 mb σ := by
 obtain ⟨h0, hl, l, h1, h2, h3⟩ := h
 exact ⟨h0.through (F := []) (Keep.of_ext he) (fun _ hj => by cases hj), hl, l, h1.ext he, h2, h3, fun q hq => ⟨(hQ q hq).2, fun h => by have := h1.lt q h; have := (hQ q hq).1; omega, fun h => by have := (h1.frz q h).2; have := (hQ q hq).1; omega⟩⟩
theorem MRelQ.go {Q : List Nat} (h : MRelQ Q F0 Z0 wf base w mb σ) (he : Ext w w') : MRelQ Q F0 Z0 wf base w' mb σ := by
 obtain ⟨h0, hl, l, h1, h2, h3, h4⟩ := h
 exact ⟨h0.through (F := []) (Keep.of_ext he) (fun _ hj => by cases hj), hl, l, h1.ext he, h2, h3, fun q hq => ⟨Nat.lt_of_lt_of_le (h4 q hq).1 he.size, (h4 q hq).2⟩⟩
theorem MRelQ.box {Q : List Nat} (h : MRelQ Q F0 Z0 wf base w mb σ) {q : Nat} (hq : q ∈ Q) (hw : wf.heap.size ≤ q) (i : Nat) (v : Value) : MRelQ Q F0 Z0 wf base (w.setCell ⟨q, i, none⟩ v) mb σ := by
 obtain ⟨h0, hl, l, h1, h2, h3, h4⟩ := h
 have k : Keep [q] w (w.setCell ⟨q, i, none⟩ v) := (Keep.rfl' _ _).setCell (by simp) v
 refine ⟨h0.through k (fun j hj => by rw [List.mem_singleton] at hj; subst hj; exact .inr hw), hl, l, h1.keep k (fun j hj => ?_) (fun j hj => ?_), h2, h3, fun q hq => ⟨Nat.lt_of_lt_of_le (h4 q hq).1 k.size, (h4 q hq).2⟩⟩
 ·rintro hj'
  rw [List.mem_singleton] at hj'
  subst hj'
  exact (h4 _ hq).2.1 hj
 ·rintro hj'
  rw [List.mem_singleton] at hj'
  subst hj'
  exact (h4 _ hq).2.2 hj
theorem MRelQ.tabStep {Q : List Nat} (h0 : Keep F0 wf w) (hl : base ≤ wf.heap.size) (h : MAt w base mb σ l) (h2 : ∀ j ∈ mfoot mb l, j ∈ F0 ∨ wf.heap.size ≤ j) (h3 : ∀ j ∈ mfrz l, j ∈ Z0 ∨ wf.heap.size ≤ j) (h4 : ∀ q ∈ Q, q < w.heap.size ∧ q ∉ mfoot mb l ∧ q ∉ mfrz l)
  (k : Keep (rtfoot l.tb l.T) w w') {T' : RTabs} (ht : RTabAt w' base l.tb T') (hrb : T'.rb = l.T.rb) (hf : ∀ j ∈ rtfoot l.tb T', j ∈ rtfoot l.tb l.T ∨ w.heap.size ≤ j) :
  MRelQ Q F0 Z0 wf base w' mb { σ with V := rview T' } ∧ ∀ q, (q ∈ Q ∨ q = mb) → ∀ o, w.heap[q]? = some o → w'.heap[q]? = some o := by
 refine ⟨⟨h0.through k (fun j hj => h2 j (by simp [mfoot, hj])), hl, _, h.tabStep k ht hrb hf, fun j hj => ?_, h3, fun q hq => ⟨Nat.lt_of_lt_of_le (h4 q hq).1 k.size, fun hj => ?_, (h4 q hq).2.2⟩⟩, fun q hq o ho => k.obj ho (fun hj => hq.elim (fun hq => (h4 q hq).2.1 (by simp [mfoot, hj])) (fun e => by subst e; exact (List.nodup_cons.1 h.apart).1 (List.mem_append_right _ hj)))⟩
 ·simp only [mfoot, List.mem_cons, List.mem_append] at hj
  rcases hj with rfl | hj | hj
  ·exact h2 _ (by simp [mfoot])
  ·exact h2 _ (by simp [mfoot, hj])
  ·rcases hf j hj with h4 | h4
   ·exact h2 _ (by simp [mfoot, h4])
   ·exact .inr (Nat.le_trans h0.size h4)
 ·have h5 := (h4 q hq).2.1
  have h6 := (h4 q hq).1
  simp only [mfoot, List.mem_cons, List.mem_append] at hj
  rcases hj with rfl | hj | hj
  ·exact h5 (by simp [mfoot])
  ·exact h5 (by simp [mfoot, hj])
  ·rcases hf q hj with h7 | h7
   ·exact h5 (by simp [mfoot, h7])
   ·omega
theorem MRelQ.tabs {Q : List Nat} (h : MRelQ Q F0 Z0 wf base w mb σ) : ∃ tb, w.cell? ⟨mb, 24, none⟩ = some (.pointer (some ⟨tb, 0, none⟩)) ∧
  Hid (∀ w1 i kv ks, Ext w w1 → Sl w1 .u8 kv ks → Calls Tryz.prog 146 #[.pointer (some ⟨tb, 0, none⟩), .int .i64 i, kv] w1 (fun e w' => e = .returned (.tuple #[.int .u64 (tlook σ.V.2 i ks).1, .int .i64 (tlook σ.V.2 i ks).2]) ∧ Ext w1 w')) ∧
  (SlotsOk σ.V → Hid (∀ w1 b i kv ks vv vs fl, Ext w w1 → (∀ j ∈ kv.ownBlock.toList ++ vv.ownBlock.toList, j ∈ Q) → Own w1 b 5 1 encB kv ks → Own w1 b 5 1 encB vv vs → (∀ q ∈ vs, 0 ≤ q ∧ q ≤ 255) → u64R fl → Calls Tryz.prog 35 #[.pointer (some ⟨tb, 0, none⟩), .int .i64 i, kv, vv, .int .u64 fl] w1
    (fun e w' => e = .returned (.tuple #[.int .u64 (rput σ.V i ks vs fl).2.1, .int .i64 (rput σ.V i ks vs fl).2.2]) ∧ MRelQ Q F0 Z0 wf base w' mb { σ with V := (rput σ.V i ks vs fl).1 } ∧ ∀ q, (q ∈ Q ∨ q = mb) → ∀ o, w1.heap[q]? = some o → w'.heap[q]? = some o)) ∧
   Hid (∀ w1 i kv ks, Ext w w1 → Sl w1 .u8 kv ks → Calls Tryz.prog 147 #[.pointer (some ⟨tb, 0, none⟩), .int .i64 i, kv] w1
    (fun e w' => e = .returned (.tuple #[.int .u64 (rdrop σ.V.2 i ks).2.1, .int .i64 (rdrop σ.V.2 i ks).2.2]) ∧ MRelQ Q F0 Z0 wf base w' mb { σ with V := (σ.V.1, (rdrop σ.V.2 i ks).1) } ∧ ∀ q, (q ∈ Q ∨ q = mb) → ∀ o, w1.heap[q]? = some o → w'.heap[q]? = some o))) := by
 obtain ⟨h0, hl, l, h1, h2, h3, h4⟩ := h
 have hv := h1.view
 refine ⟨l.tb, h1.cell 24 rfl, η ?_, fun hs => ⟨η ?_, η ?_⟩⟩
 ·intro w1 i kv ks he hk
  refine (rtab_look base l.tb l.T i kv ks w1 (h1.tab.ext he) hk).mono ?_
  rintro e w' ⟨h, hE⟩
  rw [show (rview l.T).2 = σ.V.2 by rw [hv]] at h
  exact ⟨h, hE⟩
 ·intro w1 b i kv ks vv vs fl he hq hk hvv hu hf
  have g := h1.ext he
  have h4' : ∀ q ∈ Q, q < w1.heap.size ∧ q ∉ mfoot mb l ∧ q ∉ mfrz l := fun q hq => ⟨Nat.lt_of_lt_of_le (h4 q hq).1 he.size, (h4 q hq).2⟩
  have hnk : ∀ j, kv.ownBlock = some j → j ∉ rtfoot l.tb l.T := fun j hj hj' => (h4 j (hq j (by simp [hj]))).2.1 (by simp [mfoot, hj'])
  have hnv : ∀ j, vv.ownBlock = some j → j ∉ rtfoot l.tb l.T := fun j hj hj' => (h4 j (hq j (by simp [hj]))).2.1 (by simp [mfoot, hj'])
  have hSL : ∀ x ∈ l.T.R, x.T.slots.length ≤ 1000 := fun x hx => hs x.T (by rw [← hv]; exact List.mem_map.2 ⟨x, hx, rfl⟩)
  refine (rtab_put base l.tb l.T i kv vv ks vs fl w1 g.tab (Nat.le_trans hl (Nat.le_trans h0.size he.size)) (η hSL) (hk.rd (enc_int _)) (hvv.rd (enc_int _)) hu hf.1 (η hf.2) (η fun w' k => (hvv.keep k hnv).rd (enc_int _)) (η fun w' k => (hk.keep k hnk).rd (enc_int _))).mono ?_
  rintro e w' ⟨h, hk5, S', hT, hV, hfo, hrb⟩
  rw [hv] at h hV
  have := MRelQ.tabStep (Q := Q) (h0.through (F := []) (Keep.of_ext he) (fun _ hj => by cases hj)) hl g h2 h3 h4' hk5 hT hrb hfo
  rw [hV] at this
  exact ⟨h, this⟩
 ·intro w1 i kv ks he hk
  have g := h1.ext he
  have h4' : ∀ q ∈ Q, q < w1.heap.size ∧ q ∉ mfoot mb l ∧ q ∉ mfrz l := fun q hq => ⟨Nat.lt_of_lt_of_le (h4 q hq).1 he.size, (h4 q hq).2⟩
  have hSL : ∀ x ∈ l.T.R, x.T.slots.length ≤ 1000 := fun x hx => hs x.T (by rw [← hv]; exact List.mem_map.2 ⟨x, hx, rfl⟩)
  refine (rtab_drop base l.tb l.T i kv ks w1 g.tab (Nat.le_trans hl (Nat.le_trans h0.size he.size)) (η hSL) hk).mono ?_
  rintro e w' ⟨h, hk5, S', hT, hV, hfo, hrb⟩
  rw [hv] at h hV
  have := MRelQ.tabStep (Q := Q) (h0.through (F := []) (Keep.of_ext he) (fun _ hj => by cases hj)) hl g h2 h3 h4' hk5 hT hrb hfo
  rw [hV] at this
  exact ⟨h, this⟩
theorem own_objs {α : Type} {w w' : World} {b : Nat} {e : TypeId} {sz : Nat} {enc : α → List Value} {v : Value} {xs : List α} (h : Own w b e sz enc v xs) (k : ∀ j o, v.ownBlock = some j → w.heap[j]? = some o → w'.heap[j]? = some o) : Own w' b e sz enc v xs := by
 obtain ⟨h1, h2⟩ := h
 refine ⟨h1, ?_⟩
 rcases h2 with h2 | ⟨g, cap, cur, rfl, hb, hg, r⟩
 ·exact .inl h2
 ·exact .inr ⟨g, cap, cur, rfl, hb, k g _ rfl hg, r⟩
theorem own_vblk {α : Type} {w : World} {b : Nat} {e : TypeId} {sz : Nat} {enc : α → List Value} {v : Value} {xs : List α} (h : Own w b e sz enc v xs) : vblk v = v.ownBlock.toList := by
 rcases h.2 with ⟨rfl, _⟩ | ⟨g, cap, cur, rfl, _, _, _⟩
 ·rfl
 ·rfl
theorem MRelQ.setDraw {Q : List Nat} (h : MRelQ Q F0 Z0 wf base w mb σ) {w1 : World} (he : Ext w w1) {v : Value} {xs : List Int} (hO : Own w1 w.heap.size 29 1 (fun x => [Value.int .u64 x]) v xs) :
  MRelQ Q F0 Z0 wf base (w1.setCell ⟨mb, 26, none⟩ v) mb { σ with dr := xs } := by
 obtain ⟨h0, hl, l, h1, h2, h3, h4⟩ := h
 have g := h1.ext he
 have k : Keep [mb] w1 (w1.setCell ⟨mb, 26, none⟩ v) := (Keep.rfl' _ _).setCell (by simp) v
 have hmb : ∀ {j : Nat}, j ∈ l.cv.ownBlock.toList ++ rtfoot l.tb l.T → j ∉ [mb] := fun hj e => (List.nodup_cons.1 g.apart).1 (by rw [List.mem_singleton] at e; rwa [← e])
 have hx : ∀ j ∈ mfrz l, j ∉ [mb] := fun j hj e => (g.frz j hj).1 (by rw [List.mem_singleton] at e; subst e; simp [mfoot])
 have hz : ∀ {v : Value}, (∀ j ∈ vblk v, j ∈ mfrz l) → ∀ a n c, v = .slice (some a) n c → a.block ∉ [mb] := fun hv => vblk_not fun j hj => hx j (hv j hj)
 have hvb : ∀ j ∈ vblk v, w.heap.size ≤ j ∧ j < w1.heap.size := fun j hj => by
  rw [own_vblk hO] at hj
  exact hO.lt (by simpa using hj)
 have hnf : ∀ j ∈ vblk v, j ∉ mfoot mb l := fun j hj hj' => by have := h1.lt j hj'; have := (hvb j hj).1; omega
 have hfr : ∀ j ∈ mfrz { l with drv := v }, j ∈ mfrz l ∨ j ∈ vblk v := fun j hj => by
  simp only [mfrz, List.mem_append] at hj ⊢
  rcases hj with h | h | h | h
  ·exact .inl (.inl h)
  ·exact .inl (.inr (.inl h))
  ·exact .inr h
  ·exact .inl (.inr (.inr (.inr h)))
 refine ⟨(h0.through (F := []) (Keep.of_ext he) (fun _ hj => by cases hj)).through k (fun j hj => by rw [List.mem_singleton] at hj; subst hj; exact h2 _ (by simp [mfoot])), hl, { l with drv := v }, ?_, h2, fun j hj => ?_, fun q hq => ⟨Nat.lt_of_lt_of_le (h4 q hq).1 (Nat.le_trans he.size k.size), (h4 q hq).2.1, fun hj => ?_⟩⟩
 ·refine ⟨?_, g.low, g.tab.keep k (fun j hj => hmb (by simp [hj])), g.view, g.calls.keep k (fun j hj => hmb (by simp [hj])), g.cls, fun c hc => ⟨?_, ?_, ?_⟩, ?_, ?_, ?_, g.apart, fun j hj => ?_⟩
  ·have := heap_setCell_same w1 mb 26 _ _ v g.head
   rw [this]
   simp [rCells]
  ·exact (g.callS c hc).1.keep k (hz fun j hj => mem_kv (l := l) (c := c) hc (j := j) (by simp [hj]))
  ·exact (g.callS c hc).2.1.keep k (hz fun j hj => mem_kv (l := l) (c := c) hc (j := j) (by simp [hj]))
  ·exact (g.callS c hc).2.2.keep k (hz fun j hj => mem_kv (l := l) (c := c) hc (j := j) (by simp [hj]))
  ·exact g.code.keepF k (fun j hj => hx j (by simp [mfrz, hj]))
  ·exact g.defs.keepF k (fun j hj => hx j (by simp [mfrz, hj]))
  ·exact (hO.keep k (fun j hj e => hnf j (by rw [own_vblk hO]; simp [hj]) (by rw [List.mem_singleton] at e; subst e; simp [mfoot]))).rd (enc_int _)
  ·rcases hfr j hj with h | h
   ·exact ⟨(g.frz j h).1, Nat.lt_of_lt_of_le (g.frz j h).2 k.size⟩
   ·exact ⟨hnf j h, Nat.lt_of_lt_of_le (hvb j h).2 k.size⟩
 ·rcases hfr j hj with h | h
  ·exact h3 j h
  ·exact .inr (Nat.le_trans h0.size (hvb j h).1)
 ·rcases hfr q hj with h | h
  ·exact (h4 q hq).2.2 h
  ·have := (h4 q hq).1; have := (hvb q h).1; omega
theorem MRelQ.push (h0 : Keep F0 wf w) (hl : base ≤ wf.heap.size) (g : MAt w base mb σ l) (h2 : ∀ j ∈ mfoot mb l, j ∈ F0 ∨ wf.heap.size ≤ j) (h3 : ∀ j ∈ mfrz l, j ∈ Z0 ∨ wf.heap.size ≤ j) {Q : List Nat} (h4 : ∀ q ∈ Q, q < w.heap.size ∧ q ∉ mfoot mb l ∧ q ∉ mfrz l)
  {x : CB} (hx : ∀ j ∈ vblk x.kv ++ (vblk x.vv ++ vblk x.nv), j ∈ Q ∧ wf.heap.size ≤ j) (hs : Sl w .u8 x.kv x.c.key ∧ Sl w .u8 x.vv x.c.val ∧ Sl w .u64 x.nv x.c.n) {w5 : World} {v : Value} (k : Keep l.cv.ownBlock.toList w w5)
  (hO : Own w5 base 76 6 CB.enc v (l.cs ++ [x])) (hm : ∀ j, v.ownBlock = some j → l.cv.ownBlock = some j ∨ w.heap.size ≤ j) :
  MRel F0 Z0 wf base (w5.setCell ⟨mb, 31, none⟩ v) mb { σ with calls := σ.calls ++ [x.c] } ∧ ∀ q ∈ Q, ∀ o, w.heap[q]? = some o → (w5.setCell ⟨mb, 31, none⟩ v).heap[q]? = some o := by
 have n0 := List.nodup_cons.1 g.apart
 have n1 := List.nodup_append.1 n0.2
 have k2 : Keep [mb] w5 (w5.setCell ⟨mb, 31, none⟩ v) := (Keep.rfl' _ _).setCell (by simp) v
 have hlt := g.lt
 have kk : Keep (mb :: l.cv.ownBlock.toList) w (w5.setCell ⟨mb, 31, none⟩ v) := (k.mono fun j hj => .inl (List.mem_cons_of_mem _ hj)).trans (k2.mono fun j hj => .inl (by rw [List.mem_singleton] at hj; subst hj; exact List.mem_cons_self))
 have hrt : ∀ j ∈ rtfoot l.tb l.T, j ∉ mb :: l.cv.ownBlock.toList := fun j hj hj' => by
  rcases List.mem_cons.1 hj' with rfl | hj'
  ·exact n0.1 (List.mem_append_right _ hj)
  ·exact n1.2.2 j hj' j hj rfl
 have hcv : ∀ j ∈ mb :: l.cv.ownBlock.toList, j ∈ mfoot mb l := fun j hj => by
  rcases List.mem_cons.1 hj with rfl | hj
  ·simp [mfoot]
  ·simp only [mfoot, List.mem_cons, List.mem_append]; exact .inr (.inl hj)
 have hxx : ∀ j ∈ mfrz l, j ∉ mb :: l.cv.ownBlock.toList := fun j hj e => (g.frz j hj).1 (hcv j e)
 have hz : ∀ {v : Value}, (∀ j ∈ vblk v, j ∈ mfrz l) → ∀ a n c, v = .slice (some a) n c → a.block ∉ mb :: l.cv.ownBlock.toList := fun hv => vblk_not fun j hj => hxx j (hv j hj)
 have hzx : ∀ {v : Value}, (∀ j ∈ vblk v, j ∈ vblk x.kv ++ (vblk x.vv ++ vblk x.nv)) → ∀ a n c, v = .slice (some a) n c → a.block ∉ mb :: l.cv.ownBlock.toList := fun hv => vblk_not fun j hj e => (h4 j (hx j (hv j hj)).1).2.1 (hcv j e)
 have hvm : ∀ j, v.ownBlock = some j → j ≠ mb ∧ j ∉ rtfoot l.tb l.T ∧ (j ∈ mfoot mb l ∨ w.heap.size ≤ j) := fun j hj => by
  rcases hm j hj with h | h
  ·exact ⟨fun e => by subst e; exact n0.1 (List.mem_append_left _ (by simp [h])), fun e => n1.2.2 j (by simp [h]) j e rfl, .inl (hcv j (by simp [h]))⟩
  ·exact ⟨fun e => by have := heap_lt g.head; omega, fun e => by have := (g.tab.lt j e).2; omega, .inr h⟩
 have hft : ∀ j ∈ mfoot mb { l with cv := v, cs := l.cs ++ [x] }, j ∈ mfoot mb l ∨ w.heap.size ≤ j := fun j hj => by
  simp only [mfoot, List.mem_cons, List.mem_append] at hj ⊢
  rcases hj with h | h | h
  ·exact .inl (.inl h)
  ·have := (hvm j (by simpa using h)).2.2
   simpa only [mfoot, List.mem_cons, List.mem_append] using this
  ·exact .inl (.inr (.inr h))
 have hfr : ∀ j ∈ mfrz { l with cv := v, cs := l.cs ++ [x] }, j ∈ mfrz l ∨ j ∈ vblk x.kv ++ (vblk x.vv ++ vblk x.nv) := fun j hj => by
  simp only [mfrz, List.flatMap_append, List.mem_append, List.flatMap_cons, List.flatMap_nil, List.append_nil] at hj ⊢
  rcases hj with h | h | h | h | h
  ·exact .inl (.inl h)
  ·exact .inl (.inr (.inl h))
  ·exact .inl (.inr (.inr (.inl h)))
  ·exact .inl (.inr (.inr (.inr h)))
  ·exact .inr h
 have hap : ∀ j ∈ mfrz { l with cv := v, cs := l.cs ++ [x] }, j ∉ mfoot mb { l with cv := v, cs := l.cs ++ [x] } ∧ j < w.heap.size := fun j hj => by
  rcases hfr j hj with h | h
  ·exact ⟨fun h' => (hft j h').elim (g.frz j h).1 (fun h'' => by have := (g.frz j h).2; omega), (g.frz j h).2⟩
  ·have := h4 j (hx j h).1
   exact ⟨fun h' => (hft j h').elim this.2.1 (fun h'' => by have := this.1; omega), this.1⟩
 refine ⟨⟨h0.through kk (fun j hj => h2 j (hcv j hj)), hl, { l with cv := v, cs := l.cs ++ [x] }, ?_, fun j hj => (hft j hj).elim (h2 j) (fun h => .inr (Nat.le_trans h0.size h)), fun j hj => (hfr j hj).elim (h3 j) (fun h => .inr (hx j h).2)⟩, fun q hq o ho => kk.obj ho (fun hj => (h4 q hq).2.1 (hcv q hj))⟩
 refine ⟨?_, g.low, g.tab.keep kk hrt, g.view, hO.keep k2 (fun j hj e => (hvm j hj).1 (by simpa using e)), by simp [g.cls], fun c hc => ?_, g.code.keepF kk (fun j hj => hxx j (by simp [mfrz, hj])), g.defs.keepF kk (fun j hj => hxx j (by simp [mfrz, hj])), g.draws.keep kk (hz fun j hj => by simp [mfrz, hj]), ?_, fun j hj => ⟨(hap j hj).1, Nat.lt_of_lt_of_le (hap j hj).2 kk.size⟩⟩
 ·have := heap_setCell_same w5 mb 31 _ _ v (k.obj g.head (fun hj => n0.1 (List.mem_append_left _ hj)))
  rw [this]
  simp [rCells]
 ·rcases List.mem_append.1 hc with hc | hc
  ·exact ⟨(g.callS c hc).1.keep kk (hz fun j hj => mem_kv hc (by simp [hj])), (g.callS c hc).2.1.keep kk (hz fun j hj => mem_kv hc (by simp [hj])), (g.callS c hc).2.2.keep kk (hz fun j hj => mem_kv hc (by simp [hj]))⟩
  ·rw [List.mem_singleton] at hc
   subst hc
   exact ⟨hs.1.keep kk (hzx fun j hj => by simp [hj]), hs.2.1.keep kk (hzx fun j hj => by simp [hj]), hs.2.2.keep kk (hzx fun j hj => by simp [hj])⟩
 ·simp only [mfoot]
  rw [List.nodup_cons, List.nodup_append]
  refine ⟨fun hj => ?_, by cases v.ownBlock <;> simp, n1.2.1, fun a ha b hb e => ?_⟩
  ·rcases List.mem_append.1 hj with hj | hj
   ·exact (hvm mb (by simpa using hj)).1 rfl
   ·exact n0.1 (List.mem_append_right _ hj)
  ·subst e
   exact (hvm a (by simpa using ha)).2.1 hb
end
end Go.Proofs.YtppefchjoodgnaaGreat
