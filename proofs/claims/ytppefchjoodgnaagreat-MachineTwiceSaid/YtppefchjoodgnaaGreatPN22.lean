/- What the claim leans on: MsD · TabP · StL · KeL · RL. -/
import Derived.Test.YtppefchjoodgnaaGreatPN21
import Derived.Test.YtppefchjoodgnaaGreatPN12
import Derived.Test.YtppefchjoodgnaaGreatPN13
import Derived.Test.YtppefchjoodgnaaGreatPN11
namespace Go.Proofs.YtppefchjoodgnaaGreat
open Go.RowKit
set_option linter.unusedVariables false
set_option linter.unusedSimpArgs false
def SlotsOk (V : Areas × List TM) : Prop := ∀ t ∈ V.2, t.slots.length ≤ 1000
section
variable {F0 Z0 : List Nat} {wf w w' : World} {base mb : Nat} {σ : RS} {l : RLay}
structure MRelQ (Q F0 Z0 : List Nat) (wf : World) (base : Nat) (w : World) (mb : Nat) (σ : RS) : Prop where
 keep : Keep F0 wf w
 low : base ≤ wf.heap.size
 lay : ∃ l, MAt w base mb σ l ∧ (∀ j ∈ mfoot mb l, j ∈ F0 ∨ wf.heap.size ≤ j) ∧ (∀ j ∈ mfrz l, j ∈ Z0 ∨ wf.heap.size ≤ j) ∧ ∀ q ∈ Q, q < w.heap.size ∧ q ∉ mfoot mb l ∧ q ∉ mfrz l
theorem MRelQ.rel {Q : List Nat} (h : MRelQ Q F0 Z0 wf base w mb σ) : MRel F0 Z0 wf base w mb σ := by
 obtain ⟨h0, hl, l, h1, h2, h3, h4⟩ := h
 exact ⟨h0, hl, l, h1, h2, h3⟩
theorem MRel.apart (h : MRel F0 Z0 wf base w mb σ) {w1 : World} (he : Ext w w1) {Q : List Nat} (hQ : ∀ q ∈ Q, w.heap.size ≤ q ∧ q < w1.heap.size) : MRelQ Q F0 Z0 wf base w1 mb σ := by
 obtain ⟨h0, hl, l, h1, h2, h3⟩ := h
 exact ⟨h0.through (F := []) (Keep.of_ext he) (fun _ hj => by cases hj), hl, l, h1.ext he, h2, h3, fun q hq => ⟨(hQ q hq).2, fun h => by have := h1.lt q h; have := (hQ q hq).1; omega, fun h => by have := (h1.frz q h).2; have := (hQ q hq).1; omega⟩⟩
theorem MRelQ.go {Q : List Nat} (h : MRelQ Q F0 Z0 wf base w mb σ) (he : Ext w w') : MRelQ Q F0 Z0 wf base w' mb σ := by
 obtain ⟨h0, hl, l, h1, h2, h3, h4⟩ := h
 exact ⟨h0.through (F := []) (Keep.of_ext he) (fun _ hj => by cases hj), hl, l, h1.ext he, h2, h3, fun q hq => ⟨Nat.lt_of_lt_of_le (h4 q hq).1 he.size, (h4 q hq).2⟩⟩
theorem MRelQ.box {Q : List Nat} (h : MRelQ Q F0 Z0 wf base w mb σ) {q : Nat} (hq : q ∈ Q) (hw : wf.heap.size ≤ q) (i : Nat) (v : Value) : MRelQ Q F0 Z0 wf base (w.setCell ⟨q, i, none⟩ v) mb σ := by
 obtain ⟨h0, hl, l, h1, h2, h3, h4⟩ := h
 have k : Keep [q] w (w.setCell ⟨q, i, none⟩ v) := (Keep.rfl' _ _).setCell (by simp) v
 refine ⟨h0.through k (fun j hj => by rw [List.mem_singleton] at hj; subst hj; exact .inr hw), hl, l, h1.keep k (fun j hj => ?_) (fun j hj => ?_), h2, h3, fun q hq => ⟨Nat.lt_of_lt_of_le (h4 q hq).1 k.size, (h4 q hq).2⟩⟩
 ·rintro hj'
  rw [List.mem_singleton] at hj'
  subst hj'
  exact (h4 _ hq).2.1 hj
 ·rintro hj'
  rw [List.mem_singleton] at hj'
  subst hj'
  exact (h4 _ hq).2.2 hj
theorem MRelQ.tabStep {Q : List Nat} (h0 : Keep F0 wf w) (hl : base ≤ wf.heap.size) (h : MAt w base mb σ l) (h2 : ∀ j ∈ mfoot mb l, j ∈ F0 ∨ wf.heap.size ≤ j) (h3 : ∀ j ∈ mfrz l, j ∈ Z0 ∨ wf.heap.size ≤ j) (h4 : ∀ q ∈ Q, q < w.heap.size ∧ q ∉ mfoot mb l ∧ q ∉ mfrz l)
  (k : Keep (rtfoot l.tb l.T) w w') {T' : RTabs} (ht : RTabAt w' base l.tb T') (hrb : T'.rb = l.T.rb) (hf : ∀ j ∈ rtfoot l.tb T', j ∈ rtfoot l.tb l.T ∨ w.heap.size ≤ j) :
  MRelQ Q F0 Z0 wf base w' mb { σ with V := rview T' } ∧ ∀ q, (q ∈ Q ∨ q = mb) → ∀ o, w.heap[q]? = some o → w'.heap[q]? = some o := by
 refine ⟨⟨h0.through k (fun j hj => h2 j (by simp [mfoot, hj])), hl, _, h.tabStep k ht hrb hf, fun j hj => ?_, h3, fun q hq => ⟨Nat.lt_of_lt_of_le (h4 q hq).1 k.size, fun hj => ?_, (h4 q hq).2.2⟩⟩, fun q hq o ho => k.obj ho (fun hj => hq.elim (fun hq => (h4 q hq).2.1 (by simp [mfoot, hj])) (fun e => by subst e; exact (List.nodup_cons.1 h.apart).1 (List.mem_append_right _ hj)))⟩
 ·simp only [mfoot, List.mem_cons, List.mem_append] at hj
  rcases hj with rfl | hj | hj
  ·exact h2 _ (by simp [mfoot])
  ·exact h2 _ (by simp [mfoot, hj])
  ·rcases hf j hj with h4 | h4
   ·exact h2 _ (by simp [mfoot, h4])
   ·exact .inr (Nat.le_trans h0.size h4)
 ·have h5 := (h4 q hq).2.1
  have h6 := (h4 q hq).1
  simp only [mfoot, List.mem_cons, List.mem_append] at hj
  rcases hj with rfl | hj | hj
  ·exact h5 (by simp [mfoot])
  ·exact h5 (by simp [mfoot, hj])
  ·rcases hf q hj with h7 | h7
   ·exact h5 (by simp [mfoot, h7])
   ·omega
theorem MRelQ.tabs {Q : List Nat} (h : MRelQ Q F0 Z0 wf base w mb σ) : ∃ tb, w.cell? ⟨mb, 24, none⟩ = some (.pointer (some ⟨tb, 0, none⟩)) ∧
  Hid (∀ w1 i kv ks, Ext w w1 → Sl w1 .u8 kv ks → Calls Tryz.prog 146 #[.pointer (some ⟨tb, 0, none⟩), .int .i64 i, kv] w1 (fun e w' => e = .returned (.tuple #[.int .u64 (tlook σ.V.2 i ks).1, .int .i64 (tlook σ.V.2 i ks).2]) ∧ Ext w1 w')) ∧
  (SlotsOk σ.V → Hid (∀ w1 b i kv ks vv vs fl, Ext w w1 → (∀ j ∈ kv.ownBlock.toList ++ vv.ownBlock.toList, j ∈ Q) → Own w1 b 5 1 encB kv ks → Own w1 b 5 1 encB vv vs → (∀ q ∈ vs, 0 ≤ q ∧ q ≤ 255) → u64R fl → Calls Tryz.prog 35 #[.pointer (some ⟨tb, 0, none⟩), .int .i64 i, kv, vv, .int .u64 fl] w1
    (fun e w' => e = .returned (.tuple #[.int .u64 (rput σ.V i ks vs fl).2.1, .int .i64 (rput σ.V i ks vs fl).2.2]) ∧ MRelQ Q F0 Z0 wf base w' mb { σ with V := (rput σ.V i ks vs fl).1 } ∧ ∀ q, (q ∈ Q ∨ q = mb) → ∀ o, w1.heap[q]? = some o → w'.heap[q]? = some o)) ∧
   Hid (∀ w1 i kv ks, Ext w w1 → Sl w1 .u8 kv ks → Calls Tryz.prog 147 #[.pointer (some ⟨tb, 0, none⟩), .int .i64 i, kv] w1
    (fun e w' => e = .returned (.tuple #[.int .u64 (rdrop σ.V.2 i ks).2.1, .int .i64 (rdrop σ.V.2 i ks).2.2]) ∧ MRelQ Q F0 Z0 wf base w' mb { σ with V := (σ.V.1, (rdrop σ.V.2 i ks).1) } ∧ ∀ q, (q ∈ Q ∨ q = mb) → ∀ o, w1.heap[q]? = some o → w'.heap[q]? = some o))) := by
 obtain ⟨h0, hl, l, h1, h2, h3, h4⟩ := h
 have hv := h1.view
 refine ⟨l.tb, h1.cell 24 rfl, η ?_, fun hs => ⟨η ?_, η ?_⟩⟩
 ·intro w1 i kv ks he hk
  refine (rtab_look base l.tb l.T i kv ks w1 (h1.tab.ext he) hk).mono ?_
  rintro e w' ⟨h, hE⟩
  rw [show (rview l.T).2 = σ.V.2 by rw [hv]] at h
  exact ⟨h, hE⟩
 ·intro w1 b i kv ks vv vs fl he hq hk hvv hu hf
  have g := h1.ext he
  have h4' : ∀ q ∈ Q, q < w1.heap.size ∧ q ∉ mfoot mb l ∧ q ∉ mfrz l := fun q hq => ⟨Nat.lt_of_lt_of_le (h4 q hq).1 he.size, (h4 q hq).2⟩
  have hnk : ∀ j, kv.ownBlock = some j → j ∉ rtfoot l.tb l.T := fun j hj hj' => (h4 j (hq j (by simp [hj]))).2.1 (by simp [mfoot, hj'])
  have hnv : ∀ j, vv.ownBlock = some j → j ∉ rtfoot l.tb l.T := fun j hj hj' => (h4 j (hq j (by simp [hj]))).2.1 (by simp [mfoot, hj'])
  have hSL : ∀ x ∈ l.T.R, x.T.slots.length ≤ 1000 := fun x hx => hs x.T (by rw [← hv]; exact List.mem_map.2 ⟨x, hx, rfl⟩)
  refine (rtab_put base l.tb l.T i kv vv ks vs fl w1 g.tab (Nat.le_trans hl (Nat.le_trans h0.size he.size)) (η hSL) (hk.rd (enc_int _)) (hvv.rd (enc_int _)) hu hf.1 (η hf.2) (η fun w' k => (hvv.keep k hnv).rd (enc_int _)) (η fun w' k => (hk.keep k hnk).rd (enc_int _))).mono ?_
  rintro e w' ⟨h, hk5, S', hT, hV, hfo, hrb⟩
  rw [hv] at h hV
  have := MRelQ.tabStep (Q := Q) (h0.through (F := []) (Keep.of_ext he) (fun _ hj => by cases hj)) hl g h2 h3 h4' hk5 hT hrb hfo
  rw [hV] at this
  exact ⟨h, this⟩
 ·intro w1 i kv ks he hk
  have g := h1.ext he
  have h4' : ∀ q ∈ Q, q < w1.heap.size ∧ q ∉ mfoot mb l ∧ q ∉ mfrz l := fun q hq => ⟨Nat.lt_of_lt_of_le (h4 q hq).1 he.size, (h4 q hq).2⟩
  have hSL : ∀ x ∈ l.T.R, x.T.slots.length ≤ 1000 := fun x hx => hs x.T (by rw [← hv]; exact List.mem_map.2 ⟨x, hx, rfl⟩)
  refine (rtab_drop base l.tb l.T i kv ks w1 g.tab (Nat.le_trans hl (Nat.le_trans h0.size he.size)) (η hSL) hk).mono ?_
  rintro e w' ⟨h, hk5, S', hT, hV, hfo, hrb⟩
  rw [hv] at h hV
  have := MRelQ.tabStep (Q := Q) (h0.through (F := []) (Keep.of_ext he) (fun _ hj => by cases hj)) hl g h2 h3 h4' hk5 hT hrb hfo
  rw [hV] at this
  exact ⟨h, this⟩
theorem own_objs {α : Type} {w w' : World} {b : Nat} {e : TypeId} {sz : Nat} {enc : α → List Value} {v : Value} {xs : List α} (h : Own w b e sz enc v xs) (k : ∀ j o, v.ownBlock = some j → w.heap[j]? = some o → w'.heap[j]? = some o) : Own w' b e sz enc v xs := by
 obtain ⟨h1, h2⟩ := h
 refine ⟨h1, ?_⟩
 rcases h2 with h2 | ⟨g, cap, cur, rfl, hb, hg, r⟩
 ·exact .inl h2
 ·exact .inr ⟨g, cap, cur, rfl, hb, k g _ rfl hg, r⟩
theorem own_vblk {α : Type} {w : World} {b : Nat} {e : TypeId} {sz : Nat} {enc : α → List Value} {v : Value} {xs : List α} (h : Own w b e sz enc v xs) : vblk v = v.ownBlock.toList := by
 rcases h.2 with ⟨rfl, _⟩ | ⟨g, cap, cur, rfl, _, _, _⟩
 ·rfl
 ·rfl
theorem MRelQ.setDraw {Q : List Nat} (h : MRelQ Q F0 Z0 wf base w mb σ) {w1 : World} (he : Ext w w1) {v : Value} {xs : List Int} (hO : Own w1 w.heap.size 29 1 (fun x => [Value.int .u64 x]) v xs) :
  MRelQ Q F0 Z0 wf base (w1.setCell ⟨mb, 26, none⟩ v) mb { σ with dr := xs } := by
 obtain ⟨h0, hl, l, h1, h2, h3, h4⟩ := h
 have g := h1.ext he
 have k : Keep [mb] w1 (w1.setCell ⟨mb, 26, none⟩ v) := (Keep.rfl' _ _).setCell (by simp) v
 have hmb : ∀ {j : Nat}, j ∈ l.cv.ownBlock.toList ++ rtfoot l.tb l.T → j ∉ [mb] := fun hj e => (List.nodup_cons.1 g.apart).1 (by rw [List.mem_singleton] at e; rwa [← e])
 have hx : ∀ j ∈ mfrz l, j ∉ [mb] := fun j hj e => (g.frz j hj).1 (by rw [List.mem_singleton] at e; subst e; simp [mfoot])
 have hz : ∀ {v : Value}, (∀ j ∈ vblk v, j ∈ mfrz l) → ∀ a n c, v = .slice (some a) n c → a.block ∉ [mb] := fun hv => vblk_not fun j hj => hx j (hv j hj)
 have hvb : ∀ j ∈ vblk v, w.heap.size ≤ j ∧ j < w1.heap.size := fun j hj => by
  rw [own_vblk hO] at hj
  exact hO.lt (by simpa using hj)
 have hnf : ∀ j ∈ vblk v, j ∉ mfoot mb l := fun j hj hj' => by have := h1.lt j hj'; have := (hvb j hj).1; omega
 have hfr : ∀ j ∈ mfrz { l with drv := v }, j ∈ mfrz l ∨ j ∈ vblk v := fun j hj => by
  simp only [mfrz, List.mem_append] at hj ⊢
  rcases hj with h | h | h | h
  ·exact .inl (.inl h)
  ·exact .inl (.inr (.inl h))
  ·exact .inr h
  ·exact .inl (.inr (.inr (.inr h)))
 refine ⟨(h0.through (F := []) (Keep.of_ext he) (fun _ hj => by cases hj)).through k (fun j hj => by rw [List.mem_singleton] at hj; subst hj; exact h2 _ (by simp [mfoot])), hl, { l with drv := v }, ?_, h2, fun j hj => ?_, fun q hq => ⟨Nat.lt_of_lt_of_le (h4 q hq).1 (Nat.le_trans he.size k.size), (h4 q hq).2.1, fun hj => ?_⟩⟩
 ·refine ⟨?_, g.low, g.tab.keep k (fun j hj => hmb (by simp [hj])), g.view, g.calls.keep k (fun j hj => hmb (by simp [hj])), g.cls, fun c hc => ⟨?_, ?_, ?_⟩, ?_, ?_, ?_, g.apart, fun j hj => ?_⟩
  ·have := heap_setCell_same w1 mb 26 _ _ v g.head
   rw [this]
   simp [rCells]
  ·exact (g.callS c hc).1.keep k (hz fun j hj => mem_kv (l := l) (c := c) hc (j := j) (by simp [hj]))
  ·exact (g.callS c hc).2.1.keep k (hz fun j hj => mem_kv (l := l) (c := c) hc (j := j) (by simp [hj]))
  ·exact (g.callS c hc).2.2.keep k (hz fun j hj => mem_kv (l := l) (c := c) hc (j := j) (by simp [hj]))
  ·exact g.code.keepF k (fun j hj => hx j (by simp [mfrz, hj]))
  ·exact g.defs.keepF k (fun j hj => hx j (by simp [mfrz, hj]))
  ·exact (hO.keep k (fun j hj e => hnf j (by rw [own_vblk hO]; simp [hj]) (by rw [List.mem_singleton] at e; subst e; simp [mfoot]))).rd (enc_int _)
  ·rcases hfr j hj with h | h
   ·exact ⟨(g.frz j h).1, Nat.lt_of_lt_of_le (g.frz j h).2 k.size⟩
   ·exact ⟨hnf j h, Nat.lt_of_lt_of_le (hvb j h).2 k.size⟩
 ·rcases hfr j hj with h | h
  ·exact h3 j h
  ·exact .inr (Nat.le_trans h0.size (hvb j h).1)
 ·rcases hfr q hj with h | h
  ·exact (h4 q hq).2.2 h
  ·have := (h4 q hq).1; have := (hvb q h).1; omega
theorem MRelQ.push (h0 : Keep F0 wf w) (hl : base ≤ wf.heap.size) (g : MAt w base mb σ l) (h2 : ∀ j ∈ mfoot mb l, j ∈ F0 ∨ wf.heap.size ≤ j) (h3 : ∀ j ∈ mfrz l, j ∈ Z0 ∨ wf.heap.size ≤ j) {Q : List Nat} (h4 : ∀ q ∈ Q, q < w.heap.size ∧ q ∉ mfoot mb l ∧ q ∉ mfrz l)
  {x : CB} (hx : ∀ j ∈ vblk x.kv ++ (vblk x.vv ++ vblk x.nv), j ∈ Q ∧ wf.heap.size ≤ j) (hs : Sl w .u8 x.kv x.c.key ∧ Sl w .u8 x.vv x.c.val ∧ Sl w .u64 x.nv x.c.n) {w5 : World} {v : Value} (k : Keep l.cv.ownBlock.toList w w5)
  (hO : Own w5 base 76 6 CB.enc v (l.cs ++ [x])) (hm : ∀ j, v.ownBlock = some j → l.cv.ownBlock = some j ∨ w.heap.size ≤ j) :
  MRel F0 Z0 wf base (w5.setCell ⟨mb, 31, none⟩ v) mb { σ with calls := σ.calls ++ [x.c] } ∧ ∀ q ∈ Q, ∀ o, w.heap[q]? = some o → (w5.setCell ⟨mb, 31, none⟩ v).heap[q]? = some o := by
 have n0 := List.nodup_cons.1 g.apart
 have n1 := List.nodup_append.1 n0.2
 have k2 : Keep [mb] w5 (w5.setCell ⟨mb, 31, none⟩ v) := (Keep.rfl' _ _).setCell (by simp) v
 have hlt := g.lt
 have kk : Keep (mb :: l.cv.ownBlock.toList) w (w5.setCell ⟨mb, 31, none⟩ v) := (k.mono fun j hj => .inl (List.mem_cons_of_mem _ hj)).trans (k2.mono fun j hj => .inl (by rw [List.mem_singleton] at hj; subst hj; exact List.mem_cons_self))
 have hrt : ∀ j ∈ rtfoot l.tb l.T, j ∉ mb :: l.cv.ownBlock.toList := fun j hj hj' => by
  rcases List.mem_cons.1 hj' with rfl | hj'
  ·exact n0.1 (List.mem_append_right _ hj)
  ·exact n1.2.2 j hj' j hj rfl
 have hcv : ∀ j ∈ mb :: l.cv.ownBlock.toList, j ∈ mfoot mb l := fun j hj => by
  rcases List.mem_cons.1 hj with rfl | hj
  ·simp [mfoot]
  ·simp only [mfoot, List.mem_cons, List.mem_append]; exact .inr (.inl hj)
 have hxx : ∀ j ∈ mfrz l, j ∉ mb :: l.cv.ownBlock.toList := fun j hj e => (g.frz j hj).1 (hcv j e)
 have hz : ∀ {v : Value}, (∀ j ∈ vblk v, j ∈ mfrz l) → ∀ a n c, v = .slice (some a) n c → a.block ∉ mb :: l.cv.ownBlock.toList := fun hv => vblk_not fun j hj => hxx j (hv j hj)
 have hzx : ∀ {v : Value}, (∀ j ∈ vblk v, j ∈ vblk x.kv ++ (vblk x.vv ++ vblk x.nv)) → ∀ a n c, v = .slice (some a) n c → a.block ∉ mb :: l.cv.ownBlock.toList := fun hv => vblk_not fun j hj e => (h4 j (hx j (hv j hj)).1).2.1 (hcv j e)
 have hvm : ∀ j, v.ownBlock = some j → j ≠ mb ∧ j ∉ rtfoot l.tb l.T ∧ (j ∈ mfoot mb l ∨ w.heap.size ≤ j) := fun j hj => by
  rcases hm j hj with h | h
  ·exact ⟨fun e => by subst e; exact n0.1 (List.mem_append_left _ (by simp [h])), fun e => n1.2.2 j (by simp [h]) j e rfl, .inl (hcv j (by simp [h]))⟩
  ·exact ⟨fun e => by have := heap_lt g.head; omega, fun e => by have := (g.tab.lt j e).2; omega, .inr h⟩
 have hft : ∀ j ∈ mfoot mb { l with cv := v, cs := l.cs ++ [x] }, j ∈ mfoot mb l ∨ w.heap.size ≤ j := fun j hj => by
  simp only [mfoot, List.mem_cons, List.mem_append] at hj ⊢
  rcases hj with h | h | h
  ·exact .inl (.inl h)
  ·have := (hvm j (by simpa using h)).2.2
   simpa only [mfoot, List.mem_cons, List.mem_append] using this
  ·exact .inl (.inr (.inr h))
 have hfr : ∀ j ∈ mfrz { l with cv := v, cs := l.cs ++ [x] }, j ∈ mfrz l ∨ j ∈ vblk x.kv ++ (vblk x.vv ++ vblk x.nv) := fun j hj => by
  simp only [mfrz, List.flatMap_append, List.mem_append, List.flatMap_cons, List.flatMap_nil, List.append_nil] at hj ⊢
  rcases hj with h | h | h | h | h
  ·exact .inl (.inl h)
  ·exact .inl (.inr (.inl h))
  ·exact .inl (.inr (.inr (.inl h)))
  ·exact .inl (.inr (.inr (.inr h)))
  ·exact .inr h
 have hap : ∀ j ∈ mfrz { l with cv := v, cs := l.cs ++ [x] }, j ∉ mfoot mb { l with cv := v, cs := l.cs ++ [x] } ∧ j < w.heap.size := fun j hj => by
  rcases hfr j hj with h | h
  ·exact ⟨fun h' => (hft j h').elim (g.frz j h).1 (fun h'' => by have := (g.frz j h).2; omega), (g.frz j h).2⟩
  ·have := h4 j (hx j h).1
   exact ⟨fun h' => (hft j h').elim this.2.1 (fun h'' => by have := this.1; omega), this.1⟩
 refine ⟨⟨h0.through kk (fun j hj => h2 j (hcv j hj)), hl, { l with cv := v, cs := l.cs ++ [x] }, ?_, fun j hj => (hft j hj).elim (h2 j) (fun h => .inr (Nat.le_trans h0.size h)), fun j hj => (hfr j hj).elim (h3 j) (fun h => .inr (hx j h).2)⟩, fun q hq o ho => kk.obj ho (fun hj => (h4 q hq).2.1 (hcv q hj))⟩
 refine ⟨?_, g.low, g.tab.keep kk hrt, g.view, hO.keep k2 (fun j hj e => (hvm j hj).1 (by simpa using e)), by simp [g.cls], fun c hc => ?_, g.code.keepF kk (fun j hj => hxx j (by simp [mfrz, hj])), g.defs.keepF kk (fun j hj => hxx j (by simp [mfrz, hj])), g.draws.keep kk (hz fun j hj => by simp [mfrz, hj]), ?_, fun j hj => ⟨(hap j hj).1, Nat.lt_of_lt_of_le (hap j hj).2 kk.size⟩⟩
 ·have := heap_setCell_same w5 mb 31 _ _ v (k.obj g.head (fun hj => n0.1 (List.mem_append_left _ hj)))
  rw [this]
  simp [rCells]
 ·rcases List.mem_append.1 hc with hc | hc
  ·exact ⟨(g.callS c hc).1.keep kk (hz fun j hj => mem_kv hc (by simp [hj])), (g.callS c hc).2.1.keep kk (hz fun j hj => mem_kv hc (by simp [hj])), (g.callS c hc).2.2.keep kk (hz fun j hj => mem_kv hc (by simp [hj]))⟩
  ·rw [List.mem_singleton] at hc
   subst hc
   exact ⟨hs.1.keep kk (hzx fun j hj => by simp [hj]), hs.2.1.keep kk (hzx fun j hj => by simp [hj]), hs.2.2.keep kk (hzx fun j hj => by simp [hj])⟩
 ·simp only [mfoot]
  rw [List.nodup_cons, List.nodup_append]
  refine ⟨fun hj => ?_, by cases v.ownBlock <;> simp, n1.2.1, fun a ha b hb e => ?_⟩
  ·rcases List.mem_append.1 hj with hj | hj
   ·exact (hvm mb (by simpa using hj)).1 rfl
   ·exact n0.1 (List.mem_append_right _ hj)
  ·subst e
   exact (hvm a (by simpa using ha)).2.1 hb
end
theorem tfind_at {T : List TM} {i : Nat} {n : Nat} {t : TM} (hp : T[i]? = some t) (hk : (n : Int) = t.key) : tfind T i n = some t := by
 unfold tfind
 rw [pick_nat, hp]
 simp only [Option.bind_some]
 rw [if_pos hk]
theorem tfind_cases (T : List TM) (i : Int) (n : Nat) : tfind T i n = none ∨ ∃ (j : Nat) (t : TM), i = j ∧ T[j]? = some t ∧ (n : Int) = t.key := by
 unfold tfind
 cases hp : pick T i with
 | none => exact .inl rfl
 | some t =>
  obtain ⟨j, e, hj⟩ := pick_some hp
  simp only [Option.bind_some]
  by_cases hk : (n : Int) = t.key
  ·exact .inr ⟨j, t, e, hj, hk⟩
  ·exact .inl (if_neg hk)
theorem bytesLess_lt : ∀ (x y : List UInt8), Op.bytesLess x y = decide (x < y)
 | [], [] => by simp [Op.bytesLess]
 | _ :: _, [] => by simp [Op.bytesLess]
 | [], _ :: _ => by simp [Op.bytesLess]
 | a :: x, b :: y => by
  rw [Op.bytesLess, bytesLess_lt x y]
  simp only [List.cons_lt_cons_iff]
  by_cases h1 : a < b <;> by_cases h2 : a = b <;> by_cases h3 : x < y <;> simp [h1, h2, h3]
theorem lt_of_le_ne {x y : List UInt8} (h : x ≤ y) (hn : x ≠ y) : x < y := by
 rcases Classical.em (x < y) with h1 | h1
 ·exact h1
 ·exact absurd (List.le_antisymm h (List.not_lt.1 h1)) hn
def ltB (a b : ByteArray) : Prop := Op.bytesLess a.toList b.toList = true
theorem ltB_iff (a b : ByteArray) : ltB a b ↔ a.data.toList < b.data.toList := by
 unfold ltB
 cases a; cases b
 rw [ByteArray.toList_mk, ByteArray.toList_mk, bytesLess_lt, decide_eq_true_eq]
theorem ltB_trans {a b c : ByteArray} (h : ltB a b) (k : ltB b c) : ltB a c := by
 rw [ltB_iff] at *
 exact List.lt_trans h k
theorem ltB_tri {a b : ByteArray} (h : ¬ ltB a b) (hn : a ≠ b) : ltB b a := by
 rw [ltB_iff] at *
 refine lt_of_le_ne (List.not_lt.1 h) (fun e => hn ?_)
 cases a; cases b
 simp only at e
 congr 1
 exact (Array.toList_inj.1 e).symm
theorem sortK_eq {ks l : List ByteArray} (hp : ks.Perm l) (hs : l.Pairwise ltB) : sortK ks = l := by
 rw [sortK_of_perm hp]
 have hm : (l.map fun k => k.data.toList).Pairwise (fun x y => leB x y = true) := by
  rw [List.pairwise_map]
  exact hs.imp fun {a b} h => by
   rw [ltB_iff] at h
   simp only [leB, decide_eq_true_eq]
   exact List.le_of_lt h
 unfold sortK
 rw [List.mergeSort_of_pairwise hm, List.map_map]
 conv => rhs; rw [← List.map_id l]
 apply List.map_congr_left
 intro k _
 rfl
theorem lookup_perm {L L' : List (ByteArray × Nat)} (h : L.Perm L') (hn : (L.map (·.1)).Nodup) (s : ByteArray) : L'.lookup s = L.lookup s := by
 have hn' : (L'.map (·.1)).Nodup := (h.map _).nodup_iff.1 hn
 cases hl : L.lookup s with
 | some n => exact mem_lookup hn' (h.mem_iff.1 (lookup_mem' hl))
 | none =>
  cases hl' : L'.lookup s with
  | none => rfl
  | some n =>
   have := mem_lookup hn (h.mem_iff.2 (lookup_mem' hl'))
   rw [hl] at this; cases this
structure KW (t : TM) : Prop where
 keys : (t.slots.map (·.1)).Nodup
 few : (t.slots.length : Int) ≤ t.max
 max : t.max ≤ 16
 key : t.key ≤ 16
 size : ∀ p ∈ t.slots, (p.1.size : Int) = t.key
theorem MapWf.kw {t : TM} (h : MapWf t) : KW t := ⟨h.keys, h.few, h.max.2, h.key.2, h.size⟩
structure TRel (t t' : TM) : Prop where
 hash : t'.hash = t.hash
 key : t'.key = t.key
 val : t'.val = t.val
 max : t'.max = t.max
 made : t'.made = t.made
 slots : t.slots.Perm t'.slots
 rise : (t'.slots.map (·.1)).Pairwise ltB
 kw : KW t
structure VRel (V V' : Areas × List TM) : Prop where
 mem : V'.1 = V.1
 len : V'.2.length = V.2.length
 maps : ∀ (i : Nat) t t', V.2[i]? = some t → V'.2[i]? = some t' → TRel t t'
theorem VRel.small {V V' : Areas × List TM} (r : VRel V V') : (∀ t ∈ V.2, t.slots.length ≤ 1000 ∧ ∀ p ∈ t.slots, p.1.size ≤ 1000) ∧ (∀ t ∈ V'.2, t.slots.length ≤ 1000 ∧ ∀ p ∈ t.slots, p.1.size ≤ 1000) := by
 refine ⟨fun t ht => ?_, fun t ht => ?_⟩
 ·obtain ⟨i, hi⟩ := List.getElem?_of_mem ht
  have hlt := (List.getElem?_eq_some_iff.1 hi).1
  have k := (r.maps i t _ hi (List.getElem?_eq_getElem (by rw [r.len]; exact hlt))).kw
  have h1 := k.few; have h2 := k.max; have h3 := k.key
  exact ⟨by omega, fun p hp => by have := k.size p hp; omega⟩
 ·obtain ⟨i, hi⟩ := List.getElem?_of_mem ht
  have hlt := (List.getElem?_eq_some_iff.1 hi).1
  have q := r.maps i _ t (List.getElem?_eq_getElem (by rw [← r.len]; exact hlt)) hi
  have k := q.kw
  have h1 := k.few; have h2 := k.max; have h3 := k.key; have h4 := q.slots.length_eq
  exact ⟨by omega, fun p hp => by have := k.size p (q.slots.mem_iff.2 hp); omega⟩
theorem VRel.find {V V' : Areas × List TM} (r : VRel V V') (i : Int) (n : Nat) : (tfind V.2 i n = none ∧ tfind V'.2 i n = none) ∨ ∃ (j : Nat) (t t' : TM), i = j ∧ V.2[j]? = some t ∧ V'.2[j]? = some t' ∧ tfind V.2 i n = some t ∧ tfind V'.2 i n = some t' ∧ (n : Int) = t.key ∧ TRel t t' := by
 rcases tfind_cases V.2 i n with h0 | ⟨j, t, rfl, hp, hk⟩
 ·rcases tfind_cases V'.2 i n with h1 | ⟨j, t', rfl, hp', hk'⟩
  ·exact .inl ⟨h0, h1⟩
  ·exfalso
   have hlt := (List.getElem?_eq_some_iff.1 hp').1
   obtain ⟨t, hp⟩ := at_of_lt (xs := V.2) (k := j) (by rw [← r.len]; exact hlt)
   have q := r.maps j t t' hp hp'
   rw [tfind_at hp (by rw [← q.key]; exact hk')] at h0
   cases h0
 ·have hlt := (List.getElem?_eq_some_iff.1 hp).1
  obtain ⟨t', hp'⟩ := at_of_lt (xs := V'.2) (k := j) (by rw [r.len]; exact hlt)
  have q := r.maps j t t' hp hp'
  exact .inr ⟨j, t, t', rfl, hp, hp', tfind_at hp hk, tfind_at hp' (by rw [q.key]; exact hk), hk, q⟩
theorem look_rel {V V' : Areas × List TM} (r : VRel V V') (i : Int) (ks : List Int) : tlook V'.2 i ks = tlook V.2 i ks := by
 rcases r.find i ks.length with ⟨h1, h2⟩ | ⟨j, t, t', rfl, hp, hp', h1, h2, hk, q⟩
 ·simp only [tlook, h1, h2]
 ·simp only [tlook, h1, h2, lookup_perm q.slots q.kw.keys]
theorem items_rel {V V' : Areas × List TM} (r : VRel V V') (i : Int) : ritems V' i = titems V i := by
 unfold ritems titems
 by_cases h0 : i < 0
 ·simp only [pick, h0, if_true]
 ·obtain ⟨j, rfl⟩ : ∃ j : Nat, i = j := ⟨i.toNat, by omega⟩
  rw [pick_nat, pick_nat]
  cases hp : V.2[j]? with
  | none =>
   have : V'.2[j]? = none := by
    rw [List.getElem?_eq_none_iff, r.len]
    exact List.getElem?_eq_none_iff.1 hp
   rw [this]
  | some t =>
   have hlt := (List.getElem?_eq_some_iff.1 hp).1
   obtain ⟨t', hp'⟩ := at_of_lt (xs := V'.2) (k := j) (by rw [r.len]; exact hlt)
   rw [hp']
   have q := r.maps j t t' hp hp'
   simp only
   rw [sortK_eq (q.slots.map _) q.rise, List.map_map, r.mem]
   apply List.map_congr_left
   intro p hp
   have hl := mem_lookup (L := t.slots) q.kw.keys (k := p.1) (x := p.2) (q.slots.mem_iff.2 hp)
   simp only [Function.comp, hl, Option.getD_some]
theorem VRel.set {V V' : Areas × List TM} (r : VRel V V') {M : Areas} {j : Nat} {t t' : TM} (q : TRel t t') : VRel (M, V.2.set j t) (M, V'.2.set j t') := by
 refine ⟨rfl, by simp [r.len], fun i s s' h h' => ?_⟩
 simp only [List.getElem?_set, r.len] at h h'
 by_cases e : j = i
 ·subst e
  rw [if_pos rfl] at h h'
  split at h
  ·rename_i hl; rw [if_pos hl] at h'; injection h with h; injection h' with h'; subst h; subst h'; exact q
  ·cases h
 ·rw [if_neg e] at h h'
  exact r.maps i s s' h h'
theorem VRel.areas {V V' : Areas × List TM} (r : VRel V V') (M : Areas) : VRel (M, V.2) (M, V'.2) := ⟨rfl, r.len, r.maps⟩
theorem add_rel {t t' : TM} (q : TRel t t') {s : ByteArray} (hl : t.slots.lookup s = none) (hs : (s.size : Int) = t.key) (hf : ¬ t.max ≤ t.slots.length) : TRel (addSlot t s) (addR t' s) := by
 have hno : ∀ p ∈ t'.slots, p.1 ≠ s := fun p hp => lookup_no hl p (q.slots.mem_iff.2 hp)
 have hnt : ∀ p ∈ t.slots, p.1 ≠ s := lookup_no hl
 have htd : t'.slots.takeWhile (ltK s) ++ t'.slots.dropWhile (ltK s) = t'.slots := List.takeWhile_append_dropWhile
 have hr := q.rise
 rw [← htd, List.map_append, List.pairwise_append] at hr
 obtain ⟨r1, r2, r3⟩ := hr
 have hA : ∀ p ∈ t'.slots.takeWhile (ltK s), ltB p.1 s := fun p hp => by
  have := List.all_eq_true.1 (List.all_takeWhile (p := ltK s) (l := t'.slots)) p hp
  exact this
 have hB : ∀ p ∈ t'.slots.dropWhile (ltK s), ltB s p.1 := by
  cases hd : t'.slots.dropWhile (ltK s) with
  | nil => intro p hp; cases hp
  | cons x L =>
   have hx : ¬ ltB x.1 s := by
    intro h
    have := List.head?_dropWhile_not (ltK s) t'.slots
    rw [hd] at this
    simp only [List.head?_cons] at this
    have h2 : ltK s x = true := h
    rw [h2] at this
    simp at this
   have hxm : x ∈ t'.slots := (List.dropWhile_sublist _).subset (by rw [hd]; exact List.mem_cons_self)
   have hsx := ltB_tri hx (hno x hxm)
   rw [hd, List.map_cons, List.pairwise_cons] at r2
   intro p hp
   rcases List.mem_cons.1 hp with rfl | hp
   ·exact hsx
   ·exact ltB_trans hsx (r2.1 p.1 (List.mem_map.2 ⟨p, hp, rfl⟩))
 refine ⟨q.hash, q.key, q.val, q.max, by simp only [addSlot, addR, q.made], ?_, ?_, ⟨?_, ?_, q.kw.max, q.kw.key, ?_⟩⟩
 ·simp only [addSlot, addR, q.made]
  refine (q.slots.append_right _).trans ?_
  conv => lhs; rw [← htd]
  rw [List.append_assoc, List.append_assoc]
  exact List.Perm.append_left _ List.perm_append_comm
 ·simp only [addR, List.map_append, List.map_cons, List.map_nil]
  rw [List.pairwise_append, List.pairwise_append]
  refine ⟨⟨r1, List.pairwise_singleton _ _, fun a ha b hb => ?_⟩, r2, fun a ha b hb => ?_⟩
  ·obtain ⟨p, hp, rfl⟩ := List.mem_map.1 ha
   rw [List.mem_singleton] at hb
   subst hb
   exact hA p hp
  ·obtain ⟨p2, hp2, rfl⟩ := List.mem_map.1 hb
   rcases List.mem_append.1 ha with ha | ha
   ·exact r3 a ha _ hb
   ·rw [List.mem_singleton] at ha
    subst ha
    exact hB p2 hp2
 ·simp only [addSlot, List.map_append, List.map_cons, List.map_nil]
  rw [List.nodup_append]
  refine ⟨q.kw.keys, by simp, fun a ha b hb e => ?_⟩
  subst e
  rw [List.mem_singleton] at hb
  subst hb
  obtain ⟨p, hp, e⟩ := List.mem_map.1 ha
  exact hnt p hp e
 ·simp only [addSlot, List.length_append, List.length_singleton]; omega
 ·intro p hp
  simp only [addSlot, List.mem_append, List.mem_singleton] at hp ⊢
  rcases hp with hp | rfl
  ·exact q.kw.size p hp
  ·exact hs
theorem put_rel {V V' : Areas × List TM} (r : VRel V V') (i : Int) (ks vs : List Int) (flags : Int) : (rput V' i ks vs flags).2 = (tput V i ks vs flags).2 ∧ VRel (tput V i ks vs flags).1 (rput V' i ks vs flags).1 := by
 rcases r.find i ks.length with ⟨h1, h2⟩ | ⟨j, t, t', rfl, hp, hp', h1, h2, hk, q⟩
 ·simp only [tput, rput, h1, h2]; exact ⟨trivial, r⟩
 ·simp only [tput, rput, h1, h2, q.val, q.hash, q.max, q.made, r.mem, lookup_perm q.slots q.kw.keys, ← q.slots.length_eq]
  by_cases a1 : (vs.length : Int) ≠ t.val
  ·rw [if_pos a1, if_pos a1]; exact ⟨rfl, r⟩
  rw [if_neg a1, if_neg a1]
  by_cases a2 : 2 < flags
  ·rw [if_pos a2, if_pos a2]; exact ⟨rfl, r⟩
  rw [if_neg a2, if_neg a2]
  cases hl : t.slots.lookup (strOfNums ks) with
  | some n =>
   simp only
   by_cases a3 : flags = 1
   ·rw [if_pos a3, if_pos a3]; exact ⟨rfl, r⟩
   ·rw [if_neg a3, if_neg a3]; exact ⟨rfl, r.areas _⟩
  | none =>
   simp only
   by_cases a4 : t.hash = false
   ·rw [if_pos a4, if_pos a4]; exact ⟨rfl, r⟩
   rw [if_neg a4, if_neg a4]
   by_cases a5 : flags = 2
   ·rw [if_pos a5, if_pos a5]; exact ⟨rfl, r⟩
   rw [if_neg a5, if_neg a5]
   by_cases a6 : t.max ≤ t.slots.length
   ·rw [if_pos a6, if_pos a6]; exact ⟨rfl, r⟩
   rw [if_neg a6, if_neg a6]
   rw [tslot, pick_nat, hp]
   simp only
   by_cases a7 : 1024 ≤ t.made
   ·rw [if_pos a7, if_pos a7]; exact ⟨rfl, r⟩
   rw [if_neg a7, if_neg a7]
   by_cases a8 : (mmake V.1 (tarea j t.made) vs false false).2 = 0
   ·rw [if_pos a8, if_pos a8]
    refine ⟨rfl, r.set (add_rel q hl ?_ a6)⟩
    rw [strOf_size]; exact hk
   ·rw [if_neg a8, if_neg a8]; exact ⟨rfl, r⟩
theorem erase_filter {L : List (ByteArray × Nat)} (hn : (L.map (·.1)).Nodup) (s : ByteArray) : (L.eraseP fun p => p.1 == s) = L.filter (neK s) := by
 induction L with
 | nil => rfl
 | cons p L ih =>
  rw [List.map_cons, List.nodup_cons] at hn
  by_cases e : p.1 = s
  ·have hb : (p.1 == s) = true := by rw [e]; exact beq_self_eq_true s
   rw [List.eraseP_cons_of_pos (p := fun p : ByteArray × Nat => p.1 == s) hb, List.filter_cons_of_neg (by simp [neK, hb])]
   symm
   rw [List.filter_eq_self]
   intro x hx
   have : x.1 ≠ s := fun e2 => hn.1 (by rw [e, ← e2]; exact List.mem_map.2 ⟨x, hx, rfl⟩)
   simp [neK, this]
  ·have hb : ¬ (p.1 == s) = true := by simpa using e
   rw [List.eraseP_cons_of_neg (p := fun p : ByteArray × Nat => p.1 == s) hb, List.filter_cons_of_pos (by simp [neK, e]), ih hn.2]
theorem filter_none {L : List (ByteArray × Nat)} (s : ByteArray) : (L.filter (neK s)).length = L.length ↔ L.lookup s = none := by
 rw [List.length_filter_eq_length_iff]
 constructor
 ·intro h
  cases hl : L.lookup s with
  | none => rfl
  | some n =>
   have := h _ (lookup_mem' hl)
   simp [neK] at this
 ·intro h p hp
  simp [neK, lookup_no h p hp]
theorem drop_rel {V V' : Areas × List TM} (r : VRel V V') (i : Int) (ks : List Int) : (rdrop V'.2 i ks).2 = (tdrop V.2 i ks).2 ∧ VRel (V.1, (tdrop V.2 i ks).1) (V'.1, (rdrop V'.2 i ks).1) := by
 have r0 : VRel (V.1, V.2) (V'.1, V'.2) := r
 rcases r.find i ks.length with ⟨h1, h2⟩ | ⟨j, t, t', rfl, hp, hp', h1, h2, hk, q⟩
 ·simp only [tdrop, rdrop, h1, h2]; exact ⟨trivial, r0⟩
 ·simp only [tdrop, rdrop, h1, h2, q.hash]
  by_cases a4 : t.hash = false
  ·rw [if_pos a4, if_pos a4]; exact ⟨rfl, r0⟩
  rw [if_neg a4, if_neg a4]
  cases hl : t.slots.lookup (strOfNums ks) with
  | none =>
   rw [if_pos ((filter_none _).2 (by rw [lookup_perm q.slots q.kw.keys]; exact hl))]
   exact ⟨rfl, r0⟩
  | some n =>
   rw [if_neg (fun h => by rw [filter_none, lookup_perm q.slots q.kw.keys, hl] at h; cases h)]
   refine ⟨rfl, ?_⟩
   rw [r.mem]
   simp only [Int.toNat_natCast]
   have hsub : (t.slots.filter (neK (strOfNums ks))).Sublist t.slots := List.filter_sublist
   refine r.set ⟨rfl, q.key, q.val, q.max, q.made, ?_, ?_, ⟨?_, ?_, q.kw.max, q.kw.key, ?_⟩⟩
   ·simp only; rw [erase_filter q.kw.keys]; exact q.slots.filter _
   ·exact q.rise.sublist (List.filter_sublist.map _)
   ·simp only; rw [erase_filter q.kw.keys]; exact (hsub.map _).nodup q.kw.keys
   ·simp only; rw [erase_filter q.kw.keys]; have := hsub.length_le; have := q.kw.few; omega
   ·simp only; rw [erase_filter q.kw.keys]; exact fun p hp => q.kw.size p (hsub.subset hp)
theorem nk_lt {a c : Nat} (h : a < c) (hc : c < 256) : ltB (numKey (a : Int)) (numKey (c : Int)) := by
 rw [ltB_iff]
 simp only [numKey, strOfNums_data, List.map_cons, List.map_nil]
 rw [List.cons_lt_cons_iff]
 left
 rw [Int.emod_eq_of_lt (by omega) (by omega), Int.emod_eq_of_lt (by omega) (by omega), Int.toNat_natCast, Int.toNat_natCast]
 show (UInt8.ofNat a).toNat < (UInt8.ofNat c).toNat
 simp only [UInt8.toNat_ofNat']
 omega
theorem full_rel {d : TDef} (hm : mayD d = true) (h : KW (fullT d)) : TRel (fullT d) (fullT d) := by
 refine ⟨rfl, rfl, rfl, rfl, rfl, List.Perm.refl _, ?_, h⟩
 have hd := (may_iff d).1 hm
 unfold fullT
 split
 ·simp [TDef.tm]
 ·simp only [nums, List.map_map]
  rw [List.pairwise_map]
  refine List.Pairwise.imp_of_mem (R := (· < ·)) (fun {a b} ha hb hab => ?_) List.pairwise_lt_range
  rw [List.mem_range] at hb
  exact nk_lt hab (by omega)
end Go.Proofs.YtppefchjoodgnaaGreat
