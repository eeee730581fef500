/- What the claim leans on: PmB. -/
import Derived.Test.YtppefchjoodgnaaGreatPN21
import Derived.Test.YtppefchjoodgnaaGreatPN22
namespace Go.Proofs.YtppefchjoodgnaaGreat
open Go.RowKit
set_option linter.unusedVariables false
set_option linter.unusedSimpArgs false
section
variable {F0 Z0 : List Nat} {wf w w' : World} {base mb : Nat} {σ : RS} {l : PLay}
theorem PAt.lt (h : PAt w base mb σ l) : ∀ j ∈ pfoot mb l, j < w.heap.size := fun j hj => by
 simp only [pfoot, List.mem_cons, List.mem_append] at hj
 rcases hj with rfl | hj | hj
 ·exact heap_lt h.head
 ·exact (h.calls.lt (by simpa using hj)).2
 ·exact h.tab.lt j hj
theorem PAt.tabStep (h : PAt w base mb σ l) (k : Keep (tfoot l.tb l.T) w w') {T' : Tabs} (ht : TabAt w' base l.tb T') (hrb : T'.b = l.T.b) (hf : ∀ j ∈ tfoot l.tb T', j ∈ tfoot l.tb l.T ∨ w.heap.size ≤ j) :
  PAt w' base mb { σ with V := tview T' } { l with T := T' } := by
 have hlt := h.lt
 have n0 := List.nodup_cons.1 h.apart
 have n1 := List.nodup_append.1 n0.2
 have hmb : mb ∉ tfoot l.tb l.T := fun hj => n0.1 (List.mem_append_right _ hj)
 have hcv : ∀ j, l.cv.ownBlock = some j → j ∉ tfoot l.tb l.T := fun j hj hj' => n1.2.2 j (by simpa using hj) j hj' rfl
 have hx : ∀ j ∈ pfrz l, j ∉ tfoot l.tb l.T := fun j hj hj' => (h.frz j hj).1 (by simp [pfoot, hj'])
 have hz : ∀ {v : Value}, (∀ j ∈ vblk v, j ∈ pfrz l) → ∀ a n c, v = .slice (some a) n c → a.block ∉ tfoot l.tb l.T := fun hv => vblk_not fun j hj => hx j (hv j hj)
 have hnew : ∀ j, j < w.heap.size → j ∉ tfoot l.tb l.T → j ∉ tfoot l.tb T' := fun j h1 h2 h3 => (hf j h3).elim h2 (fun h4 => by omega)
 refine ⟨?_, h.low, ht, rfl, h.calls.keep k hcv, h.cls, fun c hc => ⟨?_, ?_, ?_⟩, ?_, ?_, ?_, ?_, ?_⟩
 ·have := k.obj h.head hmb
  rw [this]
  simp only [pCells, hrb]
 ·exact (h.callS c hc).1.keep k (hz fun j hj => mem_kvP hc (by simp [hj]))
 ·exact (h.callS c hc).2.1.keep k (hz fun j hj => mem_kvP hc (by simp [hj]))
 ·exact (h.callS c hc).2.2.keep k (hz fun j hj => mem_kvP hc (by simp [hj]))
 ·exact h.code.keepF k (fun j hj => hx j (by simp [pfrz, hj]))
 ·exact h.defs.keepF k (fun j hj => hx j (by simp [pfrz, hj]))
 ·exact h.draws.keep k (hz fun j hj => by simp [pfrz, hj])
 ·simp only [pfoot]
  rw [List.nodup_cons, List.nodup_append]
  refine ⟨?_, n1.1, ht.apart, ?_⟩
  ·intro hj
   rcases List.mem_append.1 hj with hj | hj
   ·exact n0.1 (List.mem_append_left _ hj)
   ·exact hnew mb (heap_lt h.head) hmb hj
  ·intro a ha b hb e
   subst e
   have ha' : l.cv.ownBlock = some a := by simpa using ha
   exact hnew a (h.calls.lt ha').2 (hcv a ha') hb
 ·intro j hj
  have h1 := h.frz j hj
  refine ⟨fun h2 => ?_, Nat.lt_of_lt_of_le h1.2 k.size⟩
  simp only [pfoot, List.mem_cons, List.mem_append] at h2
  rcases h2 with rfl | h2 | h2
  ·exact h1.1 (by simp [pfoot])
  ·exact h1.1 (by simp [pfoot, h2])
  ·exact hnew j h1.2 (fun h3 => h1.1 (by simp [pfoot, h3])) h2
theorem PRel.tabStep (h0 : Keep F0 wf w) (hl : base ≤ wf.heap.size) (h : PAt w base mb σ l) (h2 : ∀ j ∈ pfoot mb l, j ∈ F0 ∨ wf.heap.size ≤ j) (h3 : ∀ j ∈ pfrz l, j ∈ Z0 ∨ wf.heap.size ≤ j)
  (k : Keep (tfoot l.tb l.T) w w') {T' : Tabs} (ht : TabAt w' base l.tb T') (hrb : T'.b = l.T.b) (hf : ∀ j ∈ tfoot l.tb T', j ∈ tfoot l.tb l.T ∨ w.heap.size ≤ j) :
  PRel F0 Z0 wf base w' mb { σ with V := tview T' } := by
 refine ⟨h0.through k (fun j hj => h2 j (by simp [pfoot, hj])), hl, _, h.tabStep k ht hrb hf, fun j hj => ?_, h3⟩
 simp only [pfoot, List.mem_cons, List.mem_append] at hj
 rcases hj with rfl | hj | hj
 ·exact h2 _ (by simp [pfoot])
 ·exact h2 _ (by simp [pfoot, hj])
 ·rcases hf j hj with h4 | h4
  ·exact h2 _ (by simp [pfoot, h4])
  ·exact .inr (Nat.le_trans h0.size h4)
theorem PRel.mem (h : PRel F0 Z0 wf base w mb σ) : ∃ rb r L, w.cell? ⟨mb, 23, none⟩ = some (.pointer (some ⟨rb, 0, none⟩)) ∧ Hid (view L = σ.V.1) ∧ Hid (∀ w', Ext w w' → MemAt w' rb r L) ∧
  Hid (∀ w1 w' p s n e, Ext w w1 → StoreAns rb r L p s n w1 e w' → e = .returned (.int .i64 (mstore σ.V.1 p s n).2) ∧ PRel F0 Z0 wf base w' mb (σ.setM (mstore σ.V.1 p s n).1)) := by
 have H := h
 obtain ⟨h0, hl, l, h1, h2, h3⟩ := h
 have hv : view l.T.L = σ.V.1 := by rw [← h1.view]; rfl
 refine ⟨l.T.b, l.T.r, l.T.L, h1.cell 23 rfl, η hv, η fun w' he => h1.tab.mem.ext he, η ?_⟩
 intro w1 w' p s n e hE hA
 obtain ⟨he, hk, L', hR, hvw, hfo⟩ := hA
 refine ⟨by rw [he, hv], ?_⟩
 have g := h1.ext hE
 obtain ⟨t1, t2⟩ := g.tab.memStep hk hR (fun j hj => .inl (by rw [hfo] at hj; exact hj))
 have hk2 : Keep (tfoot l.tb l.T) w1 w' := hk.mono (fun j hj => .inl (foot_sub l.tb l.T j hj))
 have := PRel.tabStep (h0.through (F := []) (Keep.of_ext hE) (fun _ hj => by cases hj)) hl g h2 h3 hk2 t1 rfl t2
 have e2 : ({ σ with V := tview { l.T with L := L' } } : RS) = σ.setM (mstore σ.V.1 p s n).1 := by
  simp only [RS.setM, tview, hvw, hv]
  rw [← h1.view]
  rfl
 rw [e2] at this
 exact this
theorem PRel.u8 (h : PRel F0 Z0 wf base w mb σ) : BytesOk σ.V.1 := by
 obtain ⟨h0, hl, l, h1, h2, h3⟩ := h
 rw [← h1.view]
 exact h1.tab.mem.u8
structure PRelQ (Q F0 Z0 : List Nat) (wf : World) (base : Nat) (w : World) (mb : Nat) (σ : RS) : Prop where
 keep : Keep F0 wf w
 low : base ≤ wf.heap.size
 lay : ∃ l, PAt w base mb σ l ∧ (∀ j ∈ pfoot mb l, j ∈ F0 ∨ wf.heap.size ≤ j) ∧ (∀ j ∈ pfrz l, j ∈ Z0 ∨ wf.heap.size ≤ j) ∧ ∀ q ∈ Q, q < w.heap.size ∧ q ∉ pfoot mb l ∧ q ∉ pfrz l
theorem PRelQ.rel {Q : List Nat} (h : PRelQ Q F0 Z0 wf base w mb σ) : PRel F0 Z0 wf base w mb σ := by
 obtain ⟨h0, hl, l, h1, h2, h3, h4⟩ := h
 exact ⟨h0, hl, l, h1, h2, h3⟩
theorem PRel.apart (h : PRel F0 Z0 wf base w mb σ) {w1 : World} (he : Ext w w1) {Q : List Nat} (hQ : ∀ q ∈ Q, w.heap.size ≤ q ∧ q < w1.heap.size) : PRelQ Q F0 Z0 wf base w1 mb σ := by
 obtain ⟨h0, hl, l, h1, h2, h3⟩ := h
 exact ⟨h0.through (F := []) (Keep.of_ext he) (fun _ hj => by cases hj), hl, l, h1.ext he, h2, h3, fun q hq => ⟨(hQ q hq).2, fun h => by have := h1.lt q h; have := (hQ q hq).1; omega, fun h => by have := (h1.frz q h).2; have := (hQ q hq).1; omega⟩⟩
theorem PRelQ.go {Q : List Nat} (h : PRelQ Q F0 Z0 wf base w mb σ) (he : Ext w w') : PRelQ Q F0 Z0 wf base w' mb σ := by
 obtain ⟨h0, hl, l, h1, h2, h3, h4⟩ := h
 exact ⟨h0.through (F := []) (Keep.of_ext he) (fun _ hj => by cases hj), hl, l, h1.ext he, h2, h3, fun q hq => ⟨Nat.lt_of_lt_of_le (h4 q hq).1 he.size, (h4 q hq).2⟩⟩
theorem PRelQ.box {Q : List Nat} (h : PRelQ Q F0 Z0 wf base w mb σ) {q : Nat} (hq : q ∈ Q) (hw : wf.heap.size ≤ q) (i : Nat) (v : Value) : PRelQ Q F0 Z0 wf base (w.setCell ⟨q, i, none⟩ v) mb σ := by
 obtain ⟨h0, hl, l, h1, h2, h3, h4⟩ := h
 have k : Keep [q] w (w.setCell ⟨q, i, none⟩ v) := (Keep.rfl' _ _).setCell (by simp) v
 refine ⟨h0.through k (fun j hj => by rw [List.mem_singleton] at hj; subst hj; exact .inr hw), hl, l, h1.keep k (fun j hj => ?_) (fun j hj => ?_), h2, h3, fun q hq => ⟨Nat.lt_of_lt_of_le (h4 q hq).1 k.size, (h4 q hq).2⟩⟩
 ·rintro hj'
  rw [List.mem_singleton] at hj'
  subst hj'
  exact (h4 _ hq).2.1 hj
 ·rintro hj'
  rw [List.mem_singleton] at hj'
  subst hj'
  exact (h4 _ hq).2.2 hj
theorem PRelQ.tabStep {Q : List Nat} (h0 : Keep F0 wf w) (hl : base ≤ wf.heap.size) (h : PAt w base mb σ l) (h2 : ∀ j ∈ pfoot mb l, j ∈ F0 ∨ wf.heap.size ≤ j) (h3 : ∀ j ∈ pfrz l, j ∈ Z0 ∨ wf.heap.size ≤ j) (h4 : ∀ q ∈ Q, q < w.heap.size ∧ q ∉ pfoot mb l ∧ q ∉ pfrz l)
  (k : Keep (tfoot l.tb l.T) w w') {T' : Tabs} (ht : TabAt w' base l.tb T') (hrb : T'.b = l.T.b) (hf : ∀ j ∈ tfoot l.tb T', j ∈ tfoot l.tb l.T ∨ w.heap.size ≤ j) :
  PRelQ Q F0 Z0 wf base w' mb { σ with V := tview T' } ∧ ∀ q, (q ∈ Q ∨ q = mb) → ∀ o, w.heap[q]? = some o → w'.heap[q]? = some o := by
 refine ⟨⟨h0.through k (fun j hj => h2 j (by simp [pfoot, hj])), hl, _, h.tabStep k ht hrb hf, fun j hj => ?_, h3, fun q hq => ⟨Nat.lt_of_lt_of_le (h4 q hq).1 k.size, fun hj => ?_, (h4 q hq).2.2⟩⟩, fun q hq o ho => k.obj ho (fun hj => hq.elim (fun hq => (h4 q hq).2.1 (by simp [pfoot, hj])) (fun e => by subst e; exact (List.nodup_cons.1 h.apart).1 (List.mem_append_right _ hj)))⟩
 ·simp only [pfoot, List.mem_cons, List.mem_append] at hj
  rcases hj with rfl | hj | hj
  ·exact h2 _ (by simp [pfoot])
  ·exact h2 _ (by simp [pfoot, hj])
  ·rcases hf j hj with h4 | h4
   ·exact h2 _ (by simp [pfoot, h4])
   ·exact .inr (Nat.le_trans h0.size h4)
 ·have h5 := (h4 q hq).2.1
  have h6 := (h4 q hq).1
  simp only [pfoot, List.mem_cons, List.mem_append] at hj
  rcases hj with rfl | hj | hj
  ·exact h5 (by simp [pfoot])
  ·exact h5 (by simp [pfoot, hj])
  ·rcases hf q hj with h7 | h7
   ·exact h5 (by simp [pfoot, h7])
   ·omega
theorem PRelQ.tabs {Q : List Nat} (h : PRelQ Q F0 Z0 wf base w mb σ) : ∃ tb, w.cell? ⟨mb, 24, none⟩ = some (.pointer (some ⟨tb, 0, none⟩)) ∧
  Hid (∀ w1 i kv ks, Ext w w1 → Sl w1 .u8 kv ks → Calls Tryz.prog 173 #[.pointer (some ⟨tb, 0, none⟩), .int .i64 i, kv] w1 (fun e w' => e = .returned (.tuple #[.int .u64 (tlook σ.V.2 i ks).1, .int .i64 (tlook σ.V.2 i ks).2]) ∧ Ext w1 w')) ∧
  (Hid (∀ w1 b i kv ks vv vs fl, Ext w w1 → (∀ j ∈ kv.ownBlock.toList ++ vv.ownBlock.toList, j ∈ Q) → Own w1 b 5 1 encB kv ks → Own w1 b 5 1 encB vv vs → (∀ q ∈ vs, 0 ≤ q ∧ q ≤ 255) → u64R fl → Calls Tryz.prog 54 #[.pointer (some ⟨tb, 0, none⟩), .int .i64 i, kv, vv, .int .u64 fl] w1
    (fun e w' => e = .returned (.tuple #[.int .u64 (tput σ.V i ks vs fl).2.1, .int .i64 (tput σ.V i ks vs fl).2.2]) ∧ PRelQ Q F0 Z0 wf base w' mb { σ with V := (tput σ.V i ks vs fl).1 } ∧ ∀ q, (q ∈ Q ∨ q = mb) → ∀ o, w1.heap[q]? = some o → w'.heap[q]? = some o)) ∧
   Hid (∀ w1 i kv ks, Ext w w1 → Sl w1 .u8 kv ks → Calls Tryz.prog 174 #[.pointer (some ⟨tb, 0, none⟩), .int .i64 i, kv] w1
    (fun e w' => e = .returned (.tuple #[.int .u64 (tdrop σ.V.2 i ks).2.1, .int .i64 (tdrop σ.V.2 i ks).2.2]) ∧ PRelQ Q F0 Z0 wf base w' mb { σ with V := (σ.V.1, (tdrop σ.V.2 i ks).1) } ∧ ∀ q, (q ∈ Q ∨ q = mb) → ∀ o, w1.heap[q]? = some o → w'.heap[q]? = some o))) := by
 obtain ⟨h0, hl, l, h1, h2, h3, h4⟩ := h
 have hv := h1.view
 refine ⟨l.tb, h1.cell 24 rfl, η ?_, ⟨η ?_, η ?_⟩⟩
 ·intro w1 i kv ks he hk
  refine (tab_look base l.tb l.T i kv ks w1 (h1.tab.ext he) hk).mono ?_
  rintro e w' ⟨h, hE⟩
  rw [show (tview l.T).2 = σ.V.2 by rw [hv]] at h
  exact ⟨h, hE⟩
 ·intro w1 b i kv ks vv vs fl he hq hk hvv hu hf
  have g := h1.ext he
  have h4' : ∀ q ∈ Q, q < w1.heap.size ∧ q ∉ pfoot mb l ∧ q ∉ pfrz l := fun q hq => ⟨Nat.lt_of_lt_of_le (h4 q hq).1 he.size, (h4 q hq).2⟩
  have hnk : ∀ j, kv.ownBlock = some j → j ∉ tfoot l.tb l.T := fun j hj hj' => (h4 j (hq j (by simp [hj]))).2.1 (by simp [pfoot, hj'])
  have hnv : ∀ j, vv.ownBlock = some j → j ∉ tfoot l.tb l.T := fun j hj hj' => (h4 j (hq j (by simp [hj]))).2.1 (by simp [pfoot, hj'])
  refine (tab_put base l.tb l.T i kv vv ks vs fl w1 g.tab (hk.rd (enc_int _)) (hvv.rd (enc_int _)) hu hf.1 (η hf.2) (η fun w' k => (hvv.keep k hnv).rd (enc_int _))).mono ?_
  rintro e w' ⟨h, hk5, S', hT, hV, hfo, hrb⟩
  rw [hv] at h hV
  have := PRelQ.tabStep (Q := Q) (h0.through (F := []) (Keep.of_ext he) (fun _ hj => by cases hj)) hl g h2 h3 h4' hk5 hT hrb hfo
  rw [hV] at this
  exact ⟨h, this⟩
 ·intro w1 i kv ks he hk
  have g := h1.ext he
  have h4' : ∀ q ∈ Q, q < w1.heap.size ∧ q ∉ pfoot mb l ∧ q ∉ pfrz l := fun q hq => ⟨Nat.lt_of_lt_of_le (h4 q hq).1 he.size, (h4 q hq).2⟩
  refine (tab_drop base l.tb l.T i kv ks w1 g.tab hk).mono ?_
  rintro e w' ⟨h, hk5, S', hT, hV, hfo, hrb⟩
  rw [hv] at h hV
  have := PRelQ.tabStep (Q := Q) (h0.through (F := []) (Keep.of_ext he) (fun _ hj => by cases hj)) hl g h2 h3 h4' hk5 hT hrb (fun j hj => .inl (by rw [hfo] at hj; exact hj))
  rw [hV] at this
  exact ⟨h, this⟩
theorem PRelQ.setDraw {Q : List Nat} (h : PRelQ Q F0 Z0 wf base w mb σ) {w1 : World} (he : Ext w w1) {v : Value} {xs : List Int} (hO : Own w1 w.heap.size 29 1 (fun x => [Value.int .u64 x]) v xs) :
  PRelQ Q F0 Z0 wf base (w1.setCell ⟨mb, 26, none⟩ v) mb { σ with dr := xs } := by
 obtain ⟨h0, hl, l, h1, h2, h3, h4⟩ := h
 have g := h1.ext he
 have k : Keep [mb] w1 (w1.setCell ⟨mb, 26, none⟩ v) := (Keep.rfl' _ _).setCell (by simp) v
 have hmb : ∀ {j : Nat}, j ∈ l.cv.ownBlock.toList ++ tfoot l.tb l.T → j ∉ [mb] := fun hj e => (List.nodup_cons.1 g.apart).1 (by rw [List.mem_singleton] at e; rwa [← e])
 have hx : ∀ j ∈ pfrz l, j ∉ [mb] := fun j hj e => (g.frz j hj).1 (by rw [List.mem_singleton] at e; subst e; simp [pfoot])
 have hz : ∀ {v : Value}, (∀ j ∈ vblk v, j ∈ pfrz l) → ∀ a n c, v = .slice (some a) n c → a.block ∉ [mb] := fun hv => vblk_not fun j hj => hx j (hv j hj)
 have hvb : ∀ j ∈ vblk v, w.heap.size ≤ j ∧ j < w1.heap.size := fun j hj => by
  rw [own_vblk hO] at hj
  exact hO.lt (by simpa using hj)
 have hnf : ∀ j ∈ vblk v, j ∉ pfoot mb l := fun j hj hj' => by have := h1.lt j hj'; have := (hvb j hj).1; omega
 have hfr : ∀ j ∈ pfrz { l with drv := v }, j ∈ pfrz l ∨ j ∈ vblk v := fun j hj => by
  simp only [pfrz, List.mem_append] at hj ⊢
  rcases hj with h | h | h | h
  ·exact .inl (.inl h)
  ·exact .inl (.inr (.inl h))
  ·exact .inr h
  ·exact .inl (.inr (.inr (.inr h)))
 refine ⟨(h0.through (F := []) (Keep.of_ext he) (fun _ hj => by cases hj)).through k (fun j hj => by rw [List.mem_singleton] at hj; subst hj; exact h2 _ (by simp [pfoot])), hl, { l with drv := v }, ?_, h2, fun j hj => ?_, fun q hq => ⟨Nat.lt_of_lt_of_le (h4 q hq).1 (Nat.le_trans he.size k.size), (h4 q hq).2.1, fun hj => ?_⟩⟩
 ·refine ⟨?_, g.low, g.tab.keep k (fun j hj => hmb (by simp [hj])), g.view, g.calls.keep k (fun j hj => hmb (by simp [hj])), g.cls, fun c hc => ⟨?_, ?_, ?_⟩, ?_, ?_, ?_, g.apart, fun j hj => ?_⟩
  ·have := heap_setCell_same w1 mb 26 _ _ v g.head
   rw [this]
   simp [pCells]
  ·exact (g.callS c hc).1.keep k (hz fun j hj => mem_kvP (l := l) (c := c) hc (j := j) (by simp [hj]))
  ·exact (g.callS c hc).2.1.keep k (hz fun j hj => mem_kvP (l := l) (c := c) hc (j := j) (by simp [hj]))
  ·exact (g.callS c hc).2.2.keep k (hz fun j hj => mem_kvP (l := l) (c := c) hc (j := j) (by simp [hj]))
  ·exact g.code.keepF k (fun j hj => hx j (by simp [pfrz, hj]))
  ·exact g.defs.keepF k (fun j hj => hx j (by simp [pfrz, hj]))
  ·exact (hO.keep k (fun j hj e => hnf j (by rw [own_vblk hO]; simp [hj]) (by rw [List.mem_singleton] at e; subst e; simp [pfoot]))).rd (enc_int _)
  ·rcases hfr j hj with h | h
   ·exact ⟨(g.frz j h).1, Nat.lt_of_lt_of_le (g.frz j h).2 k.size⟩
   ·exact ⟨hnf j h, Nat.lt_of_lt_of_le (hvb j h).2 k.size⟩
 ·rcases hfr j hj with h | h
  ·exact h3 j h
  ·exact .inr (Nat.le_trans h0.size (hvb j h).1)
 ·rcases hfr q hj with h | h
  ·exact (h4 q hq).2.2 h
  ·have := (h4 q hq).1; have := (hvb q h).1; omega
theorem PRelQ.push (h0 : Keep F0 wf w) (hl : base ≤ wf.heap.size) (g : PAt w base mb σ l) (h2 : ∀ j ∈ pfoot mb l, j ∈ F0 ∨ wf.heap.size ≤ j) (h3 : ∀ j ∈ pfrz l, j ∈ Z0 ∨ wf.heap.size ≤ j) {Q : List Nat} (h4 : ∀ q ∈ Q, q < w.heap.size ∧ q ∉ pfoot mb l ∧ q ∉ pfrz l)
  {x : CB} (hx : ∀ j ∈ vblk x.kv ++ (vblk x.vv ++ vblk x.nv), j ∈ Q ∧ wf.heap.size ≤ j) (hs : Sl w .u8 x.kv x.c.key ∧ Sl w .u8 x.vv x.c.val ∧ Sl w .u64 x.nv x.c.n) {w5 : World} {v : Value} (k : Keep l.cv.ownBlock.toList w w5)
  (hO : Own w5 base 76 6 CB.enc v (l.cs ++ [x])) (hm : ∀ j, v.ownBlock = some j → l.cv.ownBlock = some j ∨ w.heap.size ≤ j) :
  PRel F0 Z0 wf base (w5.setCell ⟨mb, 31, none⟩ v) mb { σ with calls := σ.calls ++ [x.c] } ∧ ∀ q ∈ Q, ∀ o, w.heap[q]? = some o → (w5.setCell ⟨mb, 31, none⟩ v).heap[q]? = some o := by
 have n0 := List.nodup_cons.1 g.apart
 have n1 := List.nodup_append.1 n0.2
 have k2 : Keep [mb] w5 (w5.setCell ⟨mb, 31, none⟩ v) := (Keep.rfl' _ _).setCell (by simp) v
 have hlt := g.lt
 have kk : Keep (mb :: l.cv.ownBlock.toList) w (w5.setCell ⟨mb, 31, none⟩ v) := (k.mono fun j hj => .inl (List.mem_cons_of_mem _ hj)).trans (k2.mono fun j hj => .inl (by rw [List.mem_singleton] at hj; subst hj; exact List.mem_cons_self))
 have hrt : ∀ j ∈ tfoot l.tb l.T, j ∉ mb :: l.cv.ownBlock.toList := fun j hj hj' => by
  rcases List.mem_cons.1 hj' with rfl | hj'
  ·exact n0.1 (List.mem_append_right _ hj)
  ·exact n1.2.2 j hj' j hj rfl
 have hcv : ∀ j ∈ mb :: l.cv.ownBlock.toList, j ∈ pfoot mb l := fun j hj => by
  rcases List.mem_cons.1 hj with rfl | hj
  ·simp [pfoot]
  ·simp only [pfoot, List.mem_cons, List.mem_append]; exact .inr (.inl hj)
 have hxx : ∀ j ∈ pfrz l, j ∉ mb :: l.cv.ownBlock.toList := fun j hj e => (g.frz j hj).1 (hcv j e)
 have hz : ∀ {v : Value}, (∀ j ∈ vblk v, j ∈ pfrz l) → ∀ a n c, v = .slice (some a) n c → a.block ∉ mb :: l.cv.ownBlock.toList := fun hv => vblk_not fun j hj => hxx j (hv j hj)
 have hzx : ∀ {v : Value}, (∀ j ∈ vblk v, j ∈ vblk x.kv ++ (vblk x.vv ++ vblk x.nv)) → ∀ a n c, v = .slice (some a) n c → a.block ∉ mb :: l.cv.ownBlock.toList := fun hv => vblk_not fun j hj e => (h4 j (hx j (hv j hj)).1).2.1 (hcv j e)
 have hvm : ∀ j, v.ownBlock = some j → j ≠ mb ∧ j ∉ tfoot l.tb l.T ∧ (j ∈ pfoot mb l ∨ w.heap.size ≤ j) := fun j hj => by
  rcases hm j hj with h | h
  ·exact ⟨fun e => by subst e; exact n0.1 (List.mem_append_left _ (by simp [h])), fun e => n1.2.2 j (by simp [h]) j e rfl, .inl (hcv j (by simp [h]))⟩
  ·exact ⟨fun e => by have := heap_lt g.head; omega, fun e => by have := g.tab.lt j e; omega, .inr h⟩
 have hft : ∀ j ∈ pfoot mb { l with cv := v, cs := l.cs ++ [x] }, j ∈ pfoot mb l ∨ w.heap.size ≤ j := fun j hj => by
  simp only [pfoot, List.mem_cons, List.mem_append] at hj ⊢
  rcases hj with h | h | h
  ·exact .inl (.inl h)
  ·have := (hvm j (by simpa using h)).2.2
   simpa only [pfoot, List.mem_cons, List.mem_append] using this
  ·exact .inl (.inr (.inr h))
 have hfr : ∀ j ∈ pfrz { l with cv := v, cs := l.cs ++ [x] }, j ∈ pfrz l ∨ j ∈ vblk x.kv ++ (vblk x.vv ++ vblk x.nv) := fun j hj => by
  simp only [pfrz, List.flatMap_append, List.mem_append, List.flatMap_cons, List.flatMap_nil, List.append_nil] at hj ⊢
  rcases hj with h | h | h | h | h
  ·exact .inl (.inl h)
  ·exact .inl (.inr (.inl h))
  ·exact .inl (.inr (.inr (.inl h)))
  ·exact .inl (.inr (.inr (.inr h)))
  ·exact .inr h
 have hap : ∀ j ∈ pfrz { l with cv := v, cs := l.cs ++ [x] }, j ∉ pfoot mb { l with cv := v, cs := l.cs ++ [x] } ∧ j < w.heap.size := fun j hj => by
  rcases hfr j hj with h | h
  ·exact ⟨fun h' => (hft j h').elim (g.frz j h).1 (fun h'' => by have := (g.frz j h).2; omega), (g.frz j h).2⟩
  ·have := h4 j (hx j h).1
   exact ⟨fun h' => (hft j h').elim this.2.1 (fun h'' => by have := this.1; omega), this.1⟩
 refine ⟨⟨h0.through kk (fun j hj => h2 j (hcv j hj)), hl, { l with cv := v, cs := l.cs ++ [x] }, ?_, fun j hj => (hft j hj).elim (h2 j) (fun h => .inr (Nat.le_trans h0.size h)), fun j hj => (hfr j hj).elim (h3 j) (fun h => .inr (hx j h).2)⟩, fun q hq o ho => kk.obj ho (fun hj => (h4 q hq).2.1 (hcv q hj))⟩
 refine ⟨?_, g.low, g.tab.keep kk hrt, g.view, hO.keep k2 (fun j hj e => (hvm j hj).1 (by simpa using e)), by simp [g.cls], fun c hc => ?_, g.code.keepF kk (fun j hj => hxx j (by simp [pfrz, hj])), g.defs.keepF kk (fun j hj => hxx j (by simp [pfrz, hj])), g.draws.keep kk (hz fun j hj => by simp [pfrz, hj]), ?_, fun j hj => ⟨(hap j hj).1, Nat.lt_of_lt_of_le (hap j hj).2 kk.size⟩⟩
 ·have := heap_setCell_same w5 mb 31 _ _ v (k.obj g.head (fun hj => n0.1 (List.mem_append_left _ hj)))
  rw [this]
  simp [pCells]
 ·rcases List.mem_append.1 hc with hc | hc
  ·exact ⟨(g.callS c hc).1.keep kk (hz fun j hj => mem_kvP hc (by simp [hj])), (g.callS c hc).2.1.keep kk (hz fun j hj => mem_kvP hc (by simp [hj])), (g.callS c hc).2.2.keep kk (hz fun j hj => mem_kvP hc (by simp [hj]))⟩
  ·rw [List.mem_singleton] at hc
   subst hc
   exact ⟨hs.1.keep kk (hzx fun j hj => by simp [hj]), hs.2.1.keep kk (hzx fun j hj => by simp [hj]), hs.2.2.keep kk (hzx fun j hj => by simp [hj])⟩
 ·simp only [pfoot]
  rw [List.nodup_cons, List.nodup_append]
  refine ⟨fun hj => ?_, by cases v.ownBlock <;> simp, n1.2.1, fun a ha b hb e => ?_⟩
  ·rcases List.mem_append.1 hj with hj | hj
   ·exact (hvm mb (by simpa using hj)).1 rfl
   ·exact n0.1 (List.mem_append_right _ hj)
  ·subst e
   exact (hvm a (by simpa using ha)).2.1 hb
end
end Go.Proofs.YtppefchjoodgnaaGreat
