/- What the claim leans on: MsI. -/
import Derived.Test.YtppefchjoodgnaaGreatPL29
import Derived.Test.YtppefchjoodgnaaGreatPL33
import Derived.Deep.LoopGhost
namespace Go.Proofs.YtppefchjoodgnaaGreat
open Go.RowKit
set_option linter.unusedVariables false
set_option linter.unusedSimpArgs false
structure EV where
 code : Int
 at_ : Int
 r0 : Int
 steps : Int
 calls : List Cl
 maps : List (List (ByteArray × List Int))
def RS.codeV (τ : RS) : Int := if τ.over then τ.code else 111
def RS.endV (τ : RS) : EV := ⟨τ.codeV, τ.place, if τ.codeV = 0 then τ.R 0 else 0, τ.steps, τ.calls, (List.range τ.D.length).map (fun i : Nat => ritems τ.V (i : Int))⟩
structure SV where
 a : Option Addr
 n : Nat
 c : Nat
def SV.v (x : SV) : Value := .slice x.a x.n x.c
abbrev encW : SV → List Value := fun x => [x.v]
theorem enc_w : Enc 1 encW := ⟨fun _ => rfl, fun x u hu => by
 simp only [List.mem_singleton] at hu
 subst hu; rfl⟩
def ERd (u : World) (e : EV) (cv mv : Value) : Prop :=
 ∃ cs rows, Rd u 6 CB.enc cv cs ∧ cs.map (·.c) = e.calls ∧ (∀ c ∈ cs, Sl u .u8 c.kv c.c.key ∧ Sl u .u8 c.vv c.c.val ∧ Sl u .u64 c.nv c.c.n) ∧ Rd u 1 encW mv rows ∧ rows.length = e.maps.length ∧ ∀ (i : Nat) row l, rows[i]? = some row → e.maps[i]? = some l → IsItems u row.v l
def EndR (F0 Z0 : List Nat) (wf w : World) (e : EV) (cv mv : Value) : Prop := ∀ F u, (∀ q ∈ F, q ∉ F0 ∧ q ∉ Z0 ∧ q < wf.heap.size) → Keep F w u → ERd u e cv mv
def RunA (F0 Z0 : List Nat) (wf : World) (base mb : Nat) (τ : RS) (e : Ending) (w' : World) : Prop :=
 ∃ cv mv, e = .returned (.agg #[.int .i64 τ.endV.code, .int .i64 τ.endV.at_, .int .u64 τ.endV.r0, .int .i64 τ.endV.steps, cv, mv]) ∧ MRel F0 Z0 wf base w' mb τ ∧ EndR F0 Z0 wf w' τ.endV cv mv
section
variable {F0 Z0 : List Nat} {wf w w' : World} {base mb : Nat} {σ : RS} {l : RLay}
theorem MRel.root (h : MRel F0 Z0 wf base w mb σ) : ∃ F Z, (∀ j ∈ F, j < w.heap.size) ∧ (∀ j ∈ Z, j < w.heap.size) ∧ mb ∈ F ∧ (∀ w1, Ext w w1 → MRel F Z w1 base w1 mb σ) ∧ (∀ w1 w2 σ2 Q, Ext w w1 → (∀ q ∈ Q, w.heap.size ≤ q ∧ q < w1.heap.size) → MRel F Z w1 base w2 mb σ2 → MRelQ Q F0 Z0 wf base w2 mb σ2) := by
 obtain ⟨h0, hl, l, h1, h2, h3⟩ := h
 refine ⟨mfoot mb l, mfrz l, h1.lt, fun j hj => (h1.frz j hj).2, by simp [mfoot], fun w1 he => ⟨Keep.rfl' _ _, Nat.le_trans hl (Nat.le_trans h0.size he.size), l, h1.ext he, fun j hj => .inl hj, fun j hj => .inl hj⟩, ?_⟩
 rintro w1 w2 σ2 Q he hQ ⟨k0, kl, l2, k1, k2, k3⟩
 have hs : wf.heap.size ≤ w1.heap.size := Nat.le_trans h0.size he.size
 refine ⟨(h0.through (F := []) (Keep.of_ext he) (fun _ hj => by cases hj)).through k0 h2, hl, l2, k1, fun j hj => ?_, fun j hj => ?_, fun q hq => ⟨Nat.lt_of_lt_of_le (hQ q hq).2 k0.size, fun hj => ?_, fun hj => ?_⟩⟩
 ·exact (k2 j hj).elim (h2 j) (fun h => .inr (Nat.le_trans hs h))
 ·exact (k3 j hj).elim (h3 j) (fun h => .inr (Nat.le_trans hs h))
 ·have := hQ q hq
  exact (k2 q hj).elim (fun h => by have := h1.lt q h; omega) (fun h => by omega)
 ·have := hQ q hq
  exact (k3 q hj).elim (fun h => by have := (h1.frz q h).2; omega) (fun h => by omega)
theorem iter_over : ∀ (n : Nat) (σ : RS), σ.over = true → RS.iter n σ = σ
 | 0, σ, h => rfl
 | n + 1, σ, h => by rw [RS.iter, if_pos h]
theorem step_steps (h : σ.over = false) (hi : σ.Inv) : σ.step.1.over = true ∨ σ.step.1.steps = σ.steps + 1 := by
 obtain ⟨x, hon⟩ := hi.on
 unfold RS.step
 rw [if_neg (by rw [h]; decide), hon.code]
 simp only
 by_cases he : (σ.does x (whatZ x)).2.2 ≠ 0
 ·rw [if_pos he]; exact .inl rfl
 ·rw [if_neg he]; right; show (σ.does x (whatZ x)).1.steps + 1 = _; rw [does_steps]
theorem step_mono (hi : σ.Inv) : σ.steps ≤ σ.step.1.steps := by
 obtain ⟨x, hon⟩ := hi.on
 unfold RS.step
 by_cases h : σ.over = true
 ·rw [if_pos h]; exact Int.le_refl _
 rw [if_neg h, hon.code]
 simp only
 by_cases he : (σ.does x (whatZ x)).2.2 ≠ 0
 ·rw [if_pos he]; show σ.steps ≤ (σ.does x (whatZ x)).1.steps; rw [does_steps]; exact Int.le_refl _
 ·rw [if_neg he]; show σ.steps ≤ (σ.does x (whatZ x)).1.steps + 1; rw [does_steps]; omega
theorem run_stop {fuel : Int} (h : σ.over = true ∨ fuel ≤ σ.steps) : σ.run fuel = σ := by
 unfold RS.run
 rcases h with h | h
 ·exact iter_over _ _ h
 ·rw [show (fuel - σ.steps).toNat = 0 by omega]; rfl
theorem run_step {fuel : Int} (h : σ.over = false) (hs : σ.steps < fuel) (hi : σ.Inv) : σ.step.1.run fuel = σ.run fuel := by
 obtain ⟨n, hn⟩ : ∃ n, (fuel - σ.steps).toNat = n + 1 := ⟨(fuel - σ.steps).toNat - 1, by omega⟩
 have e : σ.run fuel = RS.iter n σ.step.1 := by rw [RS.run, hn, RS.iter, if_neg (by rw [h]; decide)]
 rw [e]
 rcases step_steps h hi with h1 | h1
 ·rw [run_stop (.inl h1), iter_over _ _ h1]
 ·rw [RS.run, h1, show (fuel - (σ.steps + 1)).toNat = n by omega]
abbrev endZ : Obj := .cells #[.int .i64 0, .int .i64 0, .int .u64 0, .int .i64 0, .slice none 0 0, .slice none 0 0] 45
abbrev outObj (a b c d cv mv : Value) : Obj := .cells #[a, b, c, d, cv, mv] 45 (0, 0)
theorem el_itemrows : El Tryz.prog 25 34 1 24 (.slice none 0 0) := ⟨Tryz.underlying25, by kernel_rfl, rfl, by decide, fun _ => by kernel_rfl⟩
def RowsAt (q : Nat) (mv : Value) (wr : World) (rows : List SV) (f : Nat → List (ByteArray × List Int)) : Prop :=
 ∀ (j : Nat) row, rows[j]? = some row → ∃ A B, q < A ∧ B ≤ wr.heap.size ∧ (∀ x, mv.ownBlock = some x → x < A ∨ B ≤ x) ∧ ∀ F u, (∀ x ∈ F, x < A ∨ B ≤ x) → Keep F wr u → IsItems u row.v (f j)
theorem RowsAt.ext {q : Nat} {mv : Value} {wr wr' : World} {rows : List SV} {f : Nat → List (ByteArray × List Int)} (h : RowsAt q mv wr rows f) (he : Ext wr wr') : RowsAt q mv wr' rows f := fun j row hj => by
 obtain ⟨A, B, h1, h2, h3, h4⟩ := h j row hj
 exact ⟨A, B, h1, Nat.le_trans h2 he.size, h3, fun F u hF k => h4 F u hF ((Keep.of_ext he).trans k)⟩
theorem RowsAt.next {q : Nat} {mv mv' : Value} {wr wI w5 w8 : World} {rows : List SV} {f : Nat → List (ByteArray × List Int)} {r : SV} {I : List IT} (h : RowsAt q mv wr rows f) (hm : ∀ x, mv.ownBlock = some x → x < wr.heap.size) (hq : q < wr.heap.size) (hI : Ext wr wI)
  (hO : Own w5 wI.heap.size 36 2 IT.enc r.v I) (hS : ∀ y ∈ I, ∀ F u, (∀ q ∈ F, q < wI.heap.size ∨ q ∈ r.v.ownBlock.toList) → Keep F w5 u → Sl u .u8 y.kv y.key ∧ Sl u .u8 y.vv y.val) (hl : I.map (fun x => (strOfNums x.key, x.val)) = f rows.length) (h5 : Ext wI w5)
  (k8 : Keep mv.ownBlock.toList w5 w8) (hmv : ∀ x, mv'.ownBlock = some x → mv.ownBlock = some x ∨ w5.heap.size ≤ x) (i : Nat) (z : Value) : RowsAt q mv' (w8.setCell ⟨q, i, none⟩ z) (rows ++ [r]) f := by
 have k9 : Keep [q] w8 (w8.setCell ⟨q, i, none⟩ z) := (Keep.rfl' _ _).setCell (by simp) z
 have kq : Keep (q :: mv.ownBlock.toList) w5 (w8.setCell ⟨q, i, none⟩ z) := (k8.mono fun x hx => .inl (List.mem_cons_of_mem _ hx)).trans (k9.mono fun x hx => .inl (by rw [List.mem_singleton] at hx; subst hx; exact List.mem_cons_self))
 have s1 := hI.size
 have s2 := h5.size
 have s3 := kq.size
 intro j row hj
 by_cases hjr : j < rows.length
 ·rw [List.getElem?_append_left hjr] at hj
  obtain ⟨A, B, h1, h2, h3, h4⟩ := h j row hj
  refine ⟨A, B, h1, by omega, fun x hx => ?_, fun F u hF k => h4 ((q :: mv.ownBlock.toList) ++ F) u (fun x hx => ?_) ?_⟩
  ·rcases hmv x hx with hx | hx
   ·exact h3 x hx
   ·exact .inr (by omega)
  ·rcases List.mem_append.1 hx with hx | hx
   ·rcases List.mem_cons.1 hx with rfl | hx
    ·exact .inl h1
    ·exact h3 x (by simpa using hx)
   ·exact hF x hx
  ·exact ((Keep.of_ext (hI.trans' h5)).trans (kq.mono fun x hx => .inl (List.mem_append_left _ hx))).trans (k.mono fun x hx => .inl (List.mem_append_right _ hx))
 ·have hj2 : j = rows.length := by
   have := (List.getElem?_eq_some_iff.1 hj).1
   rw [List.length_append, List.length_singleton] at this
   omega
  subst hj2
  rw [List.getElem?_append_right (Nat.le_refl _), Nat.sub_self] at hj
  obtain rfl : r = row := by simpa using hj
  refine ⟨wI.heap.size, w5.heap.size, by omega, by omega, fun x hx => ?_, fun F u hF k => ?_⟩
  ·rcases hmv x hx with hx | hx
   ·exact .inl (by have := hm x hx; omega)
   ·exact .inr hx
  ·have ku : Keep ((q :: mv.ownBlock.toList) ++ F) w5 u := (kq.mono fun x hx => .inl (List.mem_append_left _ hx)).trans (k.mono fun x hx => .inl (List.mem_append_right _ hx))
   have hlow : ∀ x ∈ (q :: mv.ownBlock.toList) ++ F, x < wI.heap.size ∨ w5.heap.size ≤ x := fun x hx => by
    rcases List.mem_append.1 hx with hx | hx
    ·rcases List.mem_cons.1 hx with rfl | hx
     ·exact .inl (by omega)
     ·exact .inl (by have := hm x (by simpa using hx); omega)
    ·exact hF x hx
   have ku2 : Keep (((q :: mv.ownBlock.toList) ++ F).filter fun x => decide (x < wI.heap.size)) w5 u := (Keep.rfl' _ w5).through ku (fun x hx => (hlow x hx).elim (fun h => .inl (List.mem_filter.2 ⟨hx, by simpa using h⟩)) .inr)
   have hfl : ∀ x ∈ ((q :: mv.ownBlock.toList) ++ F).filter (fun x => decide (x < wI.heap.size)), x < wI.heap.size := fun x hx => by simpa using (List.mem_filter.1 hx).2
   refine ⟨I, (hO.keep ku2 (fun x hx hx' => by have := hfl x hx'; have := (hO.lt hx).1; omega)).rd enc_it, fun y hy => hS y hy _ u (fun x hx => .inl (hfl x hx)) ku2, hl⟩
theorem MRelQ.chain6 {Q : List Nat} (h : MRelQ Q F0 Z0 wf base w mb σ) {q : Nat} (hq : q ∈ Q) (hw : wf.heap.size ≤ q) (v0 v1 v2 v3 v4 v5 : Value) : MRelQ Q F0 Z0 wf base ((((((w.setCell ⟨q, 0, none⟩ v0).setCell ⟨q, 1, none⟩ v1).setCell ⟨q, 2, none⟩ v2).setCell ⟨q, 3, none⟩ v3).setCell ⟨q, 4, none⟩ v4).setCell ⟨q, 5, none⟩ v5) mb σ :=
 (((((h.box hq hw 0 v0).box hq hw 1 v1).box hq hw 2 v2).box hq hw 3 v3).box hq hw 4 v4).box hq hw 5 v5
theorem endR_of (h : MRel F0 Z0 wf base w mb σ) {cv mv : Value} {rows : List SV} {q B : Nat} (hcv : w.cell? ⟨mb, 31, none⟩ = some cv) (hO : Own w B 34 1 encW mv rows) (hB : wf.heap.size ≤ B) (hq : wf.heap.size ≤ q) (hR : RowsAt q mv w rows (fun i => ritems σ.V (i : Int))) (hl : rows.length = σ.D.length) : EndR F0 Z0 wf w σ.endV cv mv := by
 intro F u hF k
 obtain ⟨h0, hl0, l, h1, h2, h3⟩ := h
 have hcv2 : l.cv = cv := by have := h1.cell 31 rfl; rw [this] at hcv; exact Option.some.inj hcv
 subst hcv2
 have hz : ∀ {v : Value}, (∀ j ∈ vblk v, j ∈ mfrz l) → ∀ a n c, v = .slice (some a) n c → a.block ∉ F := fun hv => vblk_not fun j hj e => by
  have := hF j e
  exact (h3 j (hv j hj)).elim this.2.1 (fun h => by omega)
 refine ⟨l.cs, rows, (h1.calls.keep k (fun j hj e => ?_)).rd enc_cb, h1.cls, fun c hc => ⟨(h1.callS c hc).1.keep k (hz fun j hj => mem_kv hc (by simp [hj])), (h1.callS c hc).2.1.keep k (hz fun j hj => mem_kv hc (by simp [hj])), (h1.callS c hc).2.2.keep k (hz fun j hj => mem_kv hc (by simp [hj]))⟩, (hO.keep k (fun j hj e => ?_)).rd enc_w, by simp [RS.endV, hl], fun i row f hi hf => ?_⟩
 ·have := hF j e
  exact (h2 j (by simp [mfoot, hj])).elim this.1 (fun h => by omega)
 ·have := hF j e
  have := (hO.lt hj).1
  omega
 ·obtain ⟨A, B', g1, g2, g3, g4⟩ := hR i row hi
  have e1 : f = ritems σ.V (i : Int) := by
   simp only [RS.endV] at hf
   rw [List.getElem?_map] at hf
   have hi2 : i < σ.D.length := by rw [← hl]; exact (List.getElem?_eq_some_iff.1 hi).1
   rw [List.getElem?_range hi2] at hf
   exact (Option.some.inj hf).symm
  rw [e1]
  exact g4 F u (fun x hx => .inl (by have := (hF x hx).2.2; omega)) k
theorem MRel.items (h : MRel F0 Z0 wf base w mb σ) (hi : ∀ t ∈ σ.V.2, TabOk t) : ∃ tb, w.cell? ⟨mb, 24, none⟩ = some (.pointer (some ⟨tb, 0, none⟩)) ∧ Hid (∀ W i, Ext w W → Calls Tryz.prog 39 #[.pointer (some ⟨tb, 0, none⟩), .int .i64 i] W (ItemsO (ritems σ.V i) W)) := by
 obtain ⟨h0, hl, l, h1, h2, h3⟩ := h
 refine ⟨l.tb, h1.cell 24 rfl, η fun W i he => ?_⟩
 have := rtab_items2 base l.tb l.T i W (h1.tab.ext he) (η fun x hx => by
  have hT := hi x.T (by rw [← h1.view]; exact List.mem_map.2 ⟨x, hx, rfl⟩)
  have := hT.few
  have := hT.max
  exact ⟨by omega, hT.keys⟩)
 rw [h1.view] at this
 exact this
theorem chain6_cell {q : Nat} {a : Addr} (w : World) (h : a.block ≠ q) (v0 v1 v2 v3 v4 v5 : Value) : ((((((w.setCell ⟨q, 0, none⟩ v0).setCell ⟨q, 1, none⟩ v1).setCell ⟨q, 2, none⟩ v2).setCell ⟨q, 3, none⟩ v3).setCell ⟨q, 4, none⟩ v4).setCell ⟨q, 5, none⟩ v5).cell? a = w.cell? a := by
 rw [cell?_setCell_ne_block _ _ _ _ h, cell?_setCell_ne_block _ _ _ _ h, cell?_setCell_ne_block _ _ _ _ h, cell?_setCell_ne_block _ _ _ _ h, cell?_setCell_ne_block _ _ _ _ h, cell?_setCell_ne_block _ _ _ _ h]
theorem Own.chain6 {α : Type} {w : World} {base : Nat} {e : TypeId} {sz : Nat} {enc : α → List Value} {v : Value} {xs : List α} (h : Own w base e sz enc v xs) {b : Nat} (hb : b < base) (v0 v1 v2 v3 v4 v5 : Value) : Own ((((((w.setCell ⟨b, 0, none⟩ v0).setCell ⟨b, 1, none⟩ v1).setCell ⟨b, 2, none⟩ v2).setCell ⟨b, 3, none⟩ v3).setCell ⟨b, 4, none⟩ v4).setCell ⟨b, 5, none⟩ v5) base e sz enc v xs :=
 (((((h.other hb _).other hb _).other hb _).other hb _).other hb _).other hb _
theorem RowsAt.set {q x : Nat} {mv : Value} {wr : World} {rows : List SV} {f : Nat → List (ByteArray × List Int)} (h : RowsAt q mv wr rows f) (hx : x ≤ q) (i : Nat) (z : Value) : RowsAt q mv (wr.setCell ⟨x, i, none⟩ z) rows f := fun j row hj => by
 obtain ⟨A, B, h1, h2, h3, h4⟩ := h j row hj
 have k9 : Keep [x] wr (wr.setCell ⟨x, i, none⟩ z) := (Keep.rfl' _ _).setCell (by simp) z
 exact ⟨A, B, h1, Nat.le_trans h2 k9.size, h3, fun F u hF k => h4 ([x] ++ F) u (fun y hy => by
  rcases List.mem_append.1 hy with hy | hy
  ·rw [List.mem_singleton] at hy; subst hy; exact .inl (by omega)
  ·exact hF y hy) ((k9.mono fun y hy => .inl (List.mem_append_left _ hy)).trans (k.mono fun y hy => .inl (List.mem_append_right _ hy)))⟩
theorem RowsAt.chain6 {q x : Nat} {mv : Value} {wr : World} {rows : List SV} {f : Nat → List (ByteArray × List Int)} (h : RowsAt q mv wr rows f) (hx : x ≤ q) (v0 v1 v2 v3 v4 v5 : Value) : RowsAt q mv ((((((wr.setCell ⟨x, 0, none⟩ v0).setCell ⟨x, 1, none⟩ v1).setCell ⟨x, 2, none⟩ v2).setCell ⟨x, 3, none⟩ v3).setCell ⟨x, 4, none⟩ v4).setCell ⟨x, 5, none⟩ v5) rows f :=
 (((((h.set hx _ _).set hx _ _).set hx _ _).set hx _ _).set hx _ _).set hx _ _
theorem set6_same {w : World} {B : Nat} {t : TypeId} {a0 a1 a2 a3 a4 a5 : Value} (h : w.heap[B]? = some (.cells #[a0, a1, a2, a3, a4, a5] t (0, 0))) (v0 v1 v2 v3 v4 v5 : Value) :
  ((((((w.setCell ⟨B, 0, none⟩ v0).setCell ⟨B, 1, none⟩ v1).setCell ⟨B, 2, none⟩ v2).setCell ⟨B, 3, none⟩ v3).setCell ⟨B, 4, none⟩ v4).setCell ⟨B, 5, none⟩ v5).heap[B]? = some (.cells #[v0, v1, v2, v3, v4, v5] t (0, 0)) :=
 (setc6 (w0 := { w with heap := #[] }) h ⟨rfl, rfl, rfl, Nat.zero_le _, fun k hk => absurd hk (Nat.not_lt_zero _)⟩ (Nat.zero_le _) v0 v1 v2 v3 v4 v5).1
set_option maxRecDepth 20000 in
set_option maxHeartbeats 20000000 in
theorem m_Run (fuel : Int) (h : MRel F0 Z0 wf base w mb σ) (hi : σ.Inv) (hf : fuel ≤ 1000000) (hD : σ.D.length ≤ 1000000) :
  Calls Tryz.prog 14 #[.pointer (some ⟨mb, 0, none⟩), .int .i64 fuel] w (RunA F0 Z0 wf base mb (σ.run fuel)) := by
 have HM0 := η h
 have HI := η hi
 have hlt := h.lt
 have hsz := h.keep.size
 obtain ⟨F, Z, hF, hZ, hmbF, hroot, hback⟩ := h.root
 have HF := η hF
 have HBACK := η hback
 have HM := η (hroot (w.alloc endZ) ((Ext.rfl' w).alloc' _))
 have HRB : Hid (∀ u σ', MRel F Z (w.alloc endZ) base u mb σ' → u.heap[w.heap.size]? = some endZ ∧ w.heap.size + 1 ≤ u.heap.size) := η (fun u σ' hu => ⟨hu.keep.obj (obj_top w endZ rfl) (fun hq => by have := hF _ hq; omega), by have := hu.keep.size; simpa using this⟩)
 clear h hi hF hback hroot hmbF
 go_enter Tryz.func14, Tryz.ntmps14
 go_wp2_with fail
 go_loopg [7] ((fuel - σ.steps).toNat + 1) (fun gk s7 wr => ∃ σ', Hid (MRel F Z (w.alloc endZ) base wr mb σ' ∧ σ'.Inv ∧ σ'.run fuel = σ.run fuel ∧ (fuel - σ'.steps).toNat + (if σ'.over then 0 else 1) ≤ gk ∧ σ'.D = σ.D))
 case atStart => exact ⟨σ, η ⟨HM.out, HI.out, rfl, by split <;> omega, rfl⟩⟩
 case round =>
  obtain ⟨σ', HR⟩ := hrel
  obtain ⟨hM, hI, hrun, hgk, hDD⟩ := HR.out
  have hdn8 : Hid (σ'.D.length ≤ 1000000) := η (by rw [hDD]; exact hD)
  have HDD := η hDD
  clear hDD
  have HM1 := η hM
  have HI1 := η hI
  have HRUN := η hrun
  have HGK := η hgk
  have hbu := η hM.u8
  obtain ⟨hres, hws⟩ := HRB.out _ _ hM
  obtain ⟨h0, hl, l, g1, g2, g3⟩ := hM
  have c28 := g1.cell 28 rfl
  have c30 := g1.cell 30 rfl
  have hmb := heap_lt g1.head
  have HRES := η hres
  clear h0 hl g1 g2 g3 hI hrun hgk HR hres
  cases hov : σ'.over
  ·rw [hov] at c28
   by_cases hst : σ'.steps < fuel
   ·have HOV := η hov
    have HST := η hst
    go_wp2_with fail
    refine (m_Step HM1.out (HI1.out.good (by omega)) (fun _ => ⟨_, HI1.out.on⟩)).mono ?_
    rintro e w3 ⟨rfl, hM3⟩
    have HM3 := η hM3
    have HINV := η (HI1.out.step hbu.out).1
    have HD2 := η ((HI1.out.step hbu.out).2.2.trans HDD.out)
    have HSS := η (step_steps HOV.out HI1.out)
    have hg1 : (fuel - σ'.steps).toNat + 1 ≤ gk := by have := HGK.out; rw [HOV.out] at this; simpa using this
    have HG2 : Hid ((fuel - σ'.step.1.steps).toNat + (if σ'.step.1.over then 0 else 1) ≤ gk - 1) := η (by
     rcases HSS.out with h1 | h1
     ·rw [h1, if_pos rfl]
      have h2 : σ'.steps ≤ σ'.step.1.steps := step_mono HI1.out
      omega
     ·rw [h1]
      split <;> omega)
    clear hM3 hov hst
    go_wp2_with fail
    go_roundg (gk - 1)
    case measure => omega
    case rel => exact ⟨σ'.step.1, η ⟨HM3.out, HINV.out, (run_step HOV.out HST.out HI1.out).trans HRUN.out, HG2.out, HD2.out⟩⟩
   ·have HT : Hid (σ.run fuel = σ') := η (HRUN.out.symm.trans (run_stop (.inr (by omega))))
    have HOV := η hov
    have HM5 := HM1
    obtain ⟨tb, ct, HIT⟩ := HM1.out.items HI1.out.core.tab
    obtain ⟨h0, hl, l, g1, g2, g3⟩ := HM1.out
    obtain ⟨ca, cn, cc, hcv, hcn, hCN⟩ := (g1.calls.rd enc_cb).val
    obtain ⟨da, dn, dc, hdv, hdn, hDN⟩ := g1.defs.val
    have hv31 : wr.cell? ⟨mb, 31, none⟩ = some (.slice ca cn cc) := by have := g1.cell 31 rfl; rw [hcv] at this; exact this
    have hv25 : wr.cell? ⟨mb, 25, none⟩ = some (.slice da dn dc) := by have := g1.cell 25 rfl; rw [hdv] at this; exact this
    have hv29 := g1.cell 29 rfl
    have hv27 := g1.cell 27 rfl
    have hv30 := g1.cell 30 rfl
    have hv1 := g1.cell 1 rfl
    have HC25 := η (fun W (he : Ext wr W) => he.cellOf hv25)
    have HC24 := η (fun W (he : Ext wr W) => he.cellOf ct)
    have HC28 := η (fun W (he : Ext wr W) => he.cellOf c28)
    have HC1 := η (fun W (he : Ext wr W) => he.cellOf hv1)
    have HC31 := η (fun W (he : Ext wr W) => he.cellOf hv31)
    have HS4 : Hid (∀ w', Ext wr w' → w'.cell? ⟨mb, 29, none⟩ = some (.int .i64 σ'.code) ∧ w'.cell? ⟨mb, 27, none⟩ = some (.int .i64 σ'.place) ∧ w'.cell? ⟨mb, 30, none⟩ = some (.int .i64 σ'.steps) ∧ w'.cell? ⟨mb, 31, none⟩ = some (.slice ca cn cc)) := η (fun w' he => ⟨he.cellOf hv29, he.cellOf hv27, he.cellOf hv30, he.cellOf hv31⟩)
    have HDN : Hid (dn = σ'.D.length) := hDN
    clear h0 hl g1 g2 g3 hcv hdv hv25 hv1 ct hov
    go_upto_region 3 with fail
    go_cut [5] from 22 to 39 (fun v wx => ∃ q, v = .pointer (some ⟨q, 0, none⟩) ∧ Hid (wr.heap.size ≤ q ∧ Ext wr wx ∧ wx.heap[q]? = some (outObj (.int .i64 σ'.code) (.int .i64 σ'.place) (.int .u64 0) (.int .i64 σ'.steps) (.slice ca cn cc) (.slice none 0 0))))
    case first =>
     go_region_held3 (fun w' => w'.cell? ⟨mb, 29, none⟩ = some (.int .i64 σ'.code) ∧ w'.cell? ⟨mb, 27, none⟩ = some (.int .i64 σ'.place) ∧ w'.cell? ⟨mb, 30, none⟩ = some (.int .i64 σ'.steps) ∧ w'.cell? ⟨mb, 31, none⟩ = some (.slice ca cn cc))
      ((refine HS4.out _ ?_; (repeat (first|exact xE0 _|assumption|refine xE1 ?_ _|refine xE2 ?_|refine xE3 ?_ _|refine Below.setCell ?_ (by first | (simp; done) | (simp; omega) | omega) _ | refine Ext.trans' ?_ (by assumption)))))
      (fail)
     all_goals
      go_wp2_with fail
      go_meet
      exact ⟨_, rfl, η ⟨Nat.le_refl _, by (repeat (first|exact xE0 _|assumption|refine xE1 ?_ _|refine xE2 ?_|refine xE3 ?_ _|refine Below.setCell ?_ (by first | (simp; done) | (simp; omega) | omega) _ | refine Ext.trans' ?_ (by assumption))), obj_top _ _ rfl⟩⟩
    case rest =>
     obtain ⟨q, rfl, HC⟩ := hcut
     obtain ⟨hq, hE1, hbq⟩ := HC.out
     have HE1 := η hE1
     have HBQ := η hbq
     have hql := heap_lt hbq
     clear hv29 hv27 hv30 hv31 c30 HC hbq c28
     have c28 := HC28.out _ hE1
     have c1 := HC1.out _ hE1
     have c25 := HC25.out _ hE1
     (have b0 := cO (i := 0) (HBQ.out); have b1 := cO (i := 1) (HBQ.out); have b2 := cO (i := 2) (HBQ.out); have b3 := cO (i := 3) (HBQ.out); have b4 := cO (i := 4) (HBQ.out); have b5 := cO (i := 5) (HBQ.out); have bf := fun i => frozen_obj (i := i) (HBQ.out); simp only [gA, gB, gC] at b0 b1 b2 b3 b4 b5)
     have HQ0 : Hid ((wc.setCell ⟨q, 0, none⟩ (.int .i64 111)).heap[q]? = some (outObj (.int .i64 111) (.int .i64 σ'.place) (.int .u64 0) (.int .i64 σ'.steps) (.slice ca cn cc) (.slice none 0 0))) := η (by have := heap_setCell_same wc q 0 _ _ (.int .i64 111) HBQ.out; rw [this]; rfl)
     have HEVP : Hid (σ'.endV.code = 111 ∧ σ'.endV.r0 = 0) := η (by (have h1 : σ'.codeV = 111 := by rw [RS.codeV, if_neg (by rw [HOV.out]; decide)]); exact ⟨h1, by simp only [RS.endV, h1]; rfl⟩)
     go_wp2_with fail
     obtain ⟨wo, rfl⟩ : ∃ u, u = wr := ⟨_, rfl⟩
     go_loopw [6] (fun i wr2 => ∃ (k : Nat) (ma : Option Addr) (mc : Nat) (rows : List SV), k ≤ dn ∧ i = .int .i64 k ∧ rows.length = k ∧ Hid (Ext wo wr2 ∧ wr2.heap[q]? = some (outObj (.int .i64 (111 : Int)) (.int .i64 σ'.place) (.int .u64 (0 : Int)) (.int .i64 σ'.steps) (.slice ca cn cc) (.slice ma k mc)) ∧ Own wr2 (q + 1) 34 1 encW (.slice ma k mc) rows ∧ RowsAt q (.slice ma k mc) wr2 rows (fun i => ritems σ'.V (i : Int)))) (fun i _ => dn - (intOf i).toNat)
     case atStart => exact ⟨0, none, 0, [], Nat.zero_le _, rfl, rfl, η ⟨by (repeat (first|exact xE0 _|assumption|refine xE1 ?_ _|refine xE2 ?_|refine xE3 ?_ _|refine Below.setCell ?_ (by first | (simp; done) | (simp; omega) | omega) _ | refine Ext.trans' ?_ (by assumption))), HQ0.out, Own.nil _ _ _ _ _, fun j row hj => by simp at hj⟩⟩
     case round =>
      obtain ⟨k, ma, mc, rows, hk, rfl, hrl, HL⟩ := hrel
      have HRL := η hrl
      clear hrl
      have hE2 := HL.out.1
      have HE2 := η hE2
      have HBQ := η HL.out.2.1
      have HOW := η HL.out.2.2.1
      have HRW := η HL.out.2.2.2
      have c25 := (HC25.out _ hE2)
      have c24 := (HC24.out _ hE2)
      have hmb2 := hE2.size
      have hq2 := heap_lt HBQ.out
      by_cases hk5 : (k : Int) < dn
      ·have HFF : Hid (∀ u, Ext wr u → u.cell? ⟨q, 5, none⟩ = some (.slice ma k mc) ∧ u.frozen? ⟨q, 5, none⟩ = false ∧ u.cell? ⟨mb, 24, none⟩ = some (.pointer (some ⟨tb, 0, none⟩))) := η (fun u he => ⟨cO (he.obj HBQ.out), frozen_obj (he.obj HBQ.out), he.cellOf c24⟩)
       obtain ⟨b5, bf5, -⟩ := HFF.out _ (Ext.rfl' _)
       have hqn : q ∉ (Value.slice ma k mc).ownBlock.toList := fun hb => by have := (HOW.out.lt (by simpa using hb)).1; omega
       have hkb : rows.length ≤ 1000000 := by have := HRL.out; have := HDN.out; have := hdn8.out; omega
       go_upto_region 11 with fail
       clear hE2
       go_region_law
        ((first
         | (go_simp; go_at_call 39; refine (HIT.out _ (k : Int) (HE2.out.trans' (by (repeat (first|exact xE0 _|assumption|refine xE1 ?_ _|refine xE2 ?_|refine xE3 ?_ _|refine xE4 ?_ (by assumption)))))).mono ?_; rintro e w5 ⟨v5, I5, rfl, hO5, hS5, hM5, hE5⟩; obtain ⟨va, vn, vc, rfl, hvn, hVN⟩ := (hO5.rd enc_it).val; have hE6 : Ext wr w5 := (by (repeat (first|exact xE0 _|assumption|refine xE1 ?_ _|refine xE2 ?_|refine xE3 ?_ _|refine xE4 ?_ (by assumption)))); have HO5 := η hO5; have HS5 := η hS5; have HM5 := η hM5; have HE6 := η hE6; obtain ⟨x5, xf5, x24⟩ := HFF.out w5 hE6; have y5 := (fun o => (HFF.out (w5.alloc o) (hE6.alloc' o)).1); clear hO5 hS5 hM5 hE5)
         | (apply app_step2 el_itemrows enc_w (xs := rows) (ys := [⟨va, vn, vc⟩]) (base := q + 1); (case hw => rfl); (case ho => rfl); (case hs => rfl); (case hown => exact HOW.out.ext (by (repeat (first|exact xE0 _|assumption|refine xE1 ?_ _|refine xE2 ?_|refine xE3 ?_ _|refine xE4 ?_ (by assumption))))); (case hx => rfl); (case hy => exact (Own.lit enc_w (base := 0) (w := w5) [⟨va, vn, vc⟩] rfl rfl (Nat.zero_le _) (by simp [maxLen])).rd enc_w); (case hbytes => simp; omega); (case hbase => have := HE6.out.size; simp; omega); intro lv w8 hown8 hg8 hmv8; have HO8 := η hown8; have K8 : Hid (Keep (Value.slice ma k mc).ownBlock.toList w5 w8) := η ((Keep.of_ext ((Ext.rfl' w5).alloc' (.cells #[.slice va vn vc] 34))).trans (grown_keep hg8)); have M8 : Hid (∀ x, lv.ownBlock = some x → (Value.slice ma k mc).ownBlock = some x ∨ w5.heap.size ≤ x) := η (fun x hx => (hmv8 x hx).imp id (fun h => by simp at h; omega)); have HB8 := η (K8.out.obj (HE6.out.obj HBQ.out) hqn); have z5 : w8.cell? ⟨q, 5, none⟩ = some (.slice ma k mc) := cO HB8.out; have zf5 := frozen_obj (i := 5) HB8.out; obtain ⟨la9, ln9, lc9, rfl, hln9, hLN9⟩ := (HO8.out.rd enc_w).val; clear hown8 hg8 hmv8)))
       all_goals
        have hn9 : ln9 = k + 1 := by have := hLN9.out; rw [List.length_append, HRL.out] at this; exact this
        subst hn9
        have hE9 : Ext wo (w8.setCell ⟨q, 5, none⟩ (.slice la9 (k + 1) lc9)) := by
         have h1 : Ext wo w8 := K8.out.below (HE2.out.trans' HE6.out) (Nat.le_trans HE2.out.size HE6.out.size) (fun x hx => by have := (HOW.out.lt (by simpa using hx)).1; omega)
         exact h1.setCell hq _
        have hB9 := heap_setCell_same w8 q 5 _ _ (.slice la9 (k + 1) lc9) HB8.out
        have HR9 := η (HRW.out.next (r := ⟨va, vn, vc⟩) (fun x hx => (HOW.out.lt hx).2) hq2 (Ext.rfl' _) HO5.out HS5.out (by rw [HRL.out]; exact HM5.out) HE6.out K8.out M8.out 5 (.slice la9 (k + 1) lc9))
        have HO9 := η (HO8.out.other (show (⟨q, 5, none⟩ : Addr).block < q + 1 from Nat.lt_succ_self q) (.slice la9 (k + 1) lc9))
        have HX9 := η (And.intro hE9 hB9)
        clear hE9 hB9
        go_wp2_with fail
        go_roundw
        case rel => exact ⟨k + 1, la9, lc9, rows ++ [⟨va, vn, vc⟩], by omega, by go_num, by simp [HRL.out], η ⟨HX9.out.1, HX9.out.2, HO9.out, HR9.out⟩⟩
        case measure => simp [intOf]; omega
      ·obtain rfl : k = dn := by omega
       have hrz := hE2.obj HRES.out
       have hmbw : mb ≠ w.heap.size := by omega
       have HQQ := η ((HBACK.out (w.alloc endZ) wr σ' [w.heap.size] ((Ext.rfl' w).alloc' _) (fun x hx => by rw [List.mem_singleton] at hx; subst hx; simp) (HM5.out.go hE2)).chain6 (List.mem_singleton.2 rfl) hsz (.int .i64 (111 : Int)) (.int .i64 σ'.place) (.int .u64 (0 : Int)) (.int .i64 σ'.steps) (.slice ca cn cc) (.slice ma k mc))
       have hcvF := (chain6_cell (q := w.heap.size) (a := ⟨mb, 31, none⟩) wr hmbw (.int .i64 (111 : Int)) (.int .i64 σ'.place) (.int .u64 (0 : Int)) (.int .i64 σ'.steps) (.slice ca cn cc) (.slice ma k mc)).trans (HC31.out _ hE2)
       have hOF := HOW.out.chain6 (b := w.heap.size) (by omega) (.int .i64 (111 : Int)) (.int .i64 σ'.place) (.int .u64 (0 : Int)) (.int .i64 σ'.steps) (.slice ca cn cc) (.slice ma k mc)
       have hRF := HRW.out.chain6 (x := w.heap.size) (by omega) (.int .i64 (111 : Int)) (.int .i64 σ'.place) (.int .u64 (0 : Int)) (.int .i64 σ'.steps) (.slice ca cn cc) (.slice ma k mc)
       have HSF := η (And.intro (set6_same hrz (.int .i64 (111 : Int)) (.int .i64 σ'.place) (.int .u64 (0 : Int)) (.int .i64 σ'.steps) (.slice ca cn cc) (.slice ma k mc)) (And.intro HQQ.out.rel (endR_of HQQ.out.rel hcvF hOF (by omega) (by omega) hRF (by rw [HRL.out]; exact HDN.out))))
       have HRZ := η hrz
       clear hcvF hOF hRF HQQ hrz
       (have b0 := cO (i := 0) (HBQ.out); have b1 := cO (i := 1) (HBQ.out); have b2 := cO (i := 2) (HBQ.out); have b3 := cO (i := 3) (HBQ.out); have b4 := cO (i := 4) (HBQ.out); have b5 := cO (i := 5) (HBQ.out); have bf := fun i => frozen_obj (i := i) (HBQ.out); simp only [gA, gB, gC] at b0 b1 b2 b3 b4 b5)
       (have r0 := cO (i := 0) (HRZ.out); have r1 := cO (i := 1) (HRZ.out); have r2 := cO (i := 2) (HRZ.out); have r3 := cO (i := 3) (HRZ.out); have r4 := cO (i := 4) (HRZ.out); have r5 := cO (i := 5) (HRZ.out); have rf := fun i => frozen_obj (i := i) (HRZ.out); simp only [gA, gB, gC] at r0 r1 r2 r3 r4 r5)
       go_wp2_with fail
       (have hsf := HSF.out; generalize hF : (World.setCell (World.setCell (World.setCell (World.setCell (World.setCell (World.setCell wr ⟨w.heap.size, 0, none⟩ (.int .i64 (111 : Int))) ⟨w.heap.size, 1, none⟩ (.int .i64 σ'.place)) ⟨w.heap.size, 2, none⟩ (.int .u64 (0 : Int))) ⟨w.heap.size, 3, none⟩ (.int .i64 σ'.steps)) ⟨w.heap.size, 4, none⟩ (.slice ca cn cc)) ⟨w.heap.size, 5, none⟩ (.slice ma k mc)) = wF at hsf ⊢; obtain ⟨hs, he⟩ := hsf; clear hF; (try simp only [Exit.then]); (repeat (first | go_skip | go_step)); have r0 := cO (i := 0) hs; have r1 := cO (i := 1) hs; have r2 := cO (i := 2) hs; have r3 := cO (i := 3) hs; have r4 := cO (i := 4) hs; have r5 := cO (i := 5) hs; simp only [gA, gB, gC] at r0 r1 r2 r3 r4 r5; refine bodyPost_ret (by simp [results, Tryz.results14, go_sem, r0, r1, r2, r3, r4, r5]; try rfl) rfl ?_)
       rw [HT.out]
       exact ⟨.slice ca cn cc, .slice ma k mc, by rw [HEVP.out.1, HEVP.out.2]; rfl, he.1, he.2⟩
  ·rw [hov] at c28
   have HT : Hid (σ.run fuel = σ') := η (HRUN.out.symm.trans (run_stop (.inl hov)))
   have HOV := η hov
   have HM5 := HM1
   obtain ⟨tb, ct, HIT⟩ := HM1.out.items HI1.out.core.tab
   obtain ⟨h0, hl, l, g1, g2, g3⟩ := HM1.out
   obtain ⟨ca, cn, cc, hcv, hcn, hCN⟩ := (g1.calls.rd enc_cb).val
   obtain ⟨da, dn, dc, hdv, hdn, hDN⟩ := g1.defs.val
   have hv31 : wr.cell? ⟨mb, 31, none⟩ = some (.slice ca cn cc) := by have := g1.cell 31 rfl; rw [hcv] at this; exact this
   have hv25 : wr.cell? ⟨mb, 25, none⟩ = some (.slice da dn dc) := by have := g1.cell 25 rfl; rw [hdv] at this; exact this
   have hv29 := g1.cell 29 rfl
   have hv27 := g1.cell 27 rfl
   have hv30 := g1.cell 30 rfl
   have hv1 := g1.cell 1 rfl
   have HC25 := η (fun W (he : Ext wr W) => he.cellOf hv25)
   have HC24 := η (fun W (he : Ext wr W) => he.cellOf ct)
   have HC28 := η (fun W (he : Ext wr W) => he.cellOf c28)
   have HC1 := η (fun W (he : Ext wr W) => he.cellOf hv1)
   have HC31 := η (fun W (he : Ext wr W) => he.cellOf hv31)
   have HS4 : Hid (∀ w', Ext wr w' → w'.cell? ⟨mb, 29, none⟩ = some (.int .i64 σ'.code) ∧ w'.cell? ⟨mb, 27, none⟩ = some (.int .i64 σ'.place) ∧ w'.cell? ⟨mb, 30, none⟩ = some (.int .i64 σ'.steps) ∧ w'.cell? ⟨mb, 31, none⟩ = some (.slice ca cn cc)) := η (fun w' he => ⟨he.cellOf hv29, he.cellOf hv27, he.cellOf hv30, he.cellOf hv31⟩)
   have HDN : Hid (dn = σ'.D.length) := hDN
   clear h0 hl g1 g2 g3 hcv hdv hv25 hv1 ct hov
   go_upto_region 3 with fail
   go_cut [5] from 22 to 39 (fun v wx => ∃ q, v = .pointer (some ⟨q, 0, none⟩) ∧ Hid (wr.heap.size ≤ q ∧ Ext wr wx ∧ wx.heap[q]? = some (outObj (.int .i64 σ'.code) (.int .i64 σ'.place) (.int .u64 0) (.int .i64 σ'.steps) (.slice ca cn cc) (.slice none 0 0))))
   case first =>
    go_region_held3 (fun w' => w'.cell? ⟨mb, 29, none⟩ = some (.int .i64 σ'.code) ∧ w'.cell? ⟨mb, 27, none⟩ = some (.int .i64 σ'.place) ∧ w'.cell? ⟨mb, 30, none⟩ = some (.int .i64 σ'.steps) ∧ w'.cell? ⟨mb, 31, none⟩ = some (.slice ca cn cc))
     ((refine HS4.out _ ?_; (repeat (first|exact xE0 _|assumption|refine xE1 ?_ _|refine xE2 ?_|refine xE3 ?_ _|refine Below.setCell ?_ (by first | (simp; done) | (simp; omega) | omega) _ | refine Ext.trans' ?_ (by assumption)))))
     (fail)
    all_goals
     go_wp2_with fail
     go_meet
     exact ⟨_, rfl, η ⟨Nat.le_refl _, by (repeat (first|exact xE0 _|assumption|refine xE1 ?_ _|refine xE2 ?_|refine xE3 ?_ _|refine Below.setCell ?_ (by first | (simp; done) | (simp; omega) | omega) _ | refine Ext.trans' ?_ (by assumption))), obj_top _ _ rfl⟩⟩
   case rest =>
    obtain ⟨q, rfl, HC⟩ := hcut
    obtain ⟨hq, hE1, hbq⟩ := HC.out
    have HE1 := η hE1
    have HBQ := η hbq
    have hql := heap_lt hbq
    clear hv29 hv27 hv30 hv31 c30 HC hbq c28
    have c28 := HC28.out _ hE1
    have c1 := HC1.out _ hE1
    have c25 := HC25.out _ hE1
    (have b0 := cO (i := 0) (HBQ.out); have b1 := cO (i := 1) (HBQ.out); have b2 := cO (i := 2) (HBQ.out); have b3 := cO (i := 3) (HBQ.out); have b4 := cO (i := 4) (HBQ.out); have b5 := cO (i := 5) (HBQ.out); have bf := fun i => frozen_obj (i := i) (HBQ.out); simp only [gA, gB, gC] at b0 b1 b2 b3 b4 b5)
    cases hz : (σ'.code == 0)
    ·have HZ := η hz
     have HQ0 : Hid (wc.heap[q]? = some (outObj (.int .i64 σ'.code) (.int .i64 σ'.place) (.int .u64 0) (.int .i64 σ'.steps) (.slice ca cn cc) (.slice none 0 0))) := HBQ
     have HEVP : Hid (σ'.endV.code = σ'.code ∧ σ'.endV.r0 = 0) := η (by (have h1 : σ'.codeV = σ'.code := by rw [RS.codeV, if_pos HOV.out]); exact ⟨h1, by simp only [RS.endV, h1]; rw [if_neg (by simpa using HZ.out)]⟩)
     go_wp2_with fail
     obtain ⟨wo, rfl⟩ : ∃ u, u = wr := ⟨_, rfl⟩
     go_loopw [6] (fun i wr2 => ∃ (k : Nat) (ma : Option Addr) (mc : Nat) (rows : List SV), k ≤ dn ∧ i = .int .i64 k ∧ rows.length = k ∧ Hid (Ext wo wr2 ∧ wr2.heap[q]? = some (outObj (.int .i64 σ'.code) (.int .i64 σ'.place) (.int .u64 (0 : Int)) (.int .i64 σ'.steps) (.slice ca cn cc) (.slice ma k mc)) ∧ Own wr2 (q + 1) 34 1 encW (.slice ma k mc) rows ∧ RowsAt q (.slice ma k mc) wr2 rows (fun i => ritems σ'.V (i : Int)))) (fun i _ => dn - (intOf i).toNat)
     case atStart => exact ⟨0, none, 0, [], Nat.zero_le _, rfl, rfl, η ⟨by (repeat (first|exact xE0 _|assumption|refine xE1 ?_ _|refine xE2 ?_|refine xE3 ?_ _|refine Below.setCell ?_ (by first | (simp; done) | (simp; omega) | omega) _ | refine Ext.trans' ?_ (by assumption))), HQ0.out, Own.nil _ _ _ _ _, fun j row hj => by simp at hj⟩⟩
     case round =>
      obtain ⟨k, ma, mc, rows, hk, rfl, hrl, HL⟩ := hrel
      have HRL := η hrl
      clear hrl
      have hE2 := HL.out.1
      have HE2 := η hE2
      have HBQ := η HL.out.2.1
      have HOW := η HL.out.2.2.1
      have HRW := η HL.out.2.2.2
      have c25 := (HC25.out _ hE2)
      have c24 := (HC24.out _ hE2)
      have hmb2 := hE2.size
      have hq2 := heap_lt HBQ.out
      by_cases hk5 : (k : Int) < dn
      ·have HFF : Hid (∀ u, Ext wr u → u.cell? ⟨q, 5, none⟩ = some (.slice ma k mc) ∧ u.frozen? ⟨q, 5, none⟩ = false ∧ u.cell? ⟨mb, 24, none⟩ = some (.pointer (some ⟨tb, 0, none⟩))) := η (fun u he => ⟨cO (he.obj HBQ.out), frozen_obj (he.obj HBQ.out), he.cellOf c24⟩)
       obtain ⟨b5, bf5, -⟩ := HFF.out _ (Ext.rfl' _)
       have hqn : q ∉ (Value.slice ma k mc).ownBlock.toList := fun hb => by have := (HOW.out.lt (by simpa using hb)).1; omega
       have hkb : rows.length ≤ 1000000 := by have := HRL.out; have := HDN.out; have := hdn8.out; omega
       go_upto_region 11 with fail
       clear hE2
       go_region_law
        ((first
         | (go_simp; go_at_call 39; refine (HIT.out _ (k : Int) (HE2.out.trans' (by (repeat (first|exact xE0 _|assumption|refine xE1 ?_ _|refine xE2 ?_|refine xE3 ?_ _|refine xE4 ?_ (by assumption)))))).mono ?_; rintro e w5 ⟨v5, I5, rfl, hO5, hS5, hM5, hE5⟩; obtain ⟨va, vn, vc, rfl, hvn, hVN⟩ := (hO5.rd enc_it).val; have hE6 : Ext wr w5 := (by (repeat (first|exact xE0 _|assumption|refine xE1 ?_ _|refine xE2 ?_|refine xE3 ?_ _|refine xE4 ?_ (by assumption)))); have HO5 := η hO5; have HS5 := η hS5; have HM5 := η hM5; have HE6 := η hE6; obtain ⟨x5, xf5, x24⟩ := HFF.out w5 hE6; have y5 := (fun o => (HFF.out (w5.alloc o) (hE6.alloc' o)).1); clear hO5 hS5 hM5 hE5)
         | (apply app_step2 el_itemrows enc_w (xs := rows) (ys := [⟨va, vn, vc⟩]) (base := q + 1); (case hw => rfl); (case ho => rfl); (case hs => rfl); (case hown => exact HOW.out.ext (by (repeat (first|exact xE0 _|assumption|refine xE1 ?_ _|refine xE2 ?_|refine xE3 ?_ _|refine xE4 ?_ (by assumption))))); (case hx => rfl); (case hy => exact (Own.lit enc_w (base := 0) (w := w5) [⟨va, vn, vc⟩] rfl rfl (Nat.zero_le _) (by simp [maxLen])).rd enc_w); (case hbytes => simp; omega); (case hbase => have := HE6.out.size; simp; omega); intro lv w8 hown8 hg8 hmv8; have HO8 := η hown8; have K8 : Hid (Keep (Value.slice ma k mc).ownBlock.toList w5 w8) := η ((Keep.of_ext ((Ext.rfl' w5).alloc' (.cells #[.slice va vn vc] 34))).trans (grown_keep hg8)); have M8 : Hid (∀ x, lv.ownBlock = some x → (Value.slice ma k mc).ownBlock = some x ∨ w5.heap.size ≤ x) := η (fun x hx => (hmv8 x hx).imp id (fun h => by simp at h; omega)); have HB8 := η (K8.out.obj (HE6.out.obj HBQ.out) hqn); have z5 : w8.cell? ⟨q, 5, none⟩ = some (.slice ma k mc) := cO HB8.out; have zf5 := frozen_obj (i := 5) HB8.out; obtain ⟨la9, ln9, lc9, rfl, hln9, hLN9⟩ := (HO8.out.rd enc_w).val; clear hown8 hg8 hmv8)))
       all_goals
        have hn9 : ln9 = k + 1 := by have := hLN9.out; rw [List.length_append, HRL.out] at this; exact this
        subst hn9
        have hE9 : Ext wo (w8.setCell ⟨q, 5, none⟩ (.slice la9 (k + 1) lc9)) := by
         have h1 : Ext wo w8 := K8.out.below (HE2.out.trans' HE6.out) (Nat.le_trans HE2.out.size HE6.out.size) (fun x hx => by have := (HOW.out.lt (by simpa using hx)).1; omega)
         exact h1.setCell hq _
        have hB9 := heap_setCell_same w8 q 5 _ _ (.slice la9 (k + 1) lc9) HB8.out
        have HR9 := η (HRW.out.next (r := ⟨va, vn, vc⟩) (fun x hx => (HOW.out.lt hx).2) hq2 (Ext.rfl' _) HO5.out HS5.out (by rw [HRL.out]; exact HM5.out) HE6.out K8.out M8.out 5 (.slice la9 (k + 1) lc9))
        have HO9 := η (HO8.out.other (show (⟨q, 5, none⟩ : Addr).block < q + 1 from Nat.lt_succ_self q) (.slice la9 (k + 1) lc9))
        have HX9 := η (And.intro hE9 hB9)
        clear hE9 hB9
        go_wp2_with fail
        go_roundw
        case rel => exact ⟨k + 1, la9, lc9, rows ++ [⟨va, vn, vc⟩], by omega, by go_num, by simp [HRL.out], η ⟨HX9.out.1, HX9.out.2, HO9.out, HR9.out⟩⟩
        case measure => simp [intOf]; omega
      ·obtain rfl : k = dn := by omega
       have hrz := hE2.obj HRES.out
       have hmbw : mb ≠ w.heap.size := by omega
       have HQQ := η ((HBACK.out (w.alloc endZ) wr σ' [w.heap.size] ((Ext.rfl' w).alloc' _) (fun x hx => by rw [List.mem_singleton] at hx; subst hx; simp) (HM5.out.go hE2)).chain6 (List.mem_singleton.2 rfl) hsz (.int .i64 σ'.code) (.int .i64 σ'.place) (.int .u64 (0 : Int)) (.int .i64 σ'.steps) (.slice ca cn cc) (.slice ma k mc))
       have hcvF := (chain6_cell (q := w.heap.size) (a := ⟨mb, 31, none⟩) wr hmbw (.int .i64 σ'.code) (.int .i64 σ'.place) (.int .u64 (0 : Int)) (.int .i64 σ'.steps) (.slice ca cn cc) (.slice ma k mc)).trans (HC31.out _ hE2)
       have hOF := HOW.out.chain6 (b := w.heap.size) (by omega) (.int .i64 σ'.code) (.int .i64 σ'.place) (.int .u64 (0 : Int)) (.int .i64 σ'.steps) (.slice ca cn cc) (.slice ma k mc)
       have hRF := HRW.out.chain6 (x := w.heap.size) (by omega) (.int .i64 σ'.code) (.int .i64 σ'.place) (.int .u64 (0 : Int)) (.int .i64 σ'.steps) (.slice ca cn cc) (.slice ma k mc)
       have HSF := η (And.intro (set6_same hrz (.int .i64 σ'.code) (.int .i64 σ'.place) (.int .u64 (0 : Int)) (.int .i64 σ'.steps) (.slice ca cn cc) (.slice ma k mc)) (And.intro HQQ.out.rel (endR_of HQQ.out.rel hcvF hOF (by omega) (by omega) hRF (by rw [HRL.out]; exact HDN.out))))
       have HRZ := η hrz
       clear hcvF hOF hRF HQQ hrz
       (have b0 := cO (i := 0) (HBQ.out); have b1 := cO (i := 1) (HBQ.out); have b2 := cO (i := 2) (HBQ.out); have b3 := cO (i := 3) (HBQ.out); have b4 := cO (i := 4) (HBQ.out); have b5 := cO (i := 5) (HBQ.out); have bf := fun i => frozen_obj (i := i) (HBQ.out); simp only [gA, gB, gC] at b0 b1 b2 b3 b4 b5)
       (have r0 := cO (i := 0) (HRZ.out); have r1 := cO (i := 1) (HRZ.out); have r2 := cO (i := 2) (HRZ.out); have r3 := cO (i := 3) (HRZ.out); have r4 := cO (i := 4) (HRZ.out); have r5 := cO (i := 5) (HRZ.out); have rf := fun i => frozen_obj (i := i) (HRZ.out); simp only [gA, gB, gC] at r0 r1 r2 r3 r4 r5)
       go_wp2_with fail
       (have hsf := HSF.out; generalize hF : (World.setCell (World.setCell (World.setCell (World.setCell (World.setCell (World.setCell wr ⟨w.heap.size, 0, none⟩ (.int .i64 σ'.code)) ⟨w.heap.size, 1, none⟩ (.int .i64 σ'.place)) ⟨w.heap.size, 2, none⟩ (.int .u64 (0 : Int))) ⟨w.heap.size, 3, none⟩ (.int .i64 σ'.steps)) ⟨w.heap.size, 4, none⟩ (.slice ca cn cc)) ⟨w.heap.size, 5, none⟩ (.slice ma k mc)) = wF at hsf ⊢; obtain ⟨hs, he⟩ := hsf; clear hF; (try simp only [Exit.then]); (repeat (first | go_skip | go_step)); have r0 := cO (i := 0) hs; have r1 := cO (i := 1) hs; have r2 := cO (i := 2) hs; have r3 := cO (i := 3) hs; have r4 := cO (i := 4) hs; have r5 := cO (i := 5) hs; simp only [gA, gB, gC] at r0 r1 r2 r3 r4 r5; refine bodyPost_ret (by simp [results, Tryz.results14, go_sem, r0, r1, r2, r3, r4, r5]; try rfl) rfl ?_)
       rw [HT.out]
       exact ⟨.slice ca cn cc, .slice ma k mc, by rw [HEVP.out.1, HEVP.out.2]; rfl, he.1, he.2⟩
    ·have HZ := η hz
     have HQ0 : Hid ((wc.setCell ⟨q, 2, none⟩ (.int .u64 (σ'.R 0))).heap[q]? = some (outObj (.int .i64 σ'.code) (.int .i64 σ'.place) (.int .u64 (σ'.R 0)) (.int .i64 σ'.steps) (.slice ca cn cc) (.slice none 0 0))) := η (by have := heap_setCell_same wc q 2 _ _ (.int .u64 (σ'.R 0)) HBQ.out; rw [this]; rfl)
     have HEVP : Hid (σ'.endV.code = σ'.code ∧ σ'.endV.r0 = σ'.R 0) := η (by (have h1 : σ'.codeV = σ'.code := by rw [RS.codeV, if_pos HOV.out]); exact ⟨h1, by simp only [RS.endV, h1]; rw [if_pos (by simpa using HZ.out)]⟩)
     go_wp2_with fail
     obtain ⟨wo, rfl⟩ : ∃ u, u = wr := ⟨_, rfl⟩
     go_loopw [6] (fun i wr2 => ∃ (k : Nat) (ma : Option Addr) (mc : Nat) (rows : List SV), k ≤ dn ∧ i = .int .i64 k ∧ rows.length = k ∧ Hid (Ext wo wr2 ∧ wr2.heap[q]? = some (outObj (.int .i64 σ'.code) (.int .i64 σ'.place) (.int .u64 (σ'.R 0)) (.int .i64 σ'.steps) (.slice ca cn cc) (.slice ma k mc)) ∧ Own wr2 (q + 1) 34 1 encW (.slice ma k mc) rows ∧ RowsAt q (.slice ma k mc) wr2 rows (fun i => ritems σ'.V (i : Int)))) (fun i _ => dn - (intOf i).toNat)
     case atStart => exact ⟨0, none, 0, [], Nat.zero_le _, rfl, rfl, η ⟨by (repeat (first|exact xE0 _|assumption|refine xE1 ?_ _|refine xE2 ?_|refine xE3 ?_ _|refine Below.setCell ?_ (by first | (simp; done) | (simp; omega) | omega) _ | refine Ext.trans' ?_ (by assumption))), HQ0.out, Own.nil _ _ _ _ _, fun j row hj => by simp at hj⟩⟩
     case round =>
      obtain ⟨k, ma, mc, rows, hk, rfl, hrl, HL⟩ := hrel
      have HRL := η hrl
      clear hrl
      have hE2 := HL.out.1
      have HE2 := η hE2
      have HBQ := η HL.out.2.1
      have HOW := η HL.out.2.2.1
      have HRW := η HL.out.2.2.2
      have c25 := (HC25.out _ hE2)
      have c24 := (HC24.out _ hE2)
      have hmb2 := hE2.size
      have hq2 := heap_lt HBQ.out
      by_cases hk5 : (k : Int) < dn
      ·have HFF : Hid (∀ u, Ext wr u → u.cell? ⟨q, 5, none⟩ = some (.slice ma k mc) ∧ u.frozen? ⟨q, 5, none⟩ = false ∧ u.cell? ⟨mb, 24, none⟩ = some (.pointer (some ⟨tb, 0, none⟩))) := η (fun u he => ⟨cO (he.obj HBQ.out), frozen_obj (he.obj HBQ.out), he.cellOf c24⟩)
       obtain ⟨b5, bf5, -⟩ := HFF.out _ (Ext.rfl' _)
       have hqn : q ∉ (Value.slice ma k mc).ownBlock.toList := fun hb => by have := (HOW.out.lt (by simpa using hb)).1; omega
       have hkb : rows.length ≤ 1000000 := by have := HRL.out; have := HDN.out; have := hdn8.out; omega
       go_upto_region 11 with fail
       clear hE2
       go_region_law
        ((first
         | (go_simp; go_at_call 39; refine (HIT.out _ (k : Int) (HE2.out.trans' (by (repeat (first|exact xE0 _|assumption|refine xE1 ?_ _|refine xE2 ?_|refine xE3 ?_ _|refine xE4 ?_ (by assumption)))))).mono ?_; rintro e w5 ⟨v5, I5, rfl, hO5, hS5, hM5, hE5⟩; obtain ⟨va, vn, vc, rfl, hvn, hVN⟩ := (hO5.rd enc_it).val; have hE6 : Ext wr w5 := (by (repeat (first|exact xE0 _|assumption|refine xE1 ?_ _|refine xE2 ?_|refine xE3 ?_ _|refine xE4 ?_ (by assumption)))); have HO5 := η hO5; have HS5 := η hS5; have HM5 := η hM5; have HE6 := η hE6; obtain ⟨x5, xf5, x24⟩ := HFF.out w5 hE6; have y5 := (fun o => (HFF.out (w5.alloc o) (hE6.alloc' o)).1); clear hO5 hS5 hM5 hE5)
         | (apply app_step2 el_itemrows enc_w (xs := rows) (ys := [⟨va, vn, vc⟩]) (base := q + 1); (case hw => rfl); (case ho => rfl); (case hs => rfl); (case hown => exact HOW.out.ext (by (repeat (first|exact xE0 _|assumption|refine xE1 ?_ _|refine xE2 ?_|refine xE3 ?_ _|refine xE4 ?_ (by assumption))))); (case hx => rfl); (case hy => exact (Own.lit enc_w (base := 0) (w := w5) [⟨va, vn, vc⟩] rfl rfl (Nat.zero_le _) (by simp [maxLen])).rd enc_w); (case hbytes => simp; omega); (case hbase => have := HE6.out.size; simp; omega); intro lv w8 hown8 hg8 hmv8; have HO8 := η hown8; have K8 : Hid (Keep (Value.slice ma k mc).ownBlock.toList w5 w8) := η ((Keep.of_ext ((Ext.rfl' w5).alloc' (.cells #[.slice va vn vc] 34))).trans (grown_keep hg8)); have M8 : Hid (∀ x, lv.ownBlock = some x → (Value.slice ma k mc).ownBlock = some x ∨ w5.heap.size ≤ x) := η (fun x hx => (hmv8 x hx).imp id (fun h => by simp at h; omega)); have HB8 := η (K8.out.obj (HE6.out.obj HBQ.out) hqn); have z5 : w8.cell? ⟨q, 5, none⟩ = some (.slice ma k mc) := cO HB8.out; have zf5 := frozen_obj (i := 5) HB8.out; obtain ⟨la9, ln9, lc9, rfl, hln9, hLN9⟩ := (HO8.out.rd enc_w).val; clear hown8 hg8 hmv8)))
       all_goals
        have hn9 : ln9 = k + 1 := by have := hLN9.out; rw [List.length_append, HRL.out] at this; exact this
        subst hn9
        have hE9 : Ext wo (w8.setCell ⟨q, 5, none⟩ (.slice la9 (k + 1) lc9)) := by
         have h1 : Ext wo w8 := K8.out.below (HE2.out.trans' HE6.out) (Nat.le_trans HE2.out.size HE6.out.size) (fun x hx => by have := (HOW.out.lt (by simpa using hx)).1; omega)
         exact h1.setCell hq _
        have hB9 := heap_setCell_same w8 q 5 _ _ (.slice la9 (k + 1) lc9) HB8.out
        have HR9 := η (HRW.out.next (r := ⟨va, vn, vc⟩) (fun x hx => (HOW.out.lt hx).2) hq2 (Ext.rfl' _) HO5.out HS5.out (by rw [HRL.out]; exact HM5.out) HE6.out K8.out M8.out 5 (.slice la9 (k + 1) lc9))
        have HO9 := η (HO8.out.other (show (⟨q, 5, none⟩ : Addr).block < q + 1 from Nat.lt_succ_self q) (.slice la9 (k + 1) lc9))
        have HX9 := η (And.intro hE9 hB9)
        clear hE9 hB9
        go_wp2_with fail
        go_roundw
        case rel => exact ⟨k + 1, la9, lc9, rows ++ [⟨va, vn, vc⟩], by omega, by go_num, by simp [HRL.out], η ⟨HX9.out.1, HX9.out.2, HO9.out, HR9.out⟩⟩
        case measure => simp [intOf]; omega
      ·obtain rfl : k = dn := by omega
       have hrz := hE2.obj HRES.out
       have hmbw : mb ≠ w.heap.size := by omega
       have HQQ := η ((HBACK.out (w.alloc endZ) wr σ' [w.heap.size] ((Ext.rfl' w).alloc' _) (fun x hx => by rw [List.mem_singleton] at hx; subst hx; simp) (HM5.out.go hE2)).chain6 (List.mem_singleton.2 rfl) hsz (.int .i64 σ'.code) (.int .i64 σ'.place) (.int .u64 (σ'.R 0)) (.int .i64 σ'.steps) (.slice ca cn cc) (.slice ma k mc))
       have hcvF := (chain6_cell (q := w.heap.size) (a := ⟨mb, 31, none⟩) wr hmbw (.int .i64 σ'.code) (.int .i64 σ'.place) (.int .u64 (σ'.R 0)) (.int .i64 σ'.steps) (.slice ca cn cc) (.slice ma k mc)).trans (HC31.out _ hE2)
       have hOF := HOW.out.chain6 (b := w.heap.size) (by omega) (.int .i64 σ'.code) (.int .i64 σ'.place) (.int .u64 (σ'.R 0)) (.int .i64 σ'.steps) (.slice ca cn cc) (.slice ma k mc)
       have hRF := HRW.out.chain6 (x := w.heap.size) (by omega) (.int .i64 σ'.code) (.int .i64 σ'.place) (.int .u64 (σ'.R 0)) (.int .i64 σ'.steps) (.slice ca cn cc) (.slice ma k mc)
       have HSF := η (And.intro (set6_same hrz (.int .i64 σ'.code) (.int .i64 σ'.place) (.int .u64 (σ'.R 0)) (.int .i64 σ'.steps) (.slice ca cn cc) (.slice ma k mc)) (And.intro HQQ.out.rel (endR_of HQQ.out.rel hcvF hOF (by omega) (by omega) hRF (by rw [HRL.out]; exact HDN.out))))
       have HRZ := η hrz
       clear hcvF hOF hRF HQQ hrz
       (have b0 := cO (i := 0) (HBQ.out); have b1 := cO (i := 1) (HBQ.out); have b2 := cO (i := 2) (HBQ.out); have b3 := cO (i := 3) (HBQ.out); have b4 := cO (i := 4) (HBQ.out); have b5 := cO (i := 5) (HBQ.out); have bf := fun i => frozen_obj (i := i) (HBQ.out); simp only [gA, gB, gC] at b0 b1 b2 b3 b4 b5)
       (have r0 := cO (i := 0) (HRZ.out); have r1 := cO (i := 1) (HRZ.out); have r2 := cO (i := 2) (HRZ.out); have r3 := cO (i := 3) (HRZ.out); have r4 := cO (i := 4) (HRZ.out); have r5 := cO (i := 5) (HRZ.out); have rf := fun i => frozen_obj (i := i) (HRZ.out); simp only [gA, gB, gC] at r0 r1 r2 r3 r4 r5)
       go_wp2_with fail
       (have hsf := HSF.out; generalize hF : (World.setCell (World.setCell (World.setCell (World.setCell (World.setCell (World.setCell wr ⟨w.heap.size, 0, none⟩ (.int .i64 σ'.code)) ⟨w.heap.size, 1, none⟩ (.int .i64 σ'.place)) ⟨w.heap.size, 2, none⟩ (.int .u64 (σ'.R 0))) ⟨w.heap.size, 3, none⟩ (.int .i64 σ'.steps)) ⟨w.heap.size, 4, none⟩ (.slice ca cn cc)) ⟨w.heap.size, 5, none⟩ (.slice ma k mc)) = wF at hsf ⊢; obtain ⟨hs, he⟩ := hsf; clear hF; (try simp only [Exit.then]); (repeat (first | go_skip | go_step)); have r0 := cO (i := 0) hs; have r1 := cO (i := 1) hs; have r2 := cO (i := 2) hs; have r3 := cO (i := 3) hs; have r4 := cO (i := 4) hs; have r5 := cO (i := 5) hs; simp only [gA, gB, gC] at r0 r1 r2 r3 r4 r5; refine bodyPost_ret (by simp [results, Tryz.results14, go_sem, r0, r1, r2, r3, r4, r5]; try rfl) rfl ?_)
       rw [HT.out]
       exact ⟨.slice ca cn cc, .slice ma k mc, by rw [HEVP.out.1, HEVP.out.2]; rfl, he.1, he.2⟩
end
end Go.Proofs.YtppefchjoodgnaaGreat
