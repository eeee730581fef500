/- What the claim leans on: MsI · PmP · PmQ. -/
import Derived.Test.YtppefchjoodgnaaGreatPN30
import Derived.Test.YtppefchjoodgnaaGreatPN32
import Derived.Deep.LoopGhost
namespace Go.Proofs.YtppefchjoodgnaaGreat
open Go.RowKit
set_option linter.unusedVariables false
set_option linter.unusedSimpArgs false
structure EV where
 code : Int
 at_ : Int
 r0 : Int
 steps : Int
 calls : List Cl
 maps : List (List (ByteArray × List Int))
def RS.codeV (τ : RS) : Int := if τ.over then τ.code else 111
def RS.endV (τ : RS) : EV := ⟨τ.codeV, τ.place, if τ.codeV = 0 then τ.R 0 else 0, τ.steps, τ.calls, (List.range τ.D.length).map (fun i : Nat => ritems τ.V (i : Int))⟩
structure SV where
 a : Option Addr
 n : Nat
 c : Nat
def SV.v (x : SV) : Value := .slice x.a x.n x.c
abbrev encW : SV → List Value := fun x => [x.v]
theorem enc_w : Enc 1 encW := ⟨fun _ => rfl, fun x u hu => by
 simp only [List.mem_singleton] at hu
 subst hu; rfl⟩
def ERd (u : World) (e : EV) (cv mv : Value) : Prop :=
 ∃ cs rows, Rd u 6 CB.enc cv cs ∧ cs.map (·.c) = e.calls ∧ (∀ c ∈ cs, Sl u .u8 c.kv c.c.key ∧ Sl u .u8 c.vv c.c.val ∧ Sl u .u64 c.nv c.c.n) ∧ Rd u 1 encW mv rows ∧ rows.length = e.maps.length ∧ ∀ (i : Nat) row l, rows[i]? = some row → e.maps[i]? = some l → IsItems u row.v l
section
variable {F0 Z0 : List Nat} {wf w w' : World} {base mb : Nat} {σ : RS} {l : RLay}
theorem MRel.root (h : MRel F0 Z0 wf base w mb σ) : ∃ F Z, (∀ j ∈ F, j < w.heap.size) ∧ (∀ j ∈ Z, j < w.heap.size) ∧ mb ∈ F ∧ (∀ w1, Ext w w1 → MRel F Z w1 base w1 mb σ) ∧ (∀ w1 w2 σ2 Q, Ext w w1 → (∀ q ∈ Q, w.heap.size ≤ q ∧ q < w1.heap.size) → MRel F Z w1 base w2 mb σ2 → MRelQ Q F0 Z0 wf base w2 mb σ2) := by
 obtain ⟨h0, hl, l, h1, h2, h3⟩ := h
 refine ⟨mfoot mb l, mfrz l, h1.lt, fun j hj => (h1.frz j hj).2, by simp [mfoot], fun w1 he => ⟨Keep.rfl' _ _, Nat.le_trans hl (Nat.le_trans h0.size he.size), l, h1.ext he, fun j hj => .inl hj, fun j hj => .inl hj⟩, ?_⟩
 rintro w1 w2 σ2 Q he hQ ⟨k0, kl, l2, k1, k2, k3⟩
 have hs : wf.heap.size ≤ w1.heap.size := Nat.le_trans h0.size he.size
 refine ⟨(h0.through (F := []) (Keep.of_ext he) (fun _ hj => by cases hj)).through k0 h2, hl, l2, k1, fun j hj => ?_, fun j hj => ?_, fun q hq => ⟨Nat.lt_of_lt_of_le (hQ q hq).2 k0.size, fun hj => ?_, fun hj => ?_⟩⟩
 ·exact (k2 j hj).elim (h2 j) (fun h => .inr (Nat.le_trans hs h))
 ·exact (k3 j hj).elim (h3 j) (fun h => .inr (Nat.le_trans hs h))
 ·have := hQ q hq
  exact (k2 q hj).elim (fun h => by have := h1.lt q h; omega) (fun h => by omega)
 ·have := hQ q hq
  exact (k3 q hj).elim (fun h => by have := (h1.frz q h).2; omega) (fun h => by omega)
theorem iter_over : ∀ (n : Nat) (σ : RS), σ.over = true → RS.iter n σ = σ
 | 0, σ, h => rfl
 | n + 1, σ, h => by rw [RS.iter, if_pos h]
theorem step_steps (h : σ.over = false) (hi : σ.Inv) : σ.step.1.over = true ∨ σ.step.1.steps = σ.steps + 1 := by
 obtain ⟨x, hon⟩ := hi.on
 unfold RS.step
 rw [if_neg (by rw [h]; decide), hon.code]
 simp only
 by_cases he : (σ.does x (whatZ x)).2.2 ≠ 0
 ·rw [if_pos he]; exact .inl rfl
 ·rw [if_neg he]; right; show (σ.does x (whatZ x)).1.steps + 1 = _; rw [does_steps]
theorem step_mono (hi : σ.Inv) : σ.steps ≤ σ.step.1.steps := by
 obtain ⟨x, hon⟩ := hi.on
 unfold RS.step
 by_cases h : σ.over = true
 ·rw [if_pos h]; exact Int.le_refl _
 rw [if_neg h, hon.code]
 simp only
 by_cases he : (σ.does x (whatZ x)).2.2 ≠ 0
 ·rw [if_pos he]; show σ.steps ≤ (σ.does x (whatZ x)).1.steps; rw [does_steps]; exact Int.le_refl _
 ·rw [if_neg he]; show σ.steps ≤ (σ.does x (whatZ x)).1.steps + 1; rw [does_steps]; omega
theorem run_stop {fuel : Int} (h : σ.over = true ∨ fuel ≤ σ.steps) : σ.run fuel = σ := by
 unfold RS.run
 rcases h with h | h
 ·exact iter_over _ _ h
 ·rw [show (fuel - σ.steps).toNat = 0 by omega]; rfl
theorem run_step {fuel : Int} (h : σ.over = false) (hs : σ.steps < fuel) (hi : σ.Inv) : σ.step.1.run fuel = σ.run fuel := by
 obtain ⟨n, hn⟩ : ∃ n, (fuel - σ.steps).toNat = n + 1 := ⟨(fuel - σ.steps).toNat - 1, by omega⟩
 have e : σ.run fuel = RS.iter n σ.step.1 := by rw [RS.run, hn, RS.iter, if_neg (by rw [h]; decide)]
 rw [e]
 rcases step_steps h hi with h1 | h1
 ·rw [run_stop (.inl h1), iter_over _ _ h1]
 ·rw [RS.run, h1, show (fuel - (σ.steps + 1)).toNat = n by omega]
abbrev endZ : Obj := .cells #[.int .i64 0, .int .i64 0, .int .u64 0, .int .i64 0, .slice none 0 0, .slice none 0 0] 45
abbrev outObj (a b c d cv mv : Value) : Obj := .cells #[a, b, c, d, cv, mv] 45 (0, 0)
theorem el_itemrows : El Tryz.prog 25 34 1 24 (.slice none 0 0) := ⟨Tryz.underlying25, by kernel_rfl, rfl, by decide, fun _ => by kernel_rfl⟩
def RowsAt (q : Nat) (mv : Value) (wr : World) (rows : List SV) (f : Nat → List (ByteArray × List Int)) : Prop :=
 ∀ (j : Nat) row, rows[j]? = some row → ∃ A B, q < A ∧ B ≤ wr.heap.size ∧ (∀ x, mv.ownBlock = some x → x < A ∨ B ≤ x) ∧ ∀ F u, (∀ x ∈ F, x < A ∨ B ≤ x) → Keep F wr u → IsItems u row.v (f j)
theorem RowsAt.ext {q : Nat} {mv : Value} {wr wr' : World} {rows : List SV} {f : Nat → List (ByteArray × List Int)} (h : RowsAt q mv wr rows f) (he : Ext wr wr') : RowsAt q mv wr' rows f := fun j row hj => by
 obtain ⟨A, B, h1, h2, h3, h4⟩ := h j row hj
 exact ⟨A, B, h1, Nat.le_trans h2 he.size, h3, fun F u hF k => h4 F u hF ((Keep.of_ext he).trans k)⟩
theorem RowsAt.next {q : Nat} {mv mv' : Value} {wr wI w5 w8 : World} {rows : List SV} {f : Nat → List (ByteArray × List Int)} {r : SV} {I : List IT} (h : RowsAt q mv wr rows f) (hm : ∀ x, mv.ownBlock = some x → x < wr.heap.size) (hq : q < wr.heap.size) (hI : Ext wr wI)
  (hO : Own w5 wI.heap.size 36 2 IT.enc r.v I) (hS : ∀ y ∈ I, ∀ F u, (∀ q ∈ F, q < wI.heap.size ∨ q ∈ r.v.ownBlock.toList) → Keep F w5 u → Sl u .u8 y.kv y.key ∧ Sl u .u8 y.vv y.val) (hl : I.map (fun x => (strOfNums x.key, x.val)) = f rows.length) (h5 : Ext wI w5)
  (k8 : Keep mv.ownBlock.toList w5 w8) (hmv : ∀ x, mv'.ownBlock = some x → mv.ownBlock = some x ∨ w5.heap.size ≤ x) (i : Nat) (z : Value) : RowsAt q mv' (w8.setCell ⟨q, i, none⟩ z) (rows ++ [r]) f := by
 have k9 : Keep [q] w8 (w8.setCell ⟨q, i, none⟩ z) := (Keep.rfl' _ _).setCell (by simp) z
 have kq : Keep (q :: mv.ownBlock.toList) w5 (w8.setCell ⟨q, i, none⟩ z) := (k8.mono fun x hx => .inl (List.mem_cons_of_mem _ hx)).trans (k9.mono fun x hx => .inl (by rw [List.mem_singleton] at hx; subst hx; exact List.mem_cons_self))
 have s1 := hI.size
 have s2 := h5.size
 have s3 := kq.size
 intro j row hj
 by_cases hjr : j < rows.length
 ·rw [List.getElem?_append_left hjr] at hj
  obtain ⟨A, B, h1, h2, h3, h4⟩ := h j row hj
  refine ⟨A, B, h1, by omega, fun x hx => ?_, fun F u hF k => h4 ((q :: mv.ownBlock.toList) ++ F) u (fun x hx => ?_) ?_⟩
  ·rcases hmv x hx with hx | hx
   ·exact h3 x hx
   ·exact .inr (by omega)
  ·rcases List.mem_append.1 hx with hx | hx
   ·rcases List.mem_cons.1 hx with rfl | hx
    ·exact .inl h1
    ·exact h3 x (by simpa using hx)
   ·exact hF x hx
  ·exact ((Keep.of_ext (hI.trans' h5)).trans (kq.mono fun x hx => .inl (List.mem_append_left _ hx))).trans (k.mono fun x hx => .inl (List.mem_append_right _ hx))
 ·have hj2 : j = rows.length := by
   have := (List.getElem?_eq_some_iff.1 hj).1
   rw [List.length_append, List.length_singleton] at this
   omega
  subst hj2
  rw [List.getElem?_append_right (Nat.le_refl _), Nat.sub_self] at hj
  obtain rfl : r = row := by simpa using hj
  refine ⟨wI.heap.size, w5.heap.size, by omega, by omega, fun x hx => ?_, fun F u hF k => ?_⟩
  ·rcases hmv x hx with hx | hx
   ·exact .inl (by have := hm x hx; omega)
   ·exact .inr hx
  ·have ku : Keep ((q :: mv.ownBlock.toList) ++ F) w5 u := (kq.mono fun x hx => .inl (List.mem_append_left _ hx)).trans (k.mono fun x hx => .inl (List.mem_append_right _ hx))
   have hlow : ∀ x ∈ (q :: mv.ownBlock.toList) ++ F, x < wI.heap.size ∨ w5.heap.size ≤ x := fun x hx => by
    rcases List.mem_append.1 hx with hx | hx
    ·rcases List.mem_cons.1 hx with rfl | hx
     ·exact .inl (by omega)
     ·exact .inl (by have := hm x (by simpa using hx); omega)
    ·exact hF x hx
   have ku2 : Keep (((q :: mv.ownBlock.toList) ++ F).filter fun x => decide (x < wI.heap.size)) w5 u := (Keep.rfl' _ w5).through ku (fun x hx => (hlow x hx).elim (fun h => .inl (List.mem_filter.2 ⟨hx, by simpa using h⟩)) .inr)
   have hfl : ∀ x ∈ ((q :: mv.ownBlock.toList) ++ F).filter (fun x => decide (x < wI.heap.size)), x < wI.heap.size := fun x hx => by simpa using (List.mem_filter.1 hx).2
   refine ⟨I, (hO.keep ku2 (fun x hx hx' => by have := hfl x hx'; have := (hO.lt hx).1; omega)).rd enc_it, fun y hy => hS y hy _ u (fun x hx => .inl (hfl x hx)) ku2, hl⟩
theorem MRelQ.chain6 {Q : List Nat} (h : MRelQ Q F0 Z0 wf base w mb σ) {q : Nat} (hq : q ∈ Q) (hw : wf.heap.size ≤ q) (v0 v1 v2 v3 v4 v5 : Value) : MRelQ Q F0 Z0 wf base ((((((w.setCell ⟨q, 0, none⟩ v0).setCell ⟨q, 1, none⟩ v1).setCell ⟨q, 2, none⟩ v2).setCell ⟨q, 3, none⟩ v3).setCell ⟨q, 4, none⟩ v4).setCell ⟨q, 5, none⟩ v5) mb σ :=
 (((((h.box hq hw 0 v0).box hq hw 1 v1).box hq hw 2 v2).box hq hw 3 v3).box hq hw 4 v4).box hq hw 5 v5
theorem MRel.items (h : MRel F0 Z0 wf base w mb σ) (hi : ∀ t ∈ σ.V.2, TabOk t) : ∃ tb, w.cell? ⟨mb, 24, none⟩ = some (.pointer (some ⟨tb, 0, none⟩)) ∧ Hid (∀ W i, Ext w W → Calls Tryz.prog 39 #[.pointer (some ⟨tb, 0, none⟩), .int .i64 i] W (ItemsO (ritems σ.V i) W)) := by
 obtain ⟨h0, hl, l, h1, h2, h3⟩ := h
 refine ⟨l.tb, h1.cell 24 rfl, η fun W i he => ?_⟩
 have := rtab_items2 base l.tb l.T i W (h1.tab.ext he) (η fun x hx => by
  have hT := hi x.T (by rw [← h1.view]; exact List.mem_map.2 ⟨x, hx, rfl⟩)
  have := hT.few
  have := hT.max
  exact ⟨by omega, hT.keys⟩)
 rw [h1.view] at this
 exact this
theorem Own.chain6 {α : Type} {w : World} {base : Nat} {e : TypeId} {sz : Nat} {enc : α → List Value} {v : Value} {xs : List α} (h : Own w base e sz enc v xs) {b : Nat} (hb : b < base) (v0 v1 v2 v3 v4 v5 : Value) : Own ((((((w.setCell ⟨b, 0, none⟩ v0).setCell ⟨b, 1, none⟩ v1).setCell ⟨b, 2, none⟩ v2).setCell ⟨b, 3, none⟩ v3).setCell ⟨b, 4, none⟩ v4).setCell ⟨b, 5, none⟩ v5) base e sz enc v xs :=
 (((((h.other hb _).other hb _).other hb _).other hb _).other hb _).other hb _
theorem RowsAt.set {q x : Nat} {mv : Value} {wr : World} {rows : List SV} {f : Nat → List (ByteArray × List Int)} (h : RowsAt q mv wr rows f) (hx : x ≤ q) (i : Nat) (z : Value) : RowsAt q mv (wr.setCell ⟨x, i, none⟩ z) rows f := fun j row hj => by
 obtain ⟨A, B, h1, h2, h3, h4⟩ := h j row hj
 have k9 : Keep [x] wr (wr.setCell ⟨x, i, none⟩ z) := (Keep.rfl' _ _).setCell (by simp) z
 exact ⟨A, B, h1, Nat.le_trans h2 k9.size, h3, fun F u hF k => h4 ([x] ++ F) u (fun y hy => by
  rcases List.mem_append.1 hy with hy | hy
  ·rw [List.mem_singleton] at hy; subst hy; exact .inl (by omega)
  ·exact hF y hy) ((k9.mono fun y hy => .inl (List.mem_append_left _ hy)).trans (k.mono fun y hy => .inl (List.mem_append_right _ hy)))⟩
theorem RowsAt.chain6 {q x : Nat} {mv : Value} {wr : World} {rows : List SV} {f : Nat → List (ByteArray × List Int)} (h : RowsAt q mv wr rows f) (hx : x ≤ q) (v0 v1 v2 v3 v4 v5 : Value) : RowsAt q mv ((((((wr.setCell ⟨x, 0, none⟩ v0).setCell ⟨x, 1, none⟩ v1).setCell ⟨x, 2, none⟩ v2).setCell ⟨x, 3, none⟩ v3).setCell ⟨x, 4, none⟩ v4).setCell ⟨x, 5, none⟩ v5) rows f :=
 (((((h.set hx _ _).set hx _ _).set hx _ _).set hx _ _).set hx _ _).set hx _ _
theorem set6_same {w : World} {B : Nat} {t : TypeId} {a0 a1 a2 a3 a4 a5 : Value} (h : w.heap[B]? = some (.cells #[a0, a1, a2, a3, a4, a5] t (0, 0))) (v0 v1 v2 v3 v4 v5 : Value) :
  ((((((w.setCell ⟨B, 0, none⟩ v0).setCell ⟨B, 1, none⟩ v1).setCell ⟨B, 2, none⟩ v2).setCell ⟨B, 3, none⟩ v3).setCell ⟨B, 4, none⟩ v4).setCell ⟨B, 5, none⟩ v5).heap[B]? = some (.cells #[v0, v1, v2, v3, v4, v5] t (0, 0)) :=
 (setc6 (w0 := { w with heap := #[] }) h ⟨rfl, rfl, rfl, Nat.zero_le _, fun k hk => absurd hk (Nat.not_lt_zero _)⟩ (Nat.zero_le _) v0 v1 v2 v3 v4 v5).1
end
section
variable {F0 Z0 : List Nat} {wf w w' : World} {base mb : Nat} {σ : RS} {l : PLay}
theorem ite_g {α : Type} {f : RS → α} {c : Prop} [Decidable c] {a b : RS × Int × Int} {n : α} (ha : f a.1 = n) (hb : f b.1 = n) : f (if c then a else b).1 = n := by split <;> assumption
theorem ite_g2 {α : Type} {f : RS → α} {c : Prop} [Decidable c] {a b : RS × Int} {n : α} (ha : f a.1 = n) (hb : f b.1 = n) : f (if c then a else b).1 = n := by split <;> assumption
theorem does_same {α : Type} (f : RS → α) (hR : ∀ (s : RS) d n, f (s.setR d n) = f s) (hM : ∀ (s : RS) M, f (s.setM M) = f s) (hV : ∀ (s : RS) V, f { s with V := V } = f s) (hdr : ∀ (s : RS) d, f { s with dr := d } = f s) (hdo : ∀ (s : RS) c, f (s.done c) = f s) (x : Ins) (k : Wh) (ho : k.kind = 12 → σ.S 0 = true → f { σ with over := true } = f σ) : f (σ.does x k).1 = f σ := by
 unfold RS.does
 refine ite_g (ite_g2 rfl (hR _ _ _)) (ite_g (ite_g rfl (hR _ _ _)) (ite_g ?_ (ite_g (ite_g rfl (hR _ _ _)) (ite_g (ite_g2 rfl (ite_g2 rfl (hR _ _ _))) (ite_g (ite_g2 rfl (ite_g2 (ite_g2 rfl (hM _ _)) (hM _ _))) (ite_g rfl (ite_g (ite_g rfl rfl) (ite_g (ite_g2 rfl (ite_g2 rfl (ite_g2 (ite_g2 rfl ((hdo _ _).trans (hdr _ _))) (ite_g2 (hV _ _) ((hdo _ _).trans (hV _ _)))))) ?_))))))))
 ·cases σ.L[σ.place.toNat + 1]? with
  | none => rfl
  | some y => exact hR _ _ _
 ·by_cases h12 : k.kind = 12
  ·rw [if_pos h12]
   cases hs : σ.S 0 with
   | false => rfl
   | true => exact ho h12 hs
  ·rw [if_neg h12]
theorem does_L (x : Ins) (k : Wh) : (σ.does x k).1.L = σ.L := does_same (fun s => s.L) (fun _ _ _ => rfl) (fun _ _ => rfl) (fun _ _ => rfl) (fun _ _ => rfl) (fun _ _ => rfl) x k (fun _ _ => rfl)
theorem does_place (x : Ins) (k : Wh) : (σ.does x k).1.place = σ.place := does_same (fun s => s.place) (fun _ _ _ => rfl) (fun _ _ => rfl) (fun _ _ => rfl) (fun _ _ => rfl) (fun _ _ => rfl) x k (fun _ _ => rfl)
theorem does_over (x : Ins) (k : Wh) (h : k.kind ≠ 12) : (σ.does x k).1.over = σ.over := does_same (fun s => s.over) (fun _ _ _ => rfl) (fun _ _ => rfl) (fun _ _ => rfl) (fun _ _ => rfl) (fun _ _ => rfl) x k (fun h' => absurd h' h)
theorem does_over12 (x : Ins) (k : Wh) (h : k.kind = 12) (he : (σ.does x k).2.2 = 0) : (σ.does x k).1.over = true := by
 have e : σ.does x k = if σ.S 0 = false then (σ, 0, 110) else ({ σ with over := true }, σ.place, 0) := by simp only [RS.does, h]; simp
 rw [e] at he ⊢
 cases hs : σ.S 0 with
 | false => rw [hs] at he; simp at he
 | true => simp
def PSAns2 (F0 Z0 : List Nat) (wf : World) (base mb : Nat) (r : RS × Bool × Int) (e : Ending) (w' : World) : Prop := e = .returned (.tuple #[.bool r.2.1, .int .i64 r.2.2]) ∧ PS F0 Z0 wf base w' mb r.1
set_option maxHeartbeats 2000000 in
theorem p_does11 (x : Ins) (k : Wh) (h : PS F0 Z0 wf base w mb σ) (ho : σ.Ok) (hD : DefsOk σ.D) (hdl : σ.dr.length ≤ 1000000) (hcl : σ.calls.length ≤ 1000000) (hx : x.Ok) (h1 : k.kind = 11) :
  Calls Tryz.prog 57 #[.pointer (some ⟨mb, 0, none⟩), x.agg, k.agg] w (PSAns2 F0 Z0 wf base mb ((σ.call x).1, false, (σ.call x).2)) := by
 have HL := η (fun W (he : Ext w W) => p_call x (h.go he) ho hD hdl hcl hx)
 obtain ⟨res, hres⟩ : ∃ r, RS.call σ x = r := ⟨_, rfl⟩
 rw [hres] at HL ⊢
 obtain ⟨op, dst, src, off, imm⟩ := x
 obtain ⟨kind, kop, wide, reg, sg, size⟩ := k
 simp only at h1
 subst h1
 clear hres h hx ho
 go_enter Tryz.func57, Tryz.ntmps57
 go_wp2_with fail
 refine (HL.out _ (by (repeat (first|exact xE0 _|assumption|refine xE1 ?_ _|refine xE2 ?_|refine xE3 ?_ _|refine xE4 ?_ (by assumption))))).mono ?_
 rintro e w1 ⟨rfl, hM⟩
 have HM := η hM
 clear hM
 go_wp2_with fail
 go_returns
 exact ⟨rfl, HM.out⟩
theorem p_doesA (x : Ins) (k : Wh) (p : Nat) (h : PS F0 Z0 wf base w mb σ) (ho : σ.Ok) (hD : DefsOk σ.D) (hdl : σ.dr.length ≤ 1000000) (hcl : σ.calls.length ≤ 1000000) (hio : InsOk σ.L) (hl : σ.L.length ≤ 512) (hx : x.Ok) (hk : KindOk x k) (hp : σ.place = p) (hy : k.kind = 3 → ∃ y, σ.L[p + 1]? = some y) (hr : k.kind = 2 → k.reg = false) :
  ∃ hops, NextOk σ x k hops ∧ Calls Tryz.prog 57 #[.pointer (some ⟨mb, 0, none⟩), x.agg, k.agg] w (PSAns2 F0 Z0 wf base mb ((σ.does x k).1, hops, (σ.does x k).2.2)) := by
 by_cases h11 : k.kind = 11
 ·have e : σ.does x k = ((σ.call x).1, ((nextI x σ.place.toNat : Nat) : Int), (σ.call x).2) := by simp only [RS.does, h11]; simp
  refine ⟨false, fun he => ?_, ?_⟩
  ·rw [e, if_neg (by omega)]; rfl
  ·rw [e]; exact p_does11 x k h ho hD hdl hcl hx h11
 ·obtain ⟨T, r, h⟩ := h
  obtain ⟨hops, h1, h2⟩ := p_doesN (σ := σ.vt T) x k p h ho hio hl hx hk hp hy hr h11
  have hv := vt_does (σ := σ) (T := T) x k h11
  refine ⟨hops, ?_, h2.mono ?_⟩
  ·have : NextOk (σ.vt T) x k hops := h1
   unfold NextOk at this ⊢
   rw [hv] at this
   exact this
  ·rintro e w' ⟨rfl, hM⟩
   rw [hv] at hM ⊢
   exact ⟨rfl, PS.of r (does_v x k h11) hM⟩
end
section
variable {F0 Z0 : List Nat} {wf w w' : World} {base mb : Nat} {σ : RS} {l : PLay}
theorem swapped_reg (x : Ins) (h : (whatZ x).kind = 2) : (whatZ x).reg = false := by
 unfold whatZ at h ⊢
 cases hw : whatS x with
 | none => rfl
 | some y =>
  rw [hw] at h
  simp only [Option.getD_some] at h ⊢
  unfold whatS at hw
  split at hw
  ·cases hw
  split at hw
  ·unfold wideS at hw
   repeat' split at hw
   all_goals first | (cases hw; done) | (cases hw; simp at h)
  split at hw
  ·unfold swapsS at hw
   repeat' split at hw
   all_goals first | (cases hw; done) | (cases hw; rfl)
  split at hw
  ·unfold arithS at hw
   repeat' split at hw
   all_goals first | (cases hw; done) | (cases hw; simp at h)
  split at hw
  ·unfold jumpsS at hw
   repeat' split at hw
   all_goals first | (cases hw; done) | (cases hw; simp at h)
  split at hw
  ·cases hw
  ·unfold movesS at hw
   repeat' split at hw
   all_goals first | (cases hw; done) | (cases hw; simp at h)
set_option maxRecDepth 20000 in
set_option maxHeartbeats 4000000 in
theorem p_Step (h : PS F0 Z0 wf base w mb σ) (hg : σ.Good) (hD : DefsOk σ.D) (ho : σ.over = false → ∃ p x, σ.On p x) :
  Calls Tryz.prog 27 #[.pointer (some ⟨mb, 0, none⟩)] w (PSAns F0 Z0 wf base mb σ.step.1 (.int .i64 σ.step.2)) := by
 have HM := η h
 have HG := η hg
 have hlt := h.lt
 obtain ⟨res, hres⟩ : ∃ r, RS.step σ = r := ⟨_, rfl⟩
 rw [hres]
 have HRES := η hres
 clear hres hg
 obtain ⟨T, _, h0, hl, l, g1, g2, g3⟩ := h
 have HAT := η g1
 have hc28 := g1.cell 28 rfl
 clear h0 hl g2 g3
 cases hov : σ.over
 case true =>
  rw [show (σ.vt T).over = true from hov] at hc28
  have HOV := η hov
  clear g1 hov ho
  go_enter Tryz.func27, Tryz.ntmps27
  go_wp2_with fail
  go_returns
  obtain rfl : res = (σ, 114) := by rw [← HRES.out, RS.step, if_pos HOV.out]
  exact ⟨rfl, HM.out⟩
 case false =>
  rw [show (σ.vt T).over = false from hov] at hc28
  obtain ⟨p, x, hon⟩ := ho hov
  have HOV := η hov
  have HON := η hon
  obtain ⟨la, ln, lc, hlv, hln, hLN⟩ := g1.code.val
  have hcd := g1.code
  have hc0 := g1.cell 0 rfl
  have hc27 := g1.cell 27 rfl
  rw [hlv] at hcd hc0
  rw [show (σ.vt T).place = (p : Int) from hon.place] at hc27
  have hpl : p < ln := by rw [hLN.out]; exact (List.getElem?_eq_some_iff.1 hon.code).1
  have hl5 : ln ≤ 512 := by rw [hLN.out]; exact HG.out.len
  have ix := fun W => hcd.run_at (P := Tryz.prog) el_ins.under el_ins.size .i64 (p : Int) (by omega) (by omega) W
  simp only [Int.toNat_natCast] at ix
  have hpt : σ.place.toNat = p := by have := hon.place; omega
  have HR : Hid (res = if (σ.does x (whatZ x)).2.2 ≠ 0 then ({ (σ.does x (whatZ x)).1 with over := true, code := (σ.does x (whatZ x)).2.2 }, (σ.does x (whatZ x)).2.2) else ({ (σ.does x (whatZ x)).1 with place := (σ.does x (whatZ x)).2.1, steps := (σ.does x (whatZ x)).1.steps + 1 }, 0)) := η (by
   rw [← HRES.out, RS.step, if_neg (by rw [hov]; decide), hpt, hon.code])
  have HPT := η hpt
  have HWH := η (fun W => p_What x W HON.out.ok)
  have HSS : Hid (∀ w', Ext w w' → w'.cell? ⟨mb, 0, none⟩ = some (.slice la ln lc) ∧ w'.cell? ⟨mb, 27, none⟩ = some (.int .i64 (p : Int)) ∧ w'.cell? (elt (.slice la ln lc) (p * 5)) = some (.int .u8 x.op) ∧ w'.cell? ⟨(elt (.slice la ln lc) (p * 5)).block, (elt (.slice la ln lc) (p * 5)).off + 1, none⟩ = some (.int .u8 x.dst) ∧ w'.cell? ⟨(elt (.slice la ln lc) (p * 5)).block, (elt (.slice la ln lc) (p * 5)).off + 2, none⟩ = some (.int .u8 x.src) ∧ w'.cell? ⟨(elt (.slice la ln lc) (p * 5)).block, (elt (.slice la ln lc) (p * 5)).off + 3, none⟩ = some (.int .i16 x.off) ∧ w'.cell? ⟨(elt (.slice la ln lc) (p * 5)).block, (elt (.slice la ln lc) (p * 5)).off + 4, none⟩ = some (.int .i32 x.imm)) := η (fun w' he => by
   obtain ⟨e0, e1, e2, e3, e4⟩ := ins_cells (hcd.ext he) hon.code
   exact ⟨he.cellOf hc0, he.cellOf hc27, e0, e1, e2, e3, e4⟩)
  clear g1 hov ho hon hlv hcd hpt hc0 hc27
  go_enter Tryz.func27, Tryz.ntmps27
  go_upto_region 5 with fail
  go_cut [3] from 16 to 26 (fun v wx => ∃ q, v = .pointer (some ⟨q, 0, none⟩) ∧ Hid (w.heap.size ≤ q ∧ Ext w wx ∧ wx.heap[q]? = some (insObj x)))
  case first =>
   obtain ⟨i0, i1, i2, i3, i4, i5, i6⟩ := HSS.out w (Ext.rfl' _)
   go_region_held3 (fun w' => w'.cell? ⟨mb, 0, none⟩ = some (.slice la ln lc) ∧ w'.cell? ⟨mb, 27, none⟩ = some (.int .i64 (p : Int)) ∧ w'.cell? (elt (.slice la ln lc) (p * 5)) = some (.int .u8 x.op) ∧ w'.cell? ⟨(elt (.slice la ln lc) (p * 5)).block, (elt (.slice la ln lc) (p * 5)).off + 1, none⟩ = some (.int .u8 x.dst) ∧ w'.cell? ⟨(elt (.slice la ln lc) (p * 5)).block, (elt (.slice la ln lc) (p * 5)).off + 2, none⟩ = some (.int .u8 x.src) ∧ w'.cell? ⟨(elt (.slice la ln lc) (p * 5)).block, (elt (.slice la ln lc) (p * 5)).off + 3, none⟩ = some (.int .i16 x.off) ∧ w'.cell? ⟨(elt (.slice la ln lc) (p * 5)).block, (elt (.slice la ln lc) (p * 5)).off + 4, none⟩ = some (.int .i32 x.imm))
    ((refine HSS.out _ ?_; (repeat (first|exact xE0 _|assumption|refine xE1 ?_ _|refine xE2 ?_|refine xE3 ?_ _|refine Below.setCell ?_ (by first | (simp; done) | (simp; omega) | omega) _ | refine Ext.trans' ?_ (by assumption)))))
    (fail)
   all_goals
    go_wp2_with fail
    go_meet
    exact ⟨_, rfl, η ⟨Nat.le_refl _, by (repeat (first|exact xE0 _|assumption|refine xE1 ?_ _|refine xE2 ?_|refine xE3 ?_ _|refine Below.setCell ?_ (by first | (simp; done) | (simp; omega) | omega) _ | refine Ext.trans' ?_ (by assumption))), obj_top _ _ rfl⟩⟩
  case rest =>
   obtain ⟨q, rfl, HC⟩ := hcut
   obtain ⟨hq, hE1, hb⟩ := HC.out
   have HE1 := η hE1
   have HO1 := η hb
   clear hE1 hb HC
   (have o1 := HO1.out; have a0 := cO (i := 0) o1; have a1 := cO (i := 1) o1; have a2 := cO (i := 2) o1; have a3 := cO (i := 3) o1; have a4 := cO (i := 4) o1; simp only [gA, gB, gC] at a0 a1 a2 a3 a4; clear o1)
   go_upto_region 6 with fail
   go_cut [4] from 26 to 31 (fun v wx => ∃ r, v = .pointer (some ⟨r, 0, none⟩) ∧ Hid (Ext w wx ∧ wx.heap[q]? = some (insObj x) ∧ wx.heap[r]? = some (whObj (whatZ x))))
   case first =>
    go_wp2_with fail
    refine (HWH.out _).mono ?_
    rintro e w2 ⟨rfl, hE2⟩
    have HE2 := η hE2
    clear hE2
    go_wp2_with fail
    go_meet
    exact ⟨_, rfl, η ⟨HE1.out.trans' (HE2.out.trans' ((Ext.rfl' _).alloc' _)), obj_old _ (HE2.out.obj HO1.out), obj_top _ _ rfl⟩⟩
   case rest =>
    obtain ⟨r, rfl, HC⟩ := hcut
    obtain ⟨hE2, hb, hb2⟩ := HC.out
    have HE2 := η hE2
    have HO1' := η hb
    have HO3 := η hb2
    clear hE2 hb hb2 HC a0 a1 a2 a3 a4 HO1
    have HO1 := HO1'
    clear HO1'
    obtain ⟨hops, hnx, hdo⟩ := p_doesA x (whatZ x) p (HM.out.go HE2.out) HG.out.ok hD HG.out.drl HG.out.calls HG.out.ins HG.out.len HON.out.ok HON.out.kind HON.out.place HON.out.long (swapped_reg x)
    have HNX := η hnx
    have HDO := η hdo
    have HST := η (does_steps (σ := σ) x (whatZ x))
    have HLL := η (does_L (σ := σ) x (whatZ x))
    have HPP := η (does_place (σ := σ) x (whatZ x))
    have HOO := η (does_over (σ := σ) x (whatZ x))
    have HO12 := η (does_over12 (σ := σ) x (whatZ x))
    obtain ⟨τ, nx, er, hd⟩ : ∃ a b c, σ.does x (whatZ x) = (a, b, c) := ⟨_, _, _, rfl⟩
    unfold NextOk at HNX
    rw [hd] at HNX HDO HST HLL HPP HOO HO12 HR
    simp only at HNX HDO HST HLL HPP HOO HO12 HR
    clear hd hnx hdo
    obtain ⟨kd, hkd⟩ : ∃ n, (whatZ x).kind = n := ⟨_, rfl⟩
    rw [hkd] at HNX HOO HO12
    clear hkd
    (have o1 := HO1.out; have o3 := HO3.out; have a0 := cO (i := 0) o1; have a1 := cO (i := 1) o1; have a2 := cO (i := 2) o1; have a3 := cO (i := 3) o1; have a4 := cO (i := 4) o1; have q0 := cO (i := 0) o3; have q1 := cO (i := 1) o3; have q2 := cO (i := 2) o3; have q3 := cO (i := 3) o3; have q4 := cO (i := 4) o3; have q5 := cO (i := 5) o3; simp only [gA, gB, gC] at a0 a1 a2 a3 a4 q0 q1 q2 q3 q4 q5; clear o1 o3)
    go_wp2_with fail
    refine HDO.out.mono ?_
    rintro e w3 ⟨rfl, hM3⟩
    have HM3 := η hM3
    obtain ⟨T3, hr3, hp3⟩ := hM3
    have HVR := η hr3
    have HP3 := η hp3
    obtain ⟨h0, hl, l3, g1, g2, g3⟩ := hp3
    have d28 := g1.cell 28 rfl
    have d29 := g1.cell 29 rfl
    have d30 := g1.cell 30 rfl
    have df := fun i => frozen_obj (i := i) g1.head
    have hst : τ.steps = σ.steps := HST.out
    have hd30 : w3.cell? ⟨mb, 30, none⟩ = some (.int .i64 σ.steps) := by rw [d30]; exact congrArg _ (congrArg _ hst)
    have hd28 : w3.cell? ⟨mb, 28, none⟩ = some (.bool τ.over) := d28
    have hd29 : w3.cell? ⟨mb, 29, none⟩ = some (.int .i64 τ.code) := d29
    have hs0 := HG.out.steps
    have hw1 : wrap64 (σ.steps + 1) = σ.steps + 1 := by unfold wrap64; omega
    have hlt3 := heap_lt g1.head
    clear h0 hl g1 g2 g3 hst a0 a1 a2 a3 a4 q0 q1 q2 q3 q4 q5 d28 d29 d30
    by_cases her : (er != 0) = true
    ·obtain rfl : res = ({ τ with over := true, code := er }, er) := by rw [HR.out]; exact if_pos (by simpa using her)
     go_wp2_with fail
     go_returns
     exact ⟨rfl, T3, HVR.out, (HP3.out.cell1 28 (.bool true) (σ' := ({ τ with over := true } : RS).vt T3) (fun l => rfl)).cell1 29 (.int .i64 er) (fun l => rfl)⟩
    ·obtain rfl : er = 0 := by simpa using her
     have HRR : Hid (res = ({ τ with place := nx, steps := σ.steps + 1 }, 0)) := η (by rw [HR.out]; rw [if_neg (by simp)]; rw [show τ.steps = σ.steps from HST.out])
     have HS4 := η (HP3.out.cell1 30 (.int .i64 (σ.steps + 1)) (σ' := ({ τ with steps := σ.steps + 1 } : RS).vt T3) (fun l => rfl))
     clear her HR
     cases hto : τ.over
     ·rw [hto] at hd28
      have hk12 : kd ≠ 12 := fun h => by have := HO12.out h rfl; rw [hto] at this; cases this
      have HNN : Hid (nx = if hops = true then (targetS σ.L x p).getD 0 else ((nextI x p : Nat) : Int)) := η (by
       have := HNX.out rfl
       rw [if_neg hk12, HPT.out] at this
       exact this)
      clear HNX HO12 HOO hk12
      have HX0 := HS4.out
      obtain ⟨h0, hl, l4, g1, g2, g3⟩ := HS4.out
      obtain ⟨ea, en, ec, hev, hen, hEN⟩ := g1.code.val
      have HCD := η g1.code
      rw [hev] at HCD
      have k0 := g1.cell 0 rfl
      rw [hev] at k0
      have k27 := g1.cell 27 rfl
      rw [show (({ τ with steps := σ.steps + 1 } : RS).vt T3).place = (p : Int) from HPP.out.trans HON.out.place] at k27
      have k28 := g1.cell 28 rfl
      rw [show (({ τ with steps := σ.steps + 1 } : RS).vt T3).over = false from hto] at k28
      have hf4 := fun i => frozen_obj (i := i) g1.head
      have HOB := η g1.head
      have HLX : Hid ((({ τ with steps := σ.steps + 1 } : RS).vt T3).L = σ.L) := HLL
      have hlt4 := heap_lt g1.head
      rw [HLX.out] at HCD
      clear h0 hl g1 g2 g3 hto hev
      cases hops
      ·go_upto_region 12 with fail
       generalize w3.setCell ⟨mb, 30, none⟩ (.int .i64 (σ.steps + 1)) = w4 at *
       have k0g := Grow.cell k0
       have k27g := Grow.cell k27
       clear k0 k27
       have HNC := η (fun W (he : Ext w4 W) => p_Next _ σ.L p x W (HCD.out.ext he) (by have := HG.out.len; omega) HON.out.code)
       (refine wp_region_ext_tail 12 (by kernel_rfl) (by kernel_rfl) ?_; simp only [List.take_succ_cons, List.take_zero]; (repeat (go_big_quiet_step ((go_at_call 59; exact Calls.grow (HNC.out _ (Grow.ext _)))))); refine wpQuiet_nil ?_; rintro wz ⟨nz, hz⟩; have hwq := nz.ext; rw [← hz] at hwq; simp only [List.drop_succ_cons, List.drop_zero]; clear hz)
       have HP6 := η (HS4.out.go hwq)
       obtain ⟨h0, hl, l6, g1, g2, g3⟩ := HP6.out
       have m27 := g1.cell 27 rfl
       have mf := fun i => frozen_obj (i := i) g1.head
       clear h0 hl g1 g2 g3
       go_wp2_with fail
       go_returns
       obtain rfl := HRR.out
       refine ⟨rfl, T3, HVR.out, ?_⟩
       rw [HNN.out]
       exact HP6.out.cell1 27 (.int .i64 ((nextI x p : Nat) : Int)) (fun l => rfl)
      ·go_upto_region 15 with fail
       generalize w3.setCell ⟨mb, 30, none⟩ (.int .i64 (σ.steps + 1)) = w4 at *
       have HNC := η (fun W (he : Ext w4 W) => p_Target _ σ.L p x W (HCD.out.ext he) (by have := HG.out.len; omega) HON.out.code HON.out.ok)
       have HFM := η (fun W (he : Ext w4 W) => (⟨he.cellOf k27, frozen_obj (he.obj HOB.out)⟩ : W.cell? ⟨mb, 27, none⟩ = some (.int .i64 (p : Int)) ∧ W.frozen? ⟨mb, 27, none⟩ = false))
       go_region_law ((go_simp; go_at_call 58; refine (HNC.out _ (by (repeat (first|exact xE0 _|assumption|refine xE1 ?_ _|refine xE2 ?_|refine xE3 ?_ _|refine xE4 ?_ (by assumption))))).mono ?_; rintro e w6 ⟨rfl, hE6⟩; have hE7 : Ext w4 w6 := (by (repeat (first|exact xE0 _|assumption|refine xE1 ?_ _|refine xE2 ?_|refine xE3 ?_ _|refine xE4 ?_ (by assumption)))); have HP6 := η (HS4.out.go hE7); obtain ⟨m27, mf⟩ := HFM.out w6 hE7; clear hE6 hE7))
       all_goals
        go_wp2_with fail
        go_returns
        obtain rfl := HRR.out
        refine ⟨rfl, T3, HVR.out, ?_⟩
        rw [HNN.out]
        exact HP6.out.cell1 27 (.int .i64 ((targetS σ.L x p).getD 0)) (fun l => rfl)
     ·rw [hto] at hd28
      have hk12 : kd = 12 := by
       by_cases h : kd = 12
       ·exact h
       ·have := HOO.out h
        rw [hto] at this
        rw [HOV.out] at this
        cases this
      have HNN : Hid (nx = σ.place) := η (by have := HNX.out rfl; rw [if_pos hk12] at this; exact this)
      have hc28' : (w3.setCell ⟨mb, 30, none⟩ (.int .i64 (σ.steps + 1))).cell? ⟨mb, 28, none⟩ = some (.bool true) := by
       obtain ⟨h0, hl, l4, g1, g2, g3⟩ := HS4.out
       have := g1.cell 28 rfl
       rw [show (({ τ with steps := σ.steps + 1 } : RS).vt T3).over = true from hto] at this
       exact this
      clear HNX HO12 HOO hk12 hto
      go_wp2_with fail
      go_returns
      obtain rfl := HRR.out
      refine ⟨rfl, T3, HVR.out, ?_⟩
      rw [HNN.out, ← HPP.out]
      exact HS4.out
end
end Go.Proofs.YtppefchjoodgnaaGreat
