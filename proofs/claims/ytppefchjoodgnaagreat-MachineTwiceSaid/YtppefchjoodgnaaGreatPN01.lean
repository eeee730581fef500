/- What the claim leans on: Base · Base2 · Map. -/
import Derived.WalkKit
import Derived.WalkSpells
import Derived.WalkLawsBesides
import Derived.Lib.Hide
import Derived.Lib.SliceRun
import Derived.Laws.AppendOwnNone
import Derived.Handy
import Derived.Deep.QuietTactic
import Derived.BigQuiet
import Derived.Deep.RegionHeld3
namespace Go.Proofs.YtppefchjoodgnaaGreat
open Go.RowKit
abbrev Ext (w w' : World) : Prop := Below w.heap.size w w'
theorem Ext.rfl' (w : World) : Ext w w := Below.refl _ _
theorem Ext.trans' {a b c : World} (h : Ext a b) (k : Ext b c) : Ext a c := Below.trans h (Below.mono k h.size)
theorem Ext.drewN' {w W : World} (h : Ext w W) (n : Nat) : Ext w (W.drewN n) := h.trans ⟨rfl, rfl, rfl, Nat.le_refl _, fun _ _ => rfl⟩
theorem Ext.drew' {w W : World} (h : Ext w W) : Ext w W.drew := Below.drew h
theorem Ext.alloc' {w W : World} (h : Ext w W) (o : Obj) : Ext w (W.alloc o) := Below.alloc h h.size o
theorem Ext.cellOf {w w' : World} (h : Ext w w') {a : Addr} {v : Value} (hc : w.cell? a = some v) : w'.cell? a = some v :=
 (Below.cell h (World.block_lt_of_cell? w a hc)).trans hc
theorem bcell {B : Nat} {W w1 : World} (hb : Below B W w1) : (∀ b o, b < B → w1.cell? ⟨b, o, none⟩ = W.cell? ⟨b, o, none⟩) ∧ (∀ b o, b < B → w1.frozen? ⟨b, o, none⟩ = W.frozen? ⟨b, o, none⟩) :=
 ⟨fun b o h => hb.cell (p := ⟨b, o, none⟩) h, fun b o h => hb.frozen (p := ⟨b, o, none⟩) h⟩
theorem Ext.keep {w w1 : World} (h : Ext w w1) {a : Addr} {v : Value} (hc : w.cell? a = some v) : w1.cell? a = some v ∧ a.block < w1.heap.size :=
 ⟨h.cellOf hc, World.block_lt_of_cell? w1 a (h.cellOf hc)⟩
theorem cut_le (need old : Nat) (e : TypeId) (t : Nat) (h : need ≤ maxLen) : (Question.appendCap need old e).cut t ≤ maxLen := by
 have hlt := Nat.mod_lt t (show 0 < 2 ^ 63 - need by simp only [maxLen] at h; omega)
 simp only [Question.cut, maxLen] at h ⊢
 omega
def elt (v : Value) (i : Nat) : Addr :=
 match v with
 | .slice (some a) _ _ => a.add i
 | _ => ⟨0, 0, none⟩
def cutV (v : Value) (l h s : Nat) : Value :=
 match v with
 | .slice a _ c => sliced a l h c s
 | _ => v
def isNilV (v : Value) : Bool :=
 match v with
 | .slice none _ _ => true
 | _ => false
def Rd {α : Type} (w : World) (sz : Nat) (enc : α → List Value) (v : Value) (xs : List α) : Prop :=
 ∃ a c, v = .slice a xs.length c ∧ xs.length ≤ c ∧ c ≤ maxLen ∧ (a = none → xs = [] ∧ c = 0) ∧
  ∀ i x, xs[i]? = some x → ∀ j u, (enc x)[j]? = some u → w.cell? (elt v (i * sz + j)) = some u
abbrev Sl (w : World) (k : IntKind) (v : Value) (xs : List Int) : Prop := Rd w 1 (fun x => [Value.int k x]) v xs
section
variable {α : Type} {w w' : World} {sz : Nat} {enc : α → List Value} {v : Value} {xs : List α}
theorem Rd.ext (h : Rd w sz enc v xs) (he : Ext w w') : Rd w' sz enc v xs := by
 obtain ⟨a, c, h1, h2, h3, h4, h5⟩ := h
 exact ⟨a, c, h1, h2, h3, h4, fun i x hx j u hu => he.cellOf (h5 i x hx j u hu)⟩
theorem Rd.nil (w : World) (sz : Nat) (enc : α → List Value) : Rd w sz enc (.slice none 0 0) ([] : List α) :=
 ⟨none, 0, rfl, Nat.le_refl _, Nat.zero_le _, fun _ => ⟨rfl, rfl⟩, fun i x hx => by simp at hx⟩
theorem Rd.le (h : Rd w sz enc v xs) : xs.length ≤ 9223372036854775807 := by
 obtain ⟨a, c, h1, h2, h3, h4, h5⟩ := h
 simp only [maxLen] at h3; omega
theorem Rd.cell (h : Rd w sz enc v xs) {i : Nat} {x : α} (hx : xs[i]? = some x) {j : Nat} {u : Value} (hu : (enc x)[j]? = some u) : w.cell? (elt v (i * sz + j)) = some u := by
 obtain ⟨a, c, h1, h2, h3, h4, h5⟩ := h
 exact h5 i x hx j u hu
theorem Rd.val (h : Rd w sz enc v xs) : ∃ a n c, v = .slice a n c ∧ n ≤ 9223372036854775807 ∧ Hid (n = xs.length) := by
 have := h.le
 obtain ⟨a, c, h1, _⟩ := h; exact ⟨a, _, c, h1, this, Lib.hid rfl⟩
theorem Rd.num {a : Option Addr} {n c : Nat} (h : Rd w sz enc (.slice a n c) xs) : n = xs.length := by
 obtain ⟨a', c', h1, _⟩ := h; injection h1
theorem flat_len {enc : α → List Value} {sz : Nat} (h : ∀ x, (enc x).length = sz) : ∀ l : List α, (l.flatMap enc).length = l.length * sz
 | [] => by simp
 | x :: l => by rw [List.flatMap_cons, List.length_append, h, flat_len h l, List.length_cons, Nat.add_mul]; omega
theorem flat1 {β : Type} (f : α → β) : ∀ l : List α, l.flatMap (fun x => [f x]) = l.map f
 | [] => rfl
 | x :: l => by rw [List.flatMap_cons, flat1 f l]; rfl
theorem Rd.own {e : TypeId} {base : Nat} (h : w.ownsRow base e sz v xs.length (xs.flatMap enc)) (hlen : ∀ x, (enc x).length = sz) : Rd w sz enc v xs := by
 have hcells := @World.ownsRow.cells w base e sz v xs.length (xs.flatMap enc) h
 obtain ⟨h1, h2⟩ := h
 have key : ∀ (l : List α) (i : Nat) (x : α), l[i]? = some x → ∀ j u, (enc x)[j]? = some u → (l.flatMap enc)[i * sz + j]? = some u := by
  intro l
  induction l with
  | nil => intro i x hx; simp at hx
  | cons y l ih =>
   intro i x hx j u hu
   have hj : j < sz := by rw [← hlen x]; exact (List.getElem?_eq_some_iff.1 hu).1
   cases i with
   | zero =>
    simp at hx; subst hx
    rw [List.flatMap_cons, List.getElem?_append_left (by rw [hlen]; omega)]
    simpa using hu
   | succ i =>
    rw [List.flatMap_cons, List.getElem?_append_right (by rw [hlen, Nat.add_mul]; omega), hlen]
    have := ih i x (by simpa using hx) j u hu
    rwa [show (i + 1) * sz + j - sz = i * sz + j from by rw [Nat.add_mul]; omega]
 rcases h2 with ⟨hv, hn⟩ | ⟨g, cap, cur, hv, hb, hg, hnc, hcm, hcs, ht⟩
 ·have : xs = [] := List.eq_nil_of_length_eq_zero hn
  subst this; subst hv
  exact Rd.nil _ _ _
 ·refine ⟨some ⟨g, 0, none⟩, cap, hv, hnc, hcm, (fun e => by cases e), ?_⟩
  intro i x hx j u hu
  have := hcells (g := g) (by rw [hv]; rfl) (i * sz + j) u (key xs i x hx j u hu)
  subst hv
  exact this
variable {P : Program} {a : Option Addr} {n c : Nat}
theorem Rd.run_at (h : Rd w sz enc (.slice a n c) xs) {t : TypeId} {e : TypeId} (ht : P.underlying t = some (.slice e)) (hs : ∀ W, (Go.sizeOf e).run P W = .ok sz W) (k : IntKind) (i : Int) (h0 : 0 ≤ i) (h1 : i < n) (W : World) :
  (Instr.indexAt t (.slice a n c) (.int k i)).run P W = .ok (.pointer (some (elt (.slice a n c) (i.toNat * sz)))) W := by
 have hn := h.num
 obtain ⟨a', c', hv, h2, h3, h4, h5⟩ := h
 injection hv with e1 e2 e3
 subst e1
 cases a with
 | none =>
  have := (h4 rfl).1; subst this; simp at hn; omega
 | some a =>
  simp [Instr.indexAt, run_underlying ht, asIntOf, h0, h1, hs, elt]
theorem Rd.run_nil (_h : Rd w sz enc (.slice a n c) xs) {t : TypeId} {e : TypeId} (ht : P.underlying t = some (.slice e)) (W : World) :
  (binOp .eql t (.slice a n c) (.slice none 0 0)).run P W = .ok (.bool (isNilV (.slice a n c))) W := by
 rw [Lib.run_eql_slice_nil (h := ht)]
 cases a <;> rfl
theorem Rd.of_isNil (h : Rd w sz enc (.slice none n c) xs) : n = 0 ∧ c = 0 ∧ xs = [] := by
 have hn := h.num
 obtain ⟨a', c', hv, h2, h3, h4, h5⟩ := h
 injection hv with e1 e2 e3
 obtain ⟨h6, h7⟩ := h4 e1.symm
 subst h6; subst e3
 exact ⟨hn, h7, rfl⟩
theorem Rd.cut (h : Rd w sz enc v xs) {l m : Nat} (hl : l ≤ m) (hm : m ≤ xs.length) : Rd w sz enc (cutV v l m sz) ((xs.drop l).take (m - l)) := by
 obtain ⟨a, c, hv, h2, h3, h4, h5⟩ := h
 subst hv
 have hlen : ((xs.drop l).take (m - l)).length = m - l := by simp; omega
 refine ⟨if c = l then a else a.map (·.add (l * sz)), c - l, ?_, by omega, by omega, ?_, ?_⟩
 ·simp only [cutV, sliced, hlen]
 ·intro hn
  have : a = none := by
   by_cases hc : c = l
   ·simpa [hc] using hn
   ·simpa [hc] using hn
  obtain ⟨h6, h7⟩ := h4 this
  subst h6
  simp at hm ⊢; omega
 ·intro i x hx j u hu
  have hi : i < m - l := by have := (List.getElem?_eq_some_iff.1 hx).1; omega
  have hx' : xs[l + i]? = some x := by
   rw [List.getElem?_take_of_lt hi, List.getElem?_drop] at hx; exact hx
  have hcl : c ≠ l := by omega
  have := h5 (l + i) x hx' j u hu
  cases a with
  | none => have := (h4 rfl).1; subst this; simp at hm; omega
  | some a =>
   simp only [cutV, sliced, hcl, if_false, Option.map_some, elt, Addr.add_add] at this ⊢
   rw [show l * sz + (i * sz + j) = (l + i) * sz + j from by rw [Nat.add_mul]; omega]
   exact this
theorem Rd.run_cut_lh (h : Rd w sz enc (.slice a n c) xs) {t : TypeId} {e : TypeId} (ht : P.underlying t = some (.slice e)) (hs : ∀ W, (Go.sizeOf e).run P W = .ok sz W) (kl kh : IntKind) (l m : Int) (h0 : 0 ≤ l) (h1 : l ≤ m) (h2 : m ≤ n) (W : World) :
  (Instr.sliceAt t (.slice a n c) (some (.int kl l)) (some (.int kh m)) none).run P W = .ok (cutV (.slice a n c) l.toNat m.toNat sz) W := by
 have hn := h.num
 obtain ⟨a', c', hv, h3, _⟩ := h
 injection hv with e1 e2 e3
 have em : (m.toNat : Int) = m := Int.toNat_of_nonneg (by omega)
 simp [Instr.sliceAt, Instr.slice, run_underlying ht, Instr.sliceBounds, run_sliceBound, sliced, cutV, hs, em, h0, h1, (by omega : m ≤ c), (by omega : 0 ≤ m)]
theorem Rd.run_cut_h (h : Rd w sz enc (.slice a n c) xs) {t : TypeId} {e : TypeId} (ht : P.underlying t = some (.slice e)) (hs : ∀ W, (Go.sizeOf e).run P W = .ok sz W) (kh : IntKind) (m : Int) (h1 : 0 ≤ m) (h2 : m ≤ n) (W : World) :
  (Instr.sliceAt t (.slice a n c) none (some (.int kh m)) none).run P W = .ok (cutV (.slice a n c) 0 m.toNat sz) W := by
 have hn := h.num
 obtain ⟨a', c', hv, h3, _⟩ := h
 injection hv with e1 e2 e3
 simp [Instr.sliceAt, Instr.slice, run_underlying ht, Instr.sliceBounds, run_sliceBound, sliced, cutV, hs, h1, (by omega : m ≤ c)]
theorem Rd.run_cut_l (h : Rd w sz enc (.slice a n c) xs) {t : TypeId} {e : TypeId} (ht : P.underlying t = some (.slice e)) (hs : ∀ W, (Go.sizeOf e).run P W = .ok sz W) (kl : IntKind) (l : Int) (h0 : 0 ≤ l) (h1 : l ≤ n) (W : World) :
  (Instr.sliceAt t (.slice a n c) (some (.int kl l)) none none).run P W = .ok (cutV (.slice a n c) l.toNat n sz) W := by
 have hn := h.num
 obtain ⟨a', c', hv, h3, _⟩ := h
 injection hv with e1 e2 e3
 simp [Instr.sliceAt, Instr.slice, run_underlying ht, Instr.sliceBounds, run_sliceBound, sliced, cutV, hs, h0, h1]
end
structure El (P : Program) (t e : TypeId) (sz bytes : Nat) (z : Value) : Prop where
 under : P.underlying t = some (.slice e)
 info : (P.info? e).map (fun i => (i.zero, i.size, i.bytes)) = some (some z, sz, bytes)
 zs : z.cells.size = sz
 pos : 0 < sz
 size : ∀ W, (Go.sizeOf e).run P W = .ok sz W
structure Enc {α : Type} (sz : Nat) (enc : α → List Value) : Prop where
 len : ∀ x, (enc x).length = sz
 one : ∀ x u, u ∈ enc x → u.oneCell' = true
theorem enc_int (k : IntKind) : Enc 1 (fun x => [Value.int k x]) := ⟨fun _ => rfl, fun x u hu => by simp at hu; subst hu; rfl⟩
theorem enc_bool : Enc 1 (fun x => [Value.bool x]) := ⟨fun _ => rfl, fun x u hu => by simp at hu; subst hu; rfl⟩
def Own {α : Type} (w : World) (base : Nat) (e : TypeId) (sz : Nat) (enc : α → List Value) (v : Value) (xs : List α) : Prop :=
 w.ownsRow base e sz v xs.length (xs.flatMap enc)
section
variable {α : Type} {w w' : World} {sz : Nat} {enc : α → List Value} {v : Value} {xs : List α} {base : Nat} {e : TypeId}
theorem Own.rd (h : Own w base e sz enc v xs) (he : Enc sz enc) : Rd w sz enc v xs := Rd.own h he.len
theorem Own.nil (w : World) (base : Nat) (e : TypeId) (sz : Nat) (enc : α → List Value) : Own w base e sz enc (.slice none 0 0) ([] : List α) := World.ownsRow_nil w base e sz
theorem Own.made (w : World) (base : Nat) (e : TypeId) (sz : Nat) (enc : α → List Value) {b : Nat} (hw : b = w.heap.size) (hb : base ≤ w.heap.size) : Own (w.alloc (.cells #[] e)) base e sz enc (.slice (some ⟨b, 0, none⟩) 0 0) ([] : List α) := by
 subst hw
 exact World.ownsRow_made w #[] 0 hb (Nat.zero_le _) (by simp)
theorem Own.lt {k : Nat} (h : Own w base e sz enc v xs) (hk : v.ownBlock = some k) : base ≤ k ∧ k < w.heap.size := World.ownsRow.lt h k hk
theorem Own.below {B : Nat} {W : World} {v0 : Value} {xs0 : List α} (h : Own w base e sz enc v0 xs0) (hg : w.grownBy w' v0.ownBlock) (hb : Below B W w) (hB : B ≤ w.heap.size) (hB' : B ≤ base) : Below B W w' :=
 hb.grown hg hB (fun k hk => by have := h.lt hk; omega)
theorem Own.grown {row : Option Nat} (h : Own w base e sz enc v xs) (hg : w.grownBy w' row) (hne : v.ownBlock = none ∨ v.ownBlock ≠ row) : Own w' base e sz enc v xs := World.ownsRow.kept h hg hne
theorem Own.alloc (h : Own w base e sz enc v xs) (o : Obj) : Own (w.alloc o) base e sz enc v xs := World.ownsRow.alloc h o
theorem Own.ext (h : Own w base e sz enc v xs) (he : Ext w w') : Own w' base e sz enc v xs :=
 World.ownsRow.kept h ⟨he.os, he.tape, he.output, he.size, fun k hk _ => he.block k hk⟩ (row := none) (by cases hv : v.ownBlock <;> simp)
theorem Own.drew (h : Own w base e sz enc v xs) : Own w.drew base e sz enc v xs := h
theorem Own.mono {base' : Nat} (h : Own w base e sz enc v xs) (hb : base' ≤ base) : Own w base' e sz enc v xs := by
 obtain ⟨h1, h2⟩ := h
 refine ⟨h1, ?_⟩
 rcases h2 with h2 | ⟨g, cap, cur, hv, hg, r⟩
 ·exact .inl h2
 ·exact .inr ⟨g, cap, cur, hv, by omega, r⟩
variable {P : Program} {ops : Array Oper} {rest : List Oper} {o : Oper} {a : Act} {Q : Exit → Act → World → Prop}
theorem app_own {t : TypeId} {bytes : Nat} {z : Value} (T : El P t e sz bytes z) (E : Enc sz enc) (hgd : o.guard = none) (s x : Operand)
  (ho : o.op = .call { callee := .builtin .append, args := #[s, x], argTypes := #[t, t] })
  (hs : a.eval s = v) (hown : Own w base e sz enc v xs) {y : Value} {ys : List α} (hx : a.eval x = y) (hy : Rd w sz enc y ys)
  (hbytes : (xs.length + ys.length) * bytes ≤ 140737488355328 ∧ xs.length + ys.length ≤ 9223372036854775807) (hbase : base ≤ w.heap.size)
  (h : ∀ v' w', Own w' base e sz enc v' (xs ++ ys) → w.grownBy w' v.ownBlock → (∀ B W, Below B W w → B ≤ base → Below B W w') → wpList P ops Q rest (a.put o.dst v') w') : wpList P ops Q (o :: rest) a w := by
 obtain ⟨i0, hi, hz0, hz1, hz2⟩ := info_parts T.info
 obtain ⟨ya, yc, rfl, h2, h3, h4, h5⟩ := hy
 cases ya with
 | none =>
  obtain ⟨rfl, rfl⟩ := h4 rfl
  exact wpList_append_own_none hgd s x t ho base e i0 sz T.under hi v xs.length (xs.flatMap enc) hs hown hx (h v w (by simpa using hown) (World.grownBy.refl _ _) (fun _ _ hB _ => hB))
 | some ad =>
  have key : ∀ (l : List α) (k : Nat), (∀ i x, l[i]? = some x → ∀ j u, (enc x)[j]? = some u → w.cell? (ad.add ((k + i) * sz + j)) = some u) → ∀ j u, (l.flatMap enc)[j]? = some u → w.cell? (ad.add (k * sz + j)) = some u := by
   intro l
   induction l with
   | nil => intro k _ j u hj; simp at hj
   | cons q l ih =>
    intro k hk j u hj
    rw [List.flatMap_cons] at hj
    by_cases hlt : j < sz
    ·rw [List.getElem?_append_left (by rw [E.len]; exact hlt)] at hj
     simpa using hk 0 q rfl j u hj
    ·rw [List.getElem?_append_right (by rw [E.len]; omega), E.len] at hj
     have := ih (k + 1) (fun i x hx' j' u' hu' => by
      have := hk (i + 1) x (by simpa using hx') j' u' hu'
      rwa [show k + 1 + i = k + (i + 1) from by omega]) (j - sz) u hj
     rwa [show (k + 1) * sz + (j - sz) = k * sz + j from by rw [Nat.add_mul]; omega] at this
  refine wpList_append_own w hgd s x t ho base e i0 z sz bytes T.under hi hz0 hz1 hz2 T.zs T.pos v xs.length (xs.flatMap enc) hs hown ad ys.length yc (ys.flatMap enc) hx ?_ ?_ ?_ (by simp only [maxLen]; omega) hbytes.1 hbase ?_
  ·exact flat_len E.len ys
  ·intro j u hj
   have := key ys 0 (fun i x hx' j' u' hu' => by simpa [elt] using h5 i x hx' j' u' hu') j u hj
   simpa using this
  ·intro u hu
   obtain ⟨x, _, hx⟩ := List.mem_flatMap.1 hu
   exact E.one x u hx
  ·intro v' w' h1 hg _
   exact h v' w' (by show World.ownsRow _ _ _ _ _ _ _; rw [List.flatMap_append, List.length_append]; exact h1) hg (fun B W hB hle => hown.below hg hB (Nat.le_trans hle hbase) hle)
end
abbrev After (W : World) : Type := { u : World // Ext W u }
instance (W : World) : Nonempty (After W) := ⟨⟨W, Ext.rfl' W⟩⟩
theorem Calls.after {P : Program} {f : FuncId} {args : Array Value} {W : World} {n : After W} {v : Value} (h : Calls P f args n.val fun e w' => e = .returned v ∧ Ext n.val w') :
  Calls P f args n.val fun e w'' => e = .returned v ∧ ∃ m : After W, w'' = m.val :=
 h.mono fun _ w' ⟨he, hE⟩ => ⟨he, ⟨w', n.2.trans' hE⟩, rfl⟩
theorem xE0 (w : World) : Ext w w := Ext.rfl' w
theorem xE1 {w w' : World} (h : Ext w w') (n : Nat) : Ext w (w'.drewN n) := Ext.drewN' h n
theorem xE2 {w w' : World} (h : Ext w w') : Ext w w'.drew := Ext.drew' h
theorem xE3 {w w' : World} (h : Ext w w') (o : Obj) : Ext w (w'.alloc o) := Ext.alloc' h o
theorem xE4 {a b c : World} (h : Ext a b) (h' : Ext b c) : Ext a c := Ext.trans' h h'
theorem gA {α : Type} {l : List α} {i : Nat} : l.toArray[i]? = l[i]? := List.getElem?_toArray
theorem gB {α : Type} {a : α} {l : List α} : (a :: l)[0]? = some a := List.getElem?_cons_zero
theorem gC {α : Type} {a : α} {l : List α} {i : Nat} : (a :: l)[i + 1]? = l[i]? := List.getElem?_cons_succ
theorem η {p : Prop} (h : p) : RowKit.Hid p := Lib.hid h
theorem Ext.row {W W' : World} {cs : Array Value} {t : TypeId} (h : Ext (W.alloc (.cells cs t)) W') : ∀ i, W'.cell? ⟨W.heap.size, i, none⟩ = cs[i]? := by
 intro i
 have hb := h.block W.heap.size (by simp)
 have h0 : (W.alloc (.cells cs t)).cell? ⟨W.heap.size, i, none⟩ = cs[i]? := World.cell?_alloc_new W cs t i
 rw [← h0]
 exact World.cell?_of_block (w := W.alloc (.cells cs t)) hb
section
variable {α : Type} {w w' : World} {sz : Nat} {enc : α → List Value} {v : Value} {xs : List α} {base : Nat} {e : TypeId}
variable {P : Program} {ops : Array Oper} {o : Oper} {a : Act} {Q : Exit → Act → World → Prop} {K : Act → World → Prop}
theorem app_wp {t : TypeId} {bytes : Nat} {z : Value} (T : El P t e sz bytes z) (E : Enc sz enc) (s x : Operand)
  (ho : o.op = .call { callee := .builtin .append, args := #[s, x], argTypes := #[t, t] })
  (hs : a.eval s = v) (hown : Own w base e sz enc v xs) {y : Value} {ys : List α} (hx : a.eval x = y) (hy : Rd w sz enc y ys)
  (hbytes : (xs.length + ys.length) * bytes ≤ 140737488355328 ∧ xs.length + ys.length ≤ 9223372036854775807) (hbase : base ≤ w.heap.size)
  (h : ∀ v' w', Own w' base e sz enc v' (xs ++ ys) → w.grownBy w' v.ownBlock → (∀ B W, Below B W w → B ≤ base → Below B W w') → K (a.put o.dst v') w') : o.wp P a w K Q := by
 obtain ⟨i0, hi, hz0, hz1, hz2⟩ := info_parts T.info
 obtain ⟨ya, yc, rfl, h2, h3, h4, h5⟩ := hy
 cases ya with
 | none =>
  obtain ⟨rfl, rfl⟩ := h4 rfl
  have hrun := run_append_owned_none (P := P) (w := w) base t o.type e i0 sz T.under hi v xs.length (xs.flatMap enc) hown
  unfold Oper.wp
  simp [execOp, ho, resolve, invoke, builtin, hs, hx, hrun, Result.andThen]
  exact h v w (by simpa using hown) (World.grownBy.refl _ _) (fun _ _ hB _ => hB)
 | some ad =>
  have hcells := fun (i : Nat) (q : α) (hq : ys[i]? = some q) j u hu => h5 i q hq j u hu
  have flat : ∀ (l : List α) (k : Nat), (∀ i q, l[i]? = some q → ∀ j u, (enc q)[j]? = some u → w.cell? (ad.add ((k + i) * sz + j)) = some u) → ∀ j u, (l.flatMap enc)[j]? = some u → w.cell? (ad.add (k * sz + j)) = some u := by
   intro l
   induction l with
   | nil => intro k _ j u hj; simp at hj
   | cons q l ih =>
    intro k hk j u hj
    rw [List.flatMap_cons] at hj
    by_cases hlt : j < sz
    ·rw [List.getElem?_append_left (by rw [E.len]; exact hlt)] at hj
     simpa using hk 0 q rfl j u hj
    ·rw [List.getElem?_append_right (by rw [E.len]; omega), E.len] at hj
     have := ih (k + 1) (fun i x hx' j' u' hu' => by
      have := hk (i + 1) x (by simpa using hx') j' u' hu'
      rwa [show k + 1 + i = k + (i + 1) from by omega]) (j - sz) u hj
     rwa [show (k + 1) * sz + (j - sz) = k * sz + j from by rw [Nat.add_mul]; omega] at this
  refine wp_append_own w s x t ho base e i0 z sz bytes T.under hi hz0 hz1 hz2 T.zs T.pos v xs.length (xs.flatMap enc) hs hown ad ys.length yc (ys.flatMap enc) hx ?_ ?_ ?_ (by simp only [maxLen]; omega) hbytes.1 hbase ?_
  ·exact flat_len E.len ys
  ·intro j u hj
   have := flat ys 0 (fun i x hx' j' u' hu' => by simpa [elt] using hcells i x hx' j' u' hu') j u hj
   simpa using this
  ·intro u hu
   obtain ⟨x, _, hx⟩ := List.mem_flatMap.1 hu
   exact E.one x u hx
  ·intro v' w' h1 hg _
   exact h v' w' (by show World.ownsRow _ _ _ _ _ _ _; rw [List.flatMap_append, List.length_append]; exact h1) hg (fun B W hB hle => hown.below hg hB (Nat.le_trans hle hbase) hle)
theorem app_step {E' : Prop} {t : TypeId} {bytes : Nat} {z : Value} (T : El P t e sz bytes z) (E : Enc sz enc) (hw : Region.wanted o (yielded ops a.tmps) = true) (s x : Operand)
  (ho : o.op = .call { callee := .builtin .append, args := #[s, x], argTypes := #[t, t] })
  (hs : a.eval s = v) (hown : Own w base e sz enc v xs) {y : Value} {ys : List α} (hx : a.eval x = y) (hy : Rd w sz enc y ys)
  (hbytes : (xs.length + ys.length) * bytes ≤ 140737488355328 ∧ xs.length + ys.length ≤ 9223372036854775807) (hbase : base ≤ w.heap.size)
  (h : ∀ v' w', Own w' base e sz enc v' (xs ++ ys) → w.grownBy w' v.ownBlock → (∀ B W, Below B W w → B ≤ base → Below B W w') → K (a.put o.dst v') w') :
  if Region.wanted o (yielded ops a.tmps) = true then Oper.wp P o a w K Q else E' := by
 rw [if_pos hw]
 exact app_wp T E s x ho hs hown hx hy hbytes hbase h
end
section
variable {α : Type} {w : World} {f : α → Value} {v : Value} {xs : List α} {base : Nat} {e : TypeId}
theorem Own.at (h : Own w base e 1 (fun x => [f x]) v xs) {k : Nat} {x : α} (hx : xs[k]? = some x) :
  w.cell? (elt v k) = some (f x) ∧ w.frozen? (elt v k) = false ∧ v.ownBlock = some (elt v k).block ∧ (elt v k).block < w.heap.size ∧
  ∀ y : α, Own (w.setCell (elt v k) (f y)) base e 1 (fun x => [f x]) v (xs.set k y) ∧ (∀ B W, Below B W w → B ≤ base → Below B W (w.setCell (elt v k) (f y))) := by
 have hlt : k < xs.length := (List.getElem?_eq_some_iff.1 hx).1
 have hO := h
 have hmap : xs.flatMap (fun x => [f x]) = xs.map f := flat1 f xs
 rcases h.2 with ⟨_, hn⟩ | ⟨g, cap, cur, rfl, hb, hg, r⟩
 ·omega
 ·have hO' : w.ownsRow base e 1 (.slice (some ⟨g, 0, none⟩) xs.length cap) xs.length (xs.map f) := by rw [← hmap]; exact hO
  have he : elt (.slice (some ⟨g, 0, none⟩) xs.length cap) k = ⟨g, k, none⟩ := by simp [elt, Addr.add_lit]
  rw [he]
  refine ⟨?_, hO'.frozenAt k, rfl, (Array.getElem?_eq_some_iff.1 hg).1, fun y => ⟨?_, fun B W hB hle => hB.setCell (Nat.le_trans hle hb) _⟩⟩
  ·rw [hO'.cellAt k (by omega), List.getElem?_map, hx]; rfl
  ·show World.ownsRow _ _ _ _ _ _ _
   have h2 := (hO'.stored k (f y)).1
   rw [flat1, List.length_set, List.map_set]
   exact h2
end
theorem Own.other {α : Type} {sz : Nat} {enc : α → List Value} {w : World} {v : Value} {xs : List α} {base : Nat} {e : TypeId} (h : Own w base e sz enc v xs) {a : Addr} (ha : a.block < base) (u : Value) : Own (w.setCell a u) base e sz enc v xs :=
 ownsRow_setCell_below h ha u
theorem Own.lit {α : Type} {sz : Nat} {enc : α → List Value} (E : Enc sz enc) {w : World} {base b n : Nat} {e : TypeId} (xs : List α) (hb : b = w.heap.size) (hn : n = xs.length) (hle : base ≤ w.heap.size) (hm : xs.length ≤ maxLen) :
  Own (w.alloc (.cells (xs.flatMap enc).toArray e)) base e sz enc (.slice (some ⟨b, 0, none⟩) n n) xs := by
 subst hb; subst hn
 have h := World.ownsRow_lit (base := base) (e := e) (size := sz) w (xs.flatMap enc).toArray xs.length hle hm (by simp [flat_len E.len])
 simpa [Own] using h
end Go.Proofs.YtppefchjoodgnaaGreat
namespace Go.Proofs.YtppefchjoodgnaaGreat
open Go.RowKit
set_option linter.unusedVariables false
set_option linter.unusedSimpArgs false
structure Keep (F : List Nat) (w w' : World) : Prop where
 os : w'.os = w.os
 tape : w'.tape = w.tape
 output : w'.output = w.output
 size : w.heap.size ≤ w'.heap.size
 block : ∀ k, k < w.heap.size → k ∉ F → w'.heap[k]? = w.heap[k]?
theorem Keep.rfl' (F : List Nat) (w : World) : Keep F w w := ⟨rfl, rfl, rfl, Nat.le_refl _, fun _ _ _ => rfl⟩
theorem Keep.trans {F : List Nat} {a b c : World} (h : Keep F a b) (k : Keep F b c) : Keep F a c :=
 ⟨k.os.trans h.os, k.tape.trans h.tape, k.output.trans h.output, Nat.le_trans h.size k.size, fun i hi hF => (k.block i (Nat.lt_of_lt_of_le hi h.size) hF).trans (h.block i hi hF)⟩
theorem Keep.mono {F G : List Nat} {w w' : World} (h : Keep F w w') (hs : ∀ k ∈ F, k ∈ G ∨ w.heap.size ≤ k) : Keep G w w' :=
 ⟨h.os, h.tape, h.output, h.size, fun k hk hG => h.block k hk (fun hF => (hs k hF).elim hG (fun h' => by omega))⟩
theorem Keep.of_ext {F : List Nat} {w w' : World} (h : Ext w w') : Keep F w w' := ⟨h.os, h.tape, h.output, h.size, fun k hk _ => h.block k hk⟩
theorem Keep.ext {F : List Nat} {w w' : World} (h : Keep F w w') (hF : ∀ k ∈ F, w.heap.size ≤ k) : Ext w w' :=
 ⟨h.os, h.tape, h.output, h.size, fun k hk => h.block k hk (fun hk' => by have := hF k hk'; omega)⟩
theorem Keep.below {F : List Nat} {B : Nat} {W w w' : World} (h : Keep F w w') (hb : Below B W w) (hB : B ≤ w.heap.size) (hF : ∀ k ∈ F, B ≤ k) : Below B W w' :=
 ⟨h.os.trans hb.os, h.tape.trans hb.tape, h.output.trans hb.output, Nat.le_trans hb.size h.size, fun k hk => (h.block k (by omega) (fun hk' => by have := hF k hk'; omega)).trans (hb.block k hk)⟩
theorem Keep.setCell {F : List Nat} {w W : World} (h : Keep F w W) {a : Addr} (ha : a.block ∈ F) (v : Value) : Keep F w (W.setCell a v) :=
 ⟨h.os, h.tape, h.output, by simpa using h.size, fun k hk hF => (Below.heap_setCell _ _ _ _ (fun e => hF (by rw [e]; exact ha))).trans (h.block k hk hF)⟩
theorem Keep.drewN {F : List Nat} {w W : World} (h : Keep F w W) (n : Nat) : Keep F w (W.drewN n) := ⟨h.os, h.tape, h.output, h.size, h.block⟩
theorem Keep.drew {F : List Nat} {w W : World} (h : Keep F w W) : Keep F w W.drew := ⟨h.os, h.tape, h.output, h.size, h.block⟩
theorem heap_lt {w : World} {k : Nat} {o : Obj} (h : w.heap[k]? = some o) : k < w.heap.size := (Array.getElem?_eq_some_iff.1 h).1
theorem Keep.obj {F : List Nat} {w w' : World} (h : Keep F w w') {k : Nat} {o : Obj} (ho : w.heap[k]? = some o) (hF : k ∉ F) : w'.heap[k]? = some o :=
 (h.block k (heap_lt ho) hF).trans ho
theorem Ext.obj {w w' : World} (h : Ext w w') {k : Nat} {o : Obj} (ho : w.heap[k]? = some o) : w'.heap[k]? = some o := (h.block k (heap_lt ho)).trans ho
theorem cO {w : World} {k i : Nat} {cs : Array Value} {t : TypeId} {fr : Nat × Nat} (h : w.heap[k]? = some (.cells cs t fr)) : w.cell? ⟨k, i, none⟩ = cs[i]? := by simp [World.cell?, h]
theorem frozen_obj {w : World} {k i : Nat} {cs : Array Value} {t : TypeId} (h : w.heap[k]? = some (.cells cs t (0, 0))) : w.frozen? ⟨k, i, none⟩ = false := by simp [World.frozen?, h]
theorem obj_top (w : World) (o : Obj) {k : Nat} (h : k = w.heap.size) : (w.alloc o).heap[k]? = some o := by subst h; exact heap_alloc_new w o
theorem obj_old {w : World} {k : Nat} {x : Obj} (o : Obj) (h : w.heap[k]? = some x) : (w.alloc o).heap[k]? = some x := (heap_alloc_old w o (heap_lt h)).trans h
theorem own_obj {α : Type} {w : World} {base k n : Nat} {e : TypeId} {sz : Nat} {enc : α → List Value} {xs : List α} (E : Enc sz enc) (h : w.heap[k]? = some (.cells (xs.flatMap enc).toArray e (0, 0))) (hb : base ≤ k) (hn : n = xs.length) (hm : xs.length ≤ maxLen) :
  Own w base e sz enc (.slice (some ⟨k, 0, none⟩) n n) xs := by
 subst hn
 refine ⟨flat_len E.len xs, .inr ⟨k, xs.length, _, rfl, hb, h, Nat.le_refl _, hm, by simp [flat_len E.len], ?_⟩⟩
 simp only []
 exact List.take_of_length_le (by simp [flat_len E.len])
def MapObj (w : World) (r : Nat) (ps : List (Value × Value)) : Prop :=
 ∃ es clock, w.heap[r]? = some (.map es clock) ∧ es.toList.map (fun e => (e.key, e.val)) = ps
theorem MapObj.lt {w : World} {r : Nat} {ps : List (Value × Value)} (h : MapObj w r ps) : r < w.heap.size := by
 obtain ⟨es, c, h1, _⟩ := h
 exact heap_lt h1
theorem MapObj.keep {F : List Nat} {w w' : World} {r : Nat} {ps : List (Value × Value)} (h : MapObj w r ps) (k : Keep F w w') (hF : r ∉ F) : MapObj w' r ps := by
 obtain ⟨es, c, h1, h2⟩ := h
 exact ⟨es, c, k.obj h1 hF, h2⟩
theorem MapObj.ext {w w' : World} {r : Nat} {ps : List (Value × Value)} (h : MapObj w r ps) (k : Ext w w') : MapObj w' r ps := by
 obtain ⟨es, c, h1, h2⟩ := h
 exact ⟨es, c, k.obj h1, h2⟩
def putObj (w : World) (r : Nat) (o : Obj) : World := { w with heap := w.heap.setIfInBounds r o }
theorem putObj_same {w : World} {r : Nat} {o : Obj} (h : r < w.heap.size) : (putObj w r o).heap[r]? = some o := by
 simp [putObj, h]
theorem putObj_keep (w : World) (r : Nat) (o : Obj) : Keep [r] w (putObj w r o) :=
 ⟨rfl, rfl, rfl, by simp [putObj], fun k hk hF => by simp only [putObj]; rw [Array.getElem?_setIfInBounds_ne (by simpa using fun e => hF (by simp [e]))]⟩
abbrev ints (k : IntKind) (L : List (Int × Value)) : List (Value × Value) := L.map fun p => (Value.int k p.1, p.2)
theorem findNow_int (k : IntKind) (n : Int) : ∀ (es : List MapEntry) (i : Nat) (L : List (Int × Value)), es.map (fun e => (e.key, e.val)) = ints k L →
  (Instr.findNow (.int k) (.int k n) es i = some (match L.lookup n with | none => none | some v => some (i + L.findIdx (fun p => p.1 == n), v)))
 | [], i, L, h => by
  cases L with
  | nil => rfl
  | cons p L => simp at h
 | e :: es, i, L, h => by
  cases L with
  | nil => simp at h
  | cons p L =>
   simp only [List.map_cons, List.cons.injEq, Prod.mk.injEq] at h
   obtain ⟨⟨h1, h2⟩, h3⟩ := h
   obtain ⟨m, v⟩ := p
   simp only at h1 h2
   have hs : Instr.sameNow (.int k) (.int k n) e.key = some (n == m) := by rw [h1]; simp [Instr.sameNow]
   unfold Instr.findNow
   rw [hs]
   by_cases hnm : n = m
   ·subst hnm
    simp [List.lookup, h2, List.findIdx_cons]
   ·have hb : (n == m) = false := by simpa using hnm
    have hb' : (m == n) = false := by simpa using fun e => hnm e.symm
    simp only [hb]
    rw [findNow_int k n es (i + 1) L h3]
    simp only [List.lookup, hb, List.findIdx_cons, hb', cond_false]
    cases L.lookup n with
    | none => rfl
    | some u => simp; omega
section
variable {P : Program} {T K E : TypeId} {k : IntKind} {w : World} {r : Nat} {L : List (Int × Value)}
theorem run_lookup_int (hT : P.underlying T = some (.map K E)) (hK : P.underlying K = some (.int k)) {z : Value} (hz : ∀ W, (zeroValue E).run P W = .ok z W) (h : MapObj w r (ints k L)) (n : Int) :
  (Instr.lookup T (.map (some r)) (.int k n) false).run P w = .ok ((L.lookup n).getD z) w ∧
  (Instr.lookup T (.map (some r)) (.int k n) true).run P w = .ok (.tuple #[(L.lookup n).getD z, .bool (L.lookup n).isSome]) w := by
 obtain ⟨es, clock, hb, he⟩ := h
 have hf : ∀ e : Bool, (Instr.checkKey e 10000 K (.int k n)).run P w = .ok () w := fun e => by
  have : ∀ m : Nat, (Instr.checkKey e (m + 1) K (.int k n)).run P w = .ok () w := fun m => by simp [Instr.checkKey, run_underlying hK]
  exact this 9999
 have hfk : (Instr.findKey K (.int k n) es.toList).run P w = .ok (match L.lookup n with | none => none | some v => some (0 + L.findIdx (fun p => p.1 == n), v)) w := by
  simp only [Instr.findKey, Sem.run_bind, run_underlying hK, Result.andThen, findNow_int k n es.toList 0 L he]
  rfl
 have hg : ∀ {α : Type} (f : Obj → Sem α), (getObj r >>= f).run P w = (f (.map es clock)).run P w := fun f => by
  simp [getObj, Sem.run_bind, Sem.run, hb]
 constructor
 ·unfold Instr.lookup
  simp only [Sem.run_bind, run_underlying hT, Result.andThen]
  simp [getObj, Sem.run, hb, hf, hfk, Result.andThen, hz]
  cases hl : L.lookup n with
  | none => simp [hz, Result.andThen]
  | some v => simp
 ·unfold Instr.lookup
  simp only [Sem.run_bind, run_underlying hT, Result.andThen]
  simp [getObj, Sem.run, hb, hf, hfk, Result.andThen, hz]
  cases hl : L.lookup n with
  | none => simp [hz, Result.andThen]
  | some v => simp
theorem run_update_new (hT : P.underlying T = some (.map K E)) (hK : P.underlying K = some (.int k)) (h : MapObj w r (ints k L)) (n : Int) (x : Value) (hl : L.lookup n = none) :
  ∃ w', (Instr.mapUpdate T (.map (some r)) (.int k n) x).run P w = .ok () w' ∧ MapObj w' r (ints k (L ++ [(n, x)])) ∧ Keep [r] w w' := by
 obtain ⟨es, clock, hb, he⟩ := h
 have hf : ∀ e : Bool, (Instr.checkKey e 10000 K (.int k n)).run P w = .ok () w := fun e => by
  have : ∀ m : Nat, (Instr.checkKey e (m + 1) K (.int k n)).run P w = .ok () w := fun m => by simp [Instr.checkKey, run_underlying hK]
  exact this 9999
 have hfk : (Instr.findKey K (.int k n) es.toList).run P w = .ok none w := by
  simp only [Instr.findKey, Sem.run_bind, run_underlying hK, Result.andThen, findNow_int k n es.toList 0 L he, hl]
  rfl
 refine ⟨putObj w r (.map (es.push { key := .int k n, val := x, born := clock }) (clock + 1)), ?_, ⟨_, _, putObj_same (heap_lt hb), ?_⟩, putObj_keep _ _ _⟩
 ·unfold Instr.mapUpdate
  simp only [Sem.run_bind, run_underlying hT, Result.andThen]
  simp [getObj, setObj, Sem.run, hb, hf, hfk, Result.andThen, putObj]
 ·simp [he]
def setKey {α β : Type} [BEq α] (L : List (α × β)) (n : α) (x : β) : List (α × β) := L.map fun p => if p.1 == n then (p.1, x) else p
end
end Go.Proofs.YtppefchjoodgnaaGreat
