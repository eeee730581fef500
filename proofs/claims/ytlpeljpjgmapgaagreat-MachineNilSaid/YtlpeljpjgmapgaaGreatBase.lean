/- Words and small laws that all later texts use: slices read as lists, worlds that have only grown. Over any program. -/
import Derived.WalkKit
import Derived.WalkSpells
import Derived.WalkLawsBesides
import Derived.Lib.Hide
import Derived.Lib.SliceRun
import Derived.Laws.AppendOwnNone
import Derived.Handy
import Derived.Deep.QuietTactic
import Derived.BigQuiet
import Derived.Deep.RegionHeld3
namespace Go.Proofs.YtlpeljpjgmapgaaGreat
open Go.RowKit

/-- Nothing that was there has turned. -/
abbrev Ext (w w' : World) : Prop := Below w.heap.size w w'
theorem Ext.rfl' (w : World) : Ext w w := Below.refl _ _
theorem Ext.trans' {a b c : World} (h : Ext a b) (k : Ext b c) : Ext a c := Below.trans h (Below.mono k h.size)
theorem Ext.drewN' {w W : World} (h : Ext w W) (n : Nat) : Ext w (W.drewN n) := h.trans ⟨rfl, rfl, rfl, Nat.le_refl _, fun _ _ => rfl⟩
theorem Ext.drew' {w W : World} (h : Ext w W) : Ext w W.drew := Below.drew h
theorem Ext.alloc' {w W : World} (h : Ext w W) (o : Obj) : Ext w (W.alloc o) := Below.alloc h h.size o
theorem Ext.cellOf {w w' : World} (h : Ext w w') {a : Addr} {v : Value} (hc : w.cell? a = some v) : w'.cell? a = some v :=
  (Below.cell h (World.block_lt_of_cell? w a hc)).trans hc
theorem bcell {B : Nat} {W w1 : World} (hb : Below B W w1) : (∀ b o, b < B → w1.cell? ⟨b, o, none⟩ = W.cell? ⟨b, o, none⟩) ∧ (∀ b o, b < B → w1.frozen? ⟨b, o, none⟩ = W.frozen? ⟨b, o, none⟩) :=
  ⟨fun b o h => hb.cell (p := ⟨b, o, none⟩) h, fun b o h => hb.frozen (p := ⟨b, o, none⟩) h⟩

/-- What a world that has only grown tells of the old cells: for the walk. -/
theorem Ext.facts {w w1 : World} (h : Ext w w1) : (∀ b o, b < w.heap.size → w1.cell? ⟨b, o, none⟩ = w.cell? ⟨b, o, none⟩) ∧ (∀ b o, b < w.heap.size → w1.frozen? ⟨b, o, none⟩ = w.frozen? ⟨b, o, none⟩) ∧ w.heap.size ≤ w1.heap.size :=
  ⟨(bcell h).1, (bcell h).2, h.size⟩
/-- A cell that is there is there later, and its block too. -/
theorem Ext.keep {w w1 : World} (h : Ext w w1) {a : Addr} {v : Value} (hc : w.cell? a = some v) : w1.cell? a = some v ∧ a.block < w1.heap.size :=
  ⟨h.cellOf hc, World.block_lt_of_cell? w1 a (h.cellOf hc)⟩

/-- A capacity that is drawn fits. -/
theorem cut_le (need old : Nat) (e : TypeId) (t : Nat) (h : need ≤ maxLen) : (Question.appendCap need old e).cut t ≤ maxLen := by
  have hlt := Nat.mod_lt t (show 0 < 2 ^ 63 - need by simp only [maxLen] at h; omega)
  simp only [Question.cut, maxLen] at h ⊢
  omega

/-- The address of a cell behind a slice's value. -/
def elt (v : Value) (i : Nat) : Addr :=
  match v with
  | .slice (some a) _ _ => a.add i
  | _ => ⟨0, 0, none⟩
/-- v[l:h], a element having s cells. -/
def cutV (v : Value) (l h s : Nat) : Value :=
  match v with
  | .slice a _ c => sliced a l h c s
  | _ => v
def isNilV (v : Value) : Bool :=
  match v with
  | .slice none _ _ => true
  | _ => false

/-- v is a slice whose elements are xs, each of sz cells, as enc says. -/
def Rd {α : Type} (w : World) (sz : Nat) (enc : α → List Value) (v : Value) (xs : List α) : Prop :=
  ∃ a c, v = .slice a xs.length c ∧ xs.length ≤ c ∧ c ≤ maxLen ∧ (a = none → xs = [] ∧ c = 0) ∧
    ∀ i x, xs[i]? = some x → ∀ j u, (enc x)[j]? = some u → w.cell? (elt v (i * sz + j)) = some u
/-- Integers of one kind. -/
abbrev Sl (w : World) (k : IntKind) (v : Value) (xs : List Int) : Prop := Rd w 1 (fun x => [Value.int k x]) v xs

section
variable {α : Type} {w w' : World} {sz : Nat} {enc : α → List Value} {v : Value} {xs : List α}

theorem Rd.ext (h : Rd w sz enc v xs) (he : Ext w w') : Rd w' sz enc v xs := by
  obtain ⟨a, c, h1, h2, h3, h4, h5⟩ := h
  exact ⟨a, c, h1, h2, h3, h4, fun i x hx j u hu => he.cellOf (h5 i x hx j u hu)⟩
theorem Rd.nil (w : World) (sz : Nat) (enc : α → List Value) : Rd w sz enc (.slice none 0 0) ([] : List α) :=
  ⟨none, 0, rfl, Nat.le_refl _, Nat.zero_le _, fun _ => ⟨rfl, rfl⟩, fun i x hx => by simp at hx⟩
theorem Rd.le (h : Rd w sz enc v xs) : xs.length ≤ 9223372036854775807 := by
  obtain ⟨a, c, h1, h2, h3, h4, h5⟩ := h
  simp only [maxLen] at h3; omega
theorem Rd.cell (h : Rd w sz enc v xs) {i : Nat} {x : α} (hx : xs[i]? = some x) {j : Nat} {u : Value} (hu : (enc x)[j]? = some u) : w.cell? (elt v (i * sz + j)) = some u := by
  obtain ⟨a, c, h1, h2, h3, h4, h5⟩ := h
  exact h5 i x hx j u hu
theorem Rd.val (h : Rd w sz enc v xs) : ∃ a n c, v = .slice a n c ∧ n ≤ 9223372036854775807 ∧ Hid (n = xs.length) := by
  have := h.le
  obtain ⟨a, c, h1, _⟩ := h; exact ⟨a, _, c, h1, this, Lib.hid rfl⟩
theorem Rd.num {a : Option Addr} {n c : Nat} (h : Rd w sz enc (.slice a n c) xs) : n = xs.length := by
  obtain ⟨a', c', h1, _⟩ := h; injection h1

theorem flat_len {enc : α → List Value} {sz : Nat} (h : ∀ x, (enc x).length = sz) : ∀ l : List α, (l.flatMap enc).length = l.length * sz
  | [] => by simp
  | x :: l => by rw [List.flatMap_cons, List.length_append, h, flat_len h l, List.length_cons, Nat.add_mul]; omega
theorem flat1 {β : Type} (f : α → β) : ∀ l : List α, l.flatMap (fun x => [f x]) = l.map f
  | [] => rfl
  | x :: l => by rw [List.flatMap_cons, flat1 f l]; rfl

/-- A slice at the head of a row of its own. -/
theorem Rd.own {e : TypeId} {base : Nat} (h : w.ownsRow base e sz v xs.length (xs.flatMap enc)) (hlen : ∀ x, (enc x).length = sz) : Rd w sz enc v xs := by
  have hcells := @World.ownsRow.cells w base e sz v xs.length (xs.flatMap enc) h
  obtain ⟨h1, h2⟩ := h
  have key : ∀ (l : List α) (i : Nat) (x : α), l[i]? = some x → ∀ j u, (enc x)[j]? = some u → (l.flatMap enc)[i * sz + j]? = some u := by
    intro l
    induction l with
    | nil => intro i x hx; simp at hx
    | cons y l ih =>
      intro i x hx j u hu
      have hj : j < sz := by rw [← hlen x]; exact (List.getElem?_eq_some_iff.1 hu).1
      cases i with
      | zero =>
        simp at hx; subst hx
        rw [List.flatMap_cons, List.getElem?_append_left (by rw [hlen]; omega)]
        simpa using hu
      | succ i =>
        rw [List.flatMap_cons, List.getElem?_append_right (by rw [hlen, Nat.add_mul]; omega), hlen]
        have := ih i x (by simpa using hx) j u hu
        rwa [show (i + 1) * sz + j - sz = i * sz + j from by rw [Nat.add_mul]; omega]
  rcases h2 with ⟨hv, hn⟩ | ⟨g, cap, cur, hv, hb, hg, hnc, hcm, hcs, ht⟩
  · have : xs = [] := List.eq_nil_of_length_eq_zero hn
    subst this; subst hv
    exact Rd.nil _ _ _
  · refine ⟨some ⟨g, 0, none⟩, cap, hv, hnc, hcm, (fun e => by cases e), ?_⟩
    intro i x hx j u hu
    have := hcells (g := g) (by rw [hv]; rfl) (i * sz + j) u (key xs i x hx j u hu)
    subst hv
    exact this

variable {P : Program} {a : Option Addr} {n c : Nat}
theorem Rd.run_at (h : Rd w sz enc (.slice a n c) xs) {t : TypeId} {e : TypeId} (ht : P.underlying t = some (.slice e)) (hs : ∀ W, (Go.sizeOf e).run P W = .ok sz W) (k : IntKind) (i : Int) (h0 : 0 ≤ i) (h1 : i < n) (W : World) :
    (Instr.indexAt t (.slice a n c) (.int k i)).run P W = .ok (.pointer (some (elt (.slice a n c) (i.toNat * sz)))) W := by
  have hn := h.num
  obtain ⟨a', c', hv, h2, h3, h4, h5⟩ := h
  injection hv with e1 e2 e3
  subst e1
  cases a with
  | none =>
    have := (h4 rfl).1; subst this; simp at hn; omega
  | some a =>
    simp [Instr.indexAt, run_underlying ht, asIntOf, h0, h1, hs, elt]

theorem Rd.run_nil (_h : Rd w sz enc (.slice a n c) xs) {t : TypeId} {e : TypeId} (ht : P.underlying t = some (.slice e)) (W : World) :
    (binOp .eql t (.slice a n c) (.slice none 0 0)).run P W = .ok (.bool (isNilV (.slice a n c))) W := by
  rw [Lib.run_eql_slice_nil (h := ht)]
  cases a <;> rfl
theorem Rd.of_isNil (h : Rd w sz enc (.slice none n c) xs) : n = 0 ∧ c = 0 ∧ xs = [] := by
  have hn := h.num
  obtain ⟨a', c', hv, h2, h3, h4, h5⟩ := h
  injection hv with e1 e2 e3
  obtain ⟨h6, h7⟩ := h4 e1.symm
  subst h6; subst e3
  exact ⟨hn, h7, rfl⟩

theorem Rd.cut (h : Rd w sz enc v xs) {l m : Nat} (hl : l ≤ m) (hm : m ≤ xs.length) : Rd w sz enc (cutV v l m sz) ((xs.drop l).take (m - l)) := by
  obtain ⟨a, c, hv, h2, h3, h4, h5⟩ := h
  subst hv
  have hlen : ((xs.drop l).take (m - l)).length = m - l := by simp; omega
  refine ⟨if c = l then a else a.map (·.add (l * sz)), c - l, ?_, by omega, by omega, ?_, ?_⟩
  · simp only [cutV, sliced, hlen]
  · intro hn
    have : a = none := by
      by_cases hc : c = l
      · simpa [hc] using hn
      · simpa [hc] using hn
    obtain ⟨h6, h7⟩ := h4 this
    subst h6
    simp at hm ⊢; omega
  · intro i x hx j u hu
    have hi : i < m - l := by have := (List.getElem?_eq_some_iff.1 hx).1; omega
    have hx' : xs[l + i]? = some x := by
      rw [List.getElem?_take_of_lt hi, List.getElem?_drop] at hx; exact hx
    have hcl : c ≠ l := by omega
    have := h5 (l + i) x hx' j u hu
    cases a with
    | none => have := (h4 rfl).1; subst this; simp at hm; omega
    | some a =>
      simp only [cutV, sliced, hcl, if_false, Option.map_some, elt, Addr.add_add] at this ⊢
      rw [show l * sz + (i * sz + j) = (l + i) * sz + j from by rw [Nat.add_mul]; omega]
      exact this

theorem Rd.run_cut_lh (h : Rd w sz enc (.slice a n c) xs) {t : TypeId} {e : TypeId} (ht : P.underlying t = some (.slice e)) (hs : ∀ W, (Go.sizeOf e).run P W = .ok sz W) (kl kh : IntKind) (l m : Int) (h0 : 0 ≤ l) (h1 : l ≤ m) (h2 : m ≤ n) (W : World) :
    (Instr.sliceAt t (.slice a n c) (some (.int kl l)) (some (.int kh m)) none).run P W = .ok (cutV (.slice a n c) l.toNat m.toNat sz) W := by
  have hn := h.num
  obtain ⟨a', c', hv, h3, _⟩ := h
  injection hv with e1 e2 e3
  have em : (m.toNat : Int) = m := Int.toNat_of_nonneg (by omega)
  simp [Instr.sliceAt, Instr.slice, run_underlying ht, Instr.sliceBounds, run_sliceBound, sliced, cutV, hs, em, h0, h1, (by omega : m ≤ c), (by omega : 0 ≤ m)]
theorem Rd.run_cut_h (h : Rd w sz enc (.slice a n c) xs) {t : TypeId} {e : TypeId} (ht : P.underlying t = some (.slice e)) (hs : ∀ W, (Go.sizeOf e).run P W = .ok sz W) (kh : IntKind) (m : Int) (h1 : 0 ≤ m) (h2 : m ≤ n) (W : World) :
    (Instr.sliceAt t (.slice a n c) none (some (.int kh m)) none).run P W = .ok (cutV (.slice a n c) 0 m.toNat sz) W := by
  have hn := h.num
  obtain ⟨a', c', hv, h3, _⟩ := h
  injection hv with e1 e2 e3
  simp [Instr.sliceAt, Instr.slice, run_underlying ht, Instr.sliceBounds, run_sliceBound, sliced, cutV, hs, h1, (by omega : m ≤ c)]
theorem Rd.run_cut_l (h : Rd w sz enc (.slice a n c) xs) {t : TypeId} {e : TypeId} (ht : P.underlying t = some (.slice e)) (hs : ∀ W, (Go.sizeOf e).run P W = .ok sz W) (kl : IntKind) (l : Int) (h0 : 0 ≤ l) (h1 : l ≤ n) (W : World) :
    (Instr.sliceAt t (.slice a n c) (some (.int kl l)) none none).run P W = .ok (cutV (.slice a n c) l.toNat n sz) W := by
  have hn := h.num
  obtain ⟨a', c', hv, h3, _⟩ := h
  injection hv with e1 e2 e3
  simp [Instr.sliceAt, Instr.slice, run_underlying ht, Instr.sliceBounds, run_sliceBound, sliced, cutV, hs, h0, h1]
end

/-- A slice type t of elements e: the facts of the program's table that the laws ask. -/
structure El (P : Program) (t e : TypeId) (sz bytes : Nat) (z : Value) : Prop where
  under : P.underlying t = some (.slice e)
  info : (P.info? e).map (fun i => (i.zero, i.size, i.bytes)) = some (some z, sz, bytes)
  zs : z.cells.size = sz
  pos : 0 < sz
  size : ∀ W, (Go.sizeOf e).run P W = .ok sz W
/-- An encoder: so many cells, each one cell. -/
structure Enc {α : Type} (sz : Nat) (enc : α → List Value) : Prop where
  len : ∀ x, (enc x).length = sz
  one : ∀ x u, u ∈ enc x → u.oneCell' = true
theorem enc_int (k : IntKind) : Enc 1 (fun x => [Value.int k x]) := ⟨fun _ => rfl, fun x u hu => by simp at hu; subst hu; rfl⟩
theorem enc_bool : Enc 1 (fun x => [Value.bool x]) := ⟨fun _ => rfl, fun x u hu => by simp at hu; subst hu; rfl⟩

/-- v is a slice at the head of a row from block base on that nobody else holds; its elements are xs. -/
def Own {α : Type} (w : World) (base : Nat) (e : TypeId) (sz : Nat) (enc : α → List Value) (v : Value) (xs : List α) : Prop :=
  w.ownsRow base e sz v xs.length (xs.flatMap enc)
section
variable {α : Type} {w w' : World} {sz : Nat} {enc : α → List Value} {v : Value} {xs : List α} {base : Nat} {e : TypeId}
theorem Own.rd (h : Own w base e sz enc v xs) (he : Enc sz enc) : Rd w sz enc v xs := Rd.own h he.len
theorem Own.nil (w : World) (base : Nat) (e : TypeId) (sz : Nat) (enc : α → List Value) : Own w base e sz enc (.slice none 0 0) ([] : List α) := World.ownsRow_nil w base e sz
theorem Own.made (w : World) (base : Nat) (e : TypeId) (sz : Nat) (enc : α → List Value) {b : Nat} (hw : b = w.heap.size) (hb : base ≤ w.heap.size) : Own (w.alloc (.cells #[] e)) base e sz enc (.slice (some ⟨b, 0, none⟩) 0 0) ([] : List α) := by
  subst hw
  exact World.ownsRow_made w #[] 0 hb (Nat.zero_le _) (by simp)
theorem Own.lt {k : Nat} (h : Own w base e sz enc v xs) (hk : v.ownBlock = some k) : base ≤ k ∧ k < w.heap.size := World.ownsRow.lt h k hk
/-- Below the base nothing turns when the call's own row is written. -/
theorem Own.below {B : Nat} {W : World} {v0 : Value} {xs0 : List α} (h : Own w base e sz enc v0 xs0) (hg : w.grownBy w' v0.ownBlock) (hb : Below B W w) (hB : B ≤ w.heap.size) (hB' : B ≤ base) : Below B W w' :=
  hb.grown hg hB (fun k hk => by have := h.lt hk; omega)
theorem Own.grown {row : Option Nat} (h : Own w base e sz enc v xs) (hg : w.grownBy w' row) (hne : v.ownBlock = none ∨ v.ownBlock ≠ row) : Own w' base e sz enc v xs := World.ownsRow.kept h hg hne
theorem Own.alloc (h : Own w base e sz enc v xs) (o : Obj) : Own (w.alloc o) base e sz enc v xs := World.ownsRow.alloc h o
theorem Own.ext (h : Own w base e sz enc v xs) (he : Ext w w') : Own w' base e sz enc v xs :=
  World.ownsRow.kept h ⟨he.os, he.tape, he.output, he.size, fun k hk _ => he.block k hk⟩ (row := none) (by cases hv : v.ownBlock <;> simp)
theorem Own.drew (h : Own w base e sz enc v xs) : Own w.drew base e sz enc v xs := h
theorem Own.mono {base' : Nat} (h : Own w base e sz enc v xs) (hb : base' ≤ base) : Own w base' e sz enc v xs := by
  obtain ⟨h1, h2⟩ := h
  refine ⟨h1, ?_⟩
  rcases h2 with h2 | ⟨g, cap, cur, hv, hg, r⟩
  · exact .inl h2
  · exact .inr ⟨g, cap, cur, hv, by omega, r⟩

variable {P : Program} {ops : Array Oper} {rest : List Oper} {o : Oper} {a : Act} {Q : Exit → Act → World → Prop}
/-- 'append(v, y...)', v the call's own, y any slice that reads as ys. -/
theorem app_own {t : TypeId} {bytes : Nat} {z : Value} (T : El P t e sz bytes z) (E : Enc sz enc) (hgd : o.guard = none) (s x : Operand)
    (ho : o.op = .call { callee := .builtin .append, args := #[s, x], argTypes := #[t, t] })
    (hs : a.eval s = v) (hown : Own w base e sz enc v xs) {y : Value} {ys : List α} (hx : a.eval x = y) (hy : Rd w sz enc y ys)
    (hbytes : (xs.length + ys.length) * bytes ≤ 140737488355328 ∧ xs.length + ys.length ≤ 9223372036854775807) (hbase : base ≤ w.heap.size)
    (h : ∀ v' w', Own w' base e sz enc v' (xs ++ ys) → w.grownBy w' v.ownBlock → (∀ B W, Below B W w → B ≤ base → Below B W w') → wpList P ops Q rest (a.put o.dst v') w') : wpList P ops Q (o :: rest) a w := by
  obtain ⟨i0, hi, hz0, hz1, hz2⟩ := info_parts T.info
  obtain ⟨ya, yc, rfl, h2, h3, h4, h5⟩ := hy
  cases ya with
  | none =>
    obtain ⟨rfl, rfl⟩ := h4 rfl
    exact wpList_append_own_none hgd s x t ho base e i0 sz T.under hi v xs.length (xs.flatMap enc) hs hown hx (h v w (by simpa using hown) (World.grownBy.refl _ _) (fun _ _ hB _ => hB))
  | some ad =>
    have key : ∀ (l : List α) (k : Nat), (∀ i x, l[i]? = some x → ∀ j u, (enc x)[j]? = some u → w.cell? (ad.add ((k + i) * sz + j)) = some u) → ∀ j u, (l.flatMap enc)[j]? = some u → w.cell? (ad.add (k * sz + j)) = some u := by
      intro l
      induction l with
      | nil => intro k _ j u hj; simp at hj
      | cons q l ih =>
        intro k hk j u hj
        rw [List.flatMap_cons] at hj
        by_cases hlt : j < sz
        · rw [List.getElem?_append_left (by rw [E.len]; exact hlt)] at hj
          simpa using hk 0 q rfl j u hj
        · rw [List.getElem?_append_right (by rw [E.len]; omega), E.len] at hj
          have := ih (k + 1) (fun i x hx' j' u' hu' => by
            have := hk (i + 1) x (by simpa using hx') j' u' hu'
            rwa [show k + 1 + i = k + (i + 1) from by omega]) (j - sz) u hj
          rwa [show (k + 1) * sz + (j - sz) = k * sz + j from by rw [Nat.add_mul]; omega] at this
    refine wpList_append_own w hgd s x t ho base e i0 z sz bytes T.under hi hz0 hz1 hz2 T.zs T.pos v xs.length (xs.flatMap enc) hs hown ad ys.length yc (ys.flatMap enc) hx ?_ ?_ ?_ (by simp only [maxLen]; omega) hbytes.1 hbase ?_
    · exact flat_len E.len ys
    · intro j u hj
      have := key ys 0 (fun i x hx' j' u' hu' => by simpa [elt] using h5 i x hx' j' u' hu') j u hj
      simpa using this
    · intro u hu
      obtain ⟨x, _, hx⟩ := List.mem_flatMap.1 hu
      exact E.one x u hx
    · intro v' w' h1 hg _
      exact h v' w' (by show World.ownsRow _ _ _ _ _ _ _; rw [List.flatMap_append, List.length_append]; exact h1) hg (fun B W hB hle => hown.below hg hB (Nat.le_trans hle hbase) hle)
end

/-- Of the world only this is kept, whatever it looked like. -/
theorem wp_world {P : Program} {c : Code} {Q : Exit → Act → World → Prop} {a : Act} {w : World} (F : World → Prop) (hF : F w) (h : ∀ W, F W → c.wp P Q a W) : c.wp P Q a w := h w hF

/-- The worlds that have only grown from W. -/
abbrev After (W : World) : Type := { u : World // Ext W u }
instance (W : World) : Nonempty (After W) := ⟨⟨W, Ext.rfl' W⟩⟩
def Grows (W : World) (w' : World) : Prop := ∃ n : After W, w' = n.val
theorem Calls.after {P : Program} {f : FuncId} {args : Array Value} {W : World} {n : After W} {v : Value} (h : Calls P f args n.val fun e w' => e = .returned v ∧ Ext n.val w') :
    Calls P f args n.val fun e w'' => e = .returned v ∧ ∃ m : After W, w'' = m.val :=
  h.mono fun _ w' ⟨he, hE⟩ => ⟨he, ⟨w', n.2.trans' hE⟩, rfl⟩
theorem Calls.after_drew {P : Program} {f : FuncId} {args : Array Value} {W : World} {n : After W} {v : Value} (h : Calls P f args n.val fun e w' => e = .returned v ∧ ∃ m, w' = n.val.drewN m) :
    Calls P f args n.val fun e w'' => e = .returned v ∧ ∃ m : After W, w'' = m.val :=
  h.mono fun _ w' ⟨he, m, hE⟩ => ⟨he, ⟨w', by subst hE; exact n.2.drewN' m⟩, rfl⟩
/-- A region that draws its order, whose operations read and call what only grows the world and hands back a value that is known: one walk in the order of the text. -/
theorem wp_region_ext {P : Program} {id : Nat} {Q : Exit → Act → World → Prop} {a : Act} {w : World} {l : List Oper} (hm : P.follows .mixedOrders = true) (hB : Region.lexB .any l.toArray = true)
    (h : wpQuiet P l.toArray (fun w' => ∃ n : After w, w' = n.val) (fun a' => ∀ w', (∃ n : After w, w' = n.val) → Q .normal a' w') l a) : (Code.region id l.toArray true).wp P Q a w :=
  wp_region_quiet (C := fun w' => ∃ n : After w, w' = n.val) hm hB ⟨⟨_, Ext.drew' (Ext.rfl' w)⟩, rfl⟩ (by simpa using h)
end Go.Proofs.YtlpeljpjgmapgaaGreat
