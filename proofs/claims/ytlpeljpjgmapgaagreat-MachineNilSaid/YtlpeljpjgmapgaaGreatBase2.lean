/- More words on worlds that have only grown. -/
import Derived.Test.YtlpeljpjgmapgaaGreatBase
namespace Go.Proofs.YtlpeljpjgmapgaaGreat
open Go.RowKit

/-- A block that was laid is there, cell by cell. -/
theorem Ext.row {W W' : World} {cs : Array Value} {t : TypeId} (h : Ext (W.alloc (.cells cs t)) W') : ∀ i, W'.cell? ⟨W.heap.size, i, none⟩ = cs[i]? := by
  intro i
  have hb := h.block W.heap.size (by simp)
  have h0 : (W.alloc (.cells cs t)).cell? ⟨W.heap.size, i, none⟩ = cs[i]? := World.cell?_alloc_new W cs t i
  rw [← h0]
  exact World.cell?_of_block (w := W.alloc (.cells cs t)) hb
theorem Ext.rowLater {b : Nat} {W W' : World} {cs : Array Value} (h : ∀ i, W.cell? ⟨b, i, none⟩ = cs[i]?) (hb : b < W.heap.size) (he : Ext W W') : ∀ i, W'.cell? ⟨b, i, none⟩ = cs[i]? := by
  intro i
  rw [← h i]
  exact Below.cell he hb
/-- .. in every world that comes later. -/
theorem Ext.rowAfter {b : Nat} {W : World} {cs : Array Value} (h : ∀ i, W.cell? ⟨b, i, none⟩ = cs[i]?) (hb : b < W.heap.size) : ∀ (n : After W) i, n.val.cell? ⟨b, i, none⟩ = cs[i]? := fun n i => by
  rw [← h i]
  exact Below.cell n.2 hb
theorem Ext.cellAfter {W : World} {a : Addr} {v : Value} (h : W.cell? a = some v) : ∀ n : After W, n.val.cell? a = some v := fun n => n.2.cellOf h
theorem alloc_lt {W W' : World} {o : Obj} (h : Ext (W.alloc o) W') : W.heap.size < W'.heap.size := by have := h.size; simp at this; omega

section
variable {α : Type} {w w' : World} {sz : Nat} {enc : α → List Value} {v : Value} {xs : List α} {base : Nat} {e : TypeId}
variable {P : Program} {ops : Array Oper} {o : Oper} {a : Act} {Q : Exit → Act → World → Prop} {K : Act → World → Prop}
/-- 'append(v, y...)' as one operation. -/
theorem app_wp {t : TypeId} {bytes : Nat} {z : Value} (T : El P t e sz bytes z) (E : Enc sz enc) (s x : Operand)
    (ho : o.op = .call { callee := .builtin .append, args := #[s, x], argTypes := #[t, t] })
    (hs : a.eval s = v) (hown : Own w base e sz enc v xs) {y : Value} {ys : List α} (hx : a.eval x = y) (hy : Rd w sz enc y ys)
    (hbytes : (xs.length + ys.length) * bytes ≤ 140737488355328 ∧ xs.length + ys.length ≤ 9223372036854775807) (hbase : base ≤ w.heap.size)
    (h : ∀ v' w', Own w' base e sz enc v' (xs ++ ys) → w.grownBy w' v.ownBlock → (∀ B W, Below B W w → B ≤ base → Below B W w') → K (a.put o.dst v') w') : o.wp P a w K Q := by
  obtain ⟨i0, hi, hz0, hz1, hz2⟩ := info_parts T.info
  obtain ⟨ya, yc, rfl, h2, h3, h4, h5⟩ := hy
  cases ya with
  | none =>
    obtain ⟨rfl, rfl⟩ := h4 rfl
    have hrun := run_append_owned_none (P := P) (w := w) base t o.type e i0 sz T.under hi v xs.length (xs.flatMap enc) hown
    unfold Oper.wp
    simp [execOp, ho, resolve, invoke, builtin, hs, hx, hrun, Result.andThen]
    exact h v w (by simpa using hown) (World.grownBy.refl _ _) (fun _ _ hB _ => hB)
  | some ad =>
    have hcells := fun (i : Nat) (q : α) (hq : ys[i]? = some q) j u hu => h5 i q hq j u hu
    have flat : ∀ (l : List α) (k : Nat), (∀ i q, l[i]? = some q → ∀ j u, (enc q)[j]? = some u → w.cell? (ad.add ((k + i) * sz + j)) = some u) → ∀ j u, (l.flatMap enc)[j]? = some u → w.cell? (ad.add (k * sz + j)) = some u := by
      intro l
      induction l with
      | nil => intro k _ j u hj; simp at hj
      | cons q l ih =>
        intro k hk j u hj
        rw [List.flatMap_cons] at hj
        by_cases hlt : j < sz
        · rw [List.getElem?_append_left (by rw [E.len]; exact hlt)] at hj
          simpa using hk 0 q rfl j u hj
        · rw [List.getElem?_append_right (by rw [E.len]; omega), E.len] at hj
          have := ih (k + 1) (fun i x hx' j' u' hu' => by
            have := hk (i + 1) x (by simpa using hx') j' u' hu'
            rwa [show k + 1 + i = k + (i + 1) from by omega]) (j - sz) u hj
          rwa [show (k + 1) * sz + (j - sz) = k * sz + j from by rw [Nat.add_mul]; omega] at this
    refine wp_append_own w s x t ho base e i0 z sz bytes T.under hi hz0 hz1 hz2 T.zs T.pos v xs.length (xs.flatMap enc) hs hown ad ys.length yc (ys.flatMap enc) hx ?_ ?_ ?_ (by simp only [maxLen]; omega) hbytes.1 hbase ?_
    · exact flat_len E.len ys
    · intro j u hj
      have := flat ys 0 (fun i x hx' j' u' hu' => by simpa [elt] using hcells i x hx' j' u' hu') j u hj
      simpa using this
    · intro u hu
      obtain ⟨x, _, hx⟩ := List.mem_flatMap.1 hu
      exact E.one x u hx
    · intro v' w' h1 hg _
      exact h v' w' (by show World.ownsRow _ _ _ _ _ _ _; rw [List.flatMap_append, List.length_append]; exact h1) hg (fun B W hB hle => hown.below hg hB (Nat.le_trans hle hbase) hle)
/-- .. inside a region that draws its order. -/
theorem app_step {E' : Prop} {t : TypeId} {bytes : Nat} {z : Value} (T : El P t e sz bytes z) (E : Enc sz enc) (hw : Region.wanted o (yielded ops a.tmps) = true) (s x : Operand)
    (ho : o.op = .call { callee := .builtin .append, args := #[s, x], argTypes := #[t, t] })
    (hs : a.eval s = v) (hown : Own w base e sz enc v xs) {y : Value} {ys : List α} (hx : a.eval x = y) (hy : Rd w sz enc y ys)
    (hbytes : (xs.length + ys.length) * bytes ≤ 140737488355328 ∧ xs.length + ys.length ≤ 9223372036854775807) (hbase : base ≤ w.heap.size)
    (h : ∀ v' w', Own w' base e sz enc v' (xs ++ ys) → w.grownBy w' v.ownBlock → (∀ B W, Below B W w → B ≤ base → Below B W w') → K (a.put o.dst v') w') :
    if Region.wanted o (yielded ops a.tmps) = true then Oper.wp P o a w K Q else E' := by
  rw [if_pos hw]
  exact app_wp T E s x ho hs hown hx hy hbytes hbase h
end

section
variable {α : Type} {w : World} {f : α → Value} {v : Value} {xs : List α} {base : Nat} {e : TypeId}
/-- An element of the call's own slice: it is there, may be written, and then is another. -/
theorem Own.at (h : Own w base e 1 (fun x => [f x]) v xs) {k : Nat} {x : α} (hx : xs[k]? = some x) :
    w.cell? (elt v k) = some (f x) ∧ w.frozen? (elt v k) = false ∧ v.ownBlock = some (elt v k).block ∧ (elt v k).block < w.heap.size ∧
    ∀ y : α, Own (w.setCell (elt v k) (f y)) base e 1 (fun x => [f x]) v (xs.set k y) ∧ (∀ B W, Below B W w → B ≤ base → Below B W (w.setCell (elt v k) (f y))) := by
  have hlt : k < xs.length := (List.getElem?_eq_some_iff.1 hx).1
  have hO := h
  have hmap : xs.flatMap (fun x => [f x]) = xs.map f := flat1 f xs
  rcases h.2 with ⟨_, hn⟩ | ⟨g, cap, cur, rfl, hb, hg, r⟩
  · omega
  · have hO' : w.ownsRow base e 1 (.slice (some ⟨g, 0, none⟩) xs.length cap) xs.length (xs.map f) := by rw [← hmap]; exact hO
    have he : elt (.slice (some ⟨g, 0, none⟩) xs.length cap) k = ⟨g, k, none⟩ := by simp [elt, Addr.add_lit]
    rw [he]
    refine ⟨?_, hO'.frozenAt k, rfl, (Array.getElem?_eq_some_iff.1 hg).1, fun y => ⟨?_, fun B W hB hle => hB.setCell (Nat.le_trans hle hb) _⟩⟩
    · rw [hO'.cellAt k (by omega), List.getElem?_map, hx]; rfl
    · show World.ownsRow _ _ _ _ _ _ _
      have h2 := (hO'.stored k (f y)).1
      rw [flat1, List.length_set, List.map_set]
      exact h2
end

theorem Own.other {α : Type} {sz : Nat} {enc : α → List Value} {w : World} {v : Value} {xs : List α} {base : Nat} {e : TypeId} (h : Own w base e sz enc v xs) {a : Addr} (ha : a.block < base) (u : Value) : Own (w.setCell a u) base e sz enc v xs :=
  ownsRow_setCell_below h ha u
/-- A literal of the call's own. -/
theorem Own.lit {α : Type} {sz : Nat} {enc : α → List Value} (E : Enc sz enc) {w : World} {base b n : Nat} {e : TypeId} (xs : List α) (hb : b = w.heap.size) (hn : n = xs.length) (hle : base ≤ w.heap.size) (hm : xs.length ≤ maxLen) :
    Own (w.alloc (.cells (xs.flatMap enc).toArray e)) base e sz enc (.slice (some ⟨b, 0, none⟩) n n) xs := by
  subst hb; subst hn
  have h := World.ownsRow_lit (base := base) (e := e) (size := sz) w (xs.flatMap enc).toArray xs.length hle hm (by simp [flat_len E.len])
  simpa [Own] using h
end Go.Proofs.YtlpeljpjgmapgaaGreat
