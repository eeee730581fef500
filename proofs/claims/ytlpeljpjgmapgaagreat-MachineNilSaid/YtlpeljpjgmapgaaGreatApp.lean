/- Append once more: the row that comes of it is the elder one, or a new one. Over any program. -/
import Derived.Test.YtlpeljpjgmapgaaGreatMap
namespace Go.Proofs.YtlpeljpjgmapgaaGreat
open Go.RowKit
set_option linter.unusedVariables false
set_option linter.unusedSimpArgs false

section
variable {P : Program} (w : World)
theorem run_append_where (base : Nat) (t ty e : TypeId) (i : TypeInfo) (z : Value) (size bytes : Nat) (ht : P.underlying t = some (.slice e)) (hi : P.info? e = some i) (hz : i.zero = some z)
    (hsize : i.size = size) (hby : i.bytes = bytes) (v : Value) (n : Nat) (xs : List Value) (hown : w.ownsRow base e size v n xs)
    (a : Addr) (m c : Nat) (news : List Value) (hl : news.length = m * size) (hnews : ∀ j u, news[j]? = some u → w.cell? (a.add j) = some u) (h1 : ∀ u ∈ news, u.oneCell' = true)
    (h63 : n + m ≤ maxLen) (hbytes : (n + m) * bytes ≤ 140737488355328) (v' : Value) (w' : World) (hr : (Builtin.append_ #[t, t] ty #[v, .slice (some a) m c]).run P w = .ok v' w') :
    ∀ k, v'.ownBlock = some k → v.ownBlock = some k ∨ w.heap.size ≤ k := by
  subst hsize
  subst hby
  have hsmall : n + m ≤ 9223372036854775807 := by simp only [maxLen] at h63; omega
  rcases hown.2 with ⟨rfl, rfl⟩ | ⟨g, cap, cur, rfl, hbg, hg, hnc, hcm, hcs, htake⟩
  · by_cases hm : m = 0
    · subst hm
      obtain rfl : news = [] := List.eq_nil_of_length_eq_zero (by simpa using hl)
      have h0 : (Builtin.append_ #[t, t] ty #[.slice none 0 0, .slice (some a) 0 c]).run P w = .ok (.slice none 0 0) w := by
        simp [Builtin.append_, run_underlying ht, sizeOf, typeInfo, hi, Builtin.lenOf, Builtin.firstCells, loadCells, loadCellsFrom]
      rw [h0] at hr
      injection hr with e1 e2
      subst e1
      intro k hk
      cases hk
    · have h0 := run_append_nil (P := P) w t ty e i z ht hi hz a m c news hl hnews (by omega) (by omega) (by have hb := hbytes; simp only [Nat.zero_add] at hb; omega)
      rw [h0] at hr
      injection hr with e1 e2
      subst e1
      intro k hk
      injection hk with hk
      exact .inr (Nat.le_of_eq hk)
  · by_cases hroom : n + m ≤ cap
    · have hfit : n * i.size + news.length ≤ cur.size := by rw [hl, hcs, ← Nat.add_mul]; exact Nat.mul_le_mul_right _ hroom
      have h0 := run_append_room (P := P) w t ty e i ht hi g n cap cur hg a m c news hl hnews h1 hroom hfit
      rw [h0] at hr
      injection hr with e1 e2
      subst e1
      intro k hk
      exact .inl hk
    · have holds : ∀ j u, xs[j]? = some u → w.cell? ((⟨g, 0, none⟩ : Addr).add j) = some u := hown.cells (g := g) rfl
      have h0 := run_append_grow (P := P) w t ty e i z ht hi hz ⟨g, 0, none⟩ n cap xs hown.1 holds a m c news hl hnews (by omega) (by omega) (growslice_fits (by omega) hbytes)
      rw [h0] at hr
      injection hr with e1 e2
      subst e1
      intro k hk
      injection hk with hk
      exact .inr (Nat.le_of_eq hk)
end

section
variable {α : Type} {w : World} {sz : Nat} {enc : α → List Value} {v : Value} {xs : List α} {base : Nat} {e : TypeId}
variable {P : Program} {ops : Array Oper} {o : Oper} {a : Act} {Q : Exit → Act → World → Prop} {K : Act → World → Prop}
/-- Where what comes of an append lies. -/
abbrev Moved (w : World) (v v' : Value) : Prop := ∀ k, v'.ownBlock = some k → v.ownBlock = some k ∨ w.heap.size ≤ k
/-- 'append(v, y...)' as one operation. -/
theorem app_wp2 {t : TypeId} {bytes : Nat} {z : Value} (T : El P t e sz bytes z) (E : Enc sz enc) (s x : Operand)
    (ho : o.op = .call { callee := .builtin .append, args := #[s, x], argTypes := #[t, t] })
    (hs : a.eval s = v) (hown : Own w base e sz enc v xs) {y : Value} {ys : List α} (hx : a.eval x = y) (hy : Rd w sz enc y ys)
    (hbytes : (xs.length + ys.length) * bytes ≤ 140737488355328 ∧ xs.length + ys.length ≤ 9223372036854775807) (hbase : base ≤ w.heap.size)
    (h : ∀ v' w', Own w' base e sz enc v' (xs ++ ys) → w.grownBy w' v.ownBlock → Moved w v v' → K (a.put o.dst v') w') : o.wp P a w K Q := by
  obtain ⟨i0, hi, hz0, hz1, hz2⟩ := info_parts T.info
  obtain ⟨ya, yc, rfl, h2, h3, h4, h5⟩ := hy
  cases ya with
  | none =>
    obtain ⟨rfl, rfl⟩ := h4 rfl
    have hrun := run_append_owned_none (P := P) (w := w) base t o.type e i0 sz T.under hi v xs.length (xs.flatMap enc) hown
    unfold Oper.wp
    simp [execOp, ho, resolve, invoke, builtin, hs, hx, hrun, Result.andThen]
    exact h v w (by simpa using hown) (World.grownBy.refl _ _) (fun _ hk => .inl hk)
  | some ad =>
    have flat : ∀ (l : List α) (k : Nat), (∀ i q, l[i]? = some q → ∀ j u, (enc q)[j]? = some u → w.cell? (ad.add ((k + i) * sz + j)) = some u) → ∀ j u, (l.flatMap enc)[j]? = some u → w.cell? (ad.add (k * sz + j)) = some u := by
      intro l
      induction l with
      | nil => intro k _ j u hj; simp at hj
      | cons q l ih =>
        intro k hk j u hj
        rw [List.flatMap_cons] at hj
        by_cases hlt : j < sz
        · rw [List.getElem?_append_left (by rw [E.len]; exact hlt)] at hj
          simpa using hk 0 q rfl j u hj
        · rw [List.getElem?_append_right (by rw [E.len]; omega), E.len] at hj
          have := ih (k + 1) (fun i x hx' j' u' hu' => by
            have := hk (i + 1) x (by simpa using hx') j' u' hu'
            rwa [show k + 1 + i = k + (i + 1) from by omega]) (j - sz) u hj
          rwa [show (k + 1) * sz + (j - sz) = k * sz + j from by rw [Nat.add_mul]; omega] at this
    have hnews : ∀ j u, (ys.flatMap enc)[j]? = some u → w.cell? (ad.add j) = some u := fun j u hj => by
      have := flat ys 0 (fun i x hx' j' u' hu' => by simpa [elt] using h5 i x hx' j' u' hu') j u hj
      simpa using this
    have hone : ∀ u ∈ ys.flatMap enc, u.oneCell' = true := fun u hu => by
      obtain ⟨x, _, hx⟩ := List.mem_flatMap.1 hu
      exact E.one x u hx
    have h63 : xs.length + ys.length ≤ maxLen := by simp only [maxLen]; omega
    have hl := flat_len E.len ys
    obtain ⟨v', w', hr, k1, k2, k3⟩ := run_append_own (P := P) w base t o.type e i0 z sz bytes T.under hi hz0 hz1 hz2 T.zs T.pos v xs.length (xs.flatMap enc) hown ad ys.length yc (ys.flatMap enc) hl hnews hone h63 hbytes.1 hbase
    have k4 := run_append_where (P := P) w base t o.type e i0 z sz bytes T.under hi hz0 hz1 hz2 v xs.length (xs.flatMap enc) hown ad ys.length yc (ys.flatMap enc) hl hnews hone h63 hbytes.1 v' w' hr
    unfold Oper.wp execOp
    simp only [ho, resolve, invoke, builtin, Sem.run_bind, Sem.run_pure, Result.andThen_ok, List.map_toArray, List.map_cons, List.map_nil, hs, hx, hr]
    exact h v' w' (by show World.ownsRow _ _ _ _ _ _ _; rw [List.flatMap_append, List.length_append]; exact k1) k2 k4
/-- .. inside a region that draws its order. -/
theorem app_step2 {E' : Prop} {t : TypeId} {bytes : Nat} {z : Value} (T : El P t e sz bytes z) (E : Enc sz enc) (hw : Region.wanted o (yielded ops a.tmps) = true) (s x : Operand)
    (ho : o.op = .call { callee := .builtin .append, args := #[s, x], argTypes := #[t, t] })
    (hs : a.eval s = v) (hown : Own w base e sz enc v xs) {y : Value} {ys : List α} (hx : a.eval x = y) (hy : Rd w sz enc y ys)
    (hbytes : (xs.length + ys.length) * bytes ≤ 140737488355328 ∧ xs.length + ys.length ≤ 9223372036854775807) (hbase : base ≤ w.heap.size)
    (h : ∀ v' w', Own w' base e sz enc v' (xs ++ ys) → w.grownBy w' v.ownBlock → Moved w v v' → K (a.put o.dst v') w') :
    if Region.wanted o (yielded ops a.tmps) = true then Oper.wp P o a w K Q else E' := by
  rw [if_pos hw]
  exact app_wp2 T E s x ho hs hown hx hy hbytes hbase h
/-- .. in a plain list of operations. -/
theorem app_own2 {rest : List Oper} {t : TypeId} {bytes : Nat} {z : Value} (T : El P t e sz bytes z) (E : Enc sz enc) (hgd : o.guard = none) (s x : Operand)
    (ho : o.op = .call { callee := .builtin .append, args := #[s, x], argTypes := #[t, t] })
    (hs : a.eval s = v) (hown : Own w base e sz enc v xs) {y : Value} {ys : List α} (hx : a.eval x = y) (hy : Rd w sz enc y ys)
    (hbytes : (xs.length + ys.length) * bytes ≤ 140737488355328 ∧ xs.length + ys.length ≤ 9223372036854775807) (hbase : base ≤ w.heap.size)
    (h : ∀ v' w', Own w' base e sz enc v' (xs ++ ys) → w.grownBy w' v.ownBlock → Moved w v v' → wpList P ops Q rest (a.put o.dst v') w') : wpList P ops Q (o :: rest) a w :=
  wpList_plain hgd fun _ hK => app_wp2 T E s x ho hs hown hx hy hbytes hbase fun v' w' h1 h2 h3 => hK _ _ (h v' w' h1 h2 h3)
end
theorem grown_keep {w w' : World} {row : Option Nat} (h : w.grownBy w' row) : Keep row.toList w w' :=
  ⟨h.os, h.tape, h.output, h.size, fun k hk hF => h.block k hk (fun e => hF (by simp [e]))⟩
/-- Rows of other element types lie in other blocks. -/
theorem Own.type_ne {α β : Type} {w : World} {b1 b2 : Nat} {e1 e2 : TypeId} {s1 s2 : Nat} {enc1 : α → List Value} {enc2 : β → List Value} {v1 v2 : Value} {xs : List α} {ys : List β} (h : Own w b1 e1 s1 enc1 v1 xs) (k : Own w b2 e2 s2 enc2 v2 ys) (hne : e1 ≠ e2) {j : Nat} (h1 : v1.ownBlock = some j) (h2 : v2.ownBlock = some j) : False := by
  rcases h.2 with ⟨rfl, _⟩ | ⟨g, cap, cur, rfl, _, hg, _⟩
  · cases h1
  · rcases k.2 with ⟨rfl, _⟩ | ⟨g', cap', cur', rfl, _, hg', _⟩
    · cases h2
    · injection h1 with h1
      injection h2 with h2
      subst h1
      subst h2
      rw [hg] at hg'
      injection hg' with e
      injection e with _ e _
      exact hne e
theorem Own.type_ne' {α : Type} {w : World} {b1 : Nat} {e1 e2 : TypeId} {s1 : Nat} {enc1 : α → List Value} {v1 : Value} {xs : List α} {cs : Array Value} {fr : Nat × Nat} {j : Nat} (h : Own w b1 e1 s1 enc1 v1 xs) (k : w.heap[j]? = some (.cells cs e2 fr)) (hne : e1 ≠ e2) (h1 : v1.ownBlock = some j) : False := by
  rcases h.2 with ⟨rfl, _⟩ | ⟨g, cap, cur, rfl, _, hg, _⟩
  · cases h1
  · injection h1 with h1
    subst h1
    rw [hg] at k
    injection k with e
    injection e with _ e _
    exact hne e
theorem Own.len {α : Type} {w : World} {base : Nat} {e : TypeId} {sz : Nat} {enc : α → List Value} {a : Option Addr} {n c : Nat} {xs : List α} (h : Own w base e sz enc (.slice a n c) xs) : n = xs.length := by
  rcases h.2 with ⟨hv, hn⟩ | ⟨g, cap, cur, hv, _⟩
  · injection hv with h1 h2; rw [h2, hn]
  · injection hv
/-- An owned row under what leaves its block alone. -/
theorem Own.keep {α : Type} {F : List Nat} {w w' : World} {base : Nat} {e : TypeId} {sz : Nat} {enc : α → List Value} {v : Value} {xs : List α} (h : Own w base e sz enc v xs) (k : Keep F w w') (hF : ∀ j, v.ownBlock = some j → j ∉ F) : Own w' base e sz enc v xs := by
  obtain ⟨h1, h2⟩ := h
  refine ⟨h1, ?_⟩
  rcases h2 with h2 | ⟨g, cap, cur, rfl, hb, hg, r⟩
  · exact .inl h2
  · exact .inr ⟨g, cap, cur, rfl, hb, k.obj hg (hF g rfl), r⟩
theorem Rd.elt_add {α : Type} {w : World} {sz : Nat} {enc : α → List Value} {v : Value} {xs : List α} (h : Rd w sz enc v xs) {i : Nat} {x : α} (hx : xs[i]? = some x) (k j : Nat) : (elt v k).add j = elt v (k + j) := by
  obtain ⟨a, c, rfl, h2, h3, h4, h5⟩ := h
  cases a with
  | none => rw [(h4 rfl).1] at hx; simp at hx
  | some a => simp only [elt, Addr.add_add]
theorem Keep.through {F0 F : List Nat} {wf w w' : World} (h : Keep F0 wf w) (k : Keep F w w') (hF : ∀ j ∈ F, j ∈ F0 ∨ wf.heap.size ≤ j) : Keep F0 wf w' :=
  ⟨k.os.trans h.os, k.tape.trans h.tape, k.output.trans h.output, Nat.le_trans h.size k.size, fun i hi hF0 => (k.block i (Nat.lt_of_lt_of_le hi h.size) (fun hj => (hF i hj).elim hF0 (fun h' => by omega))).trans (h.block i hi hF0)⟩
end Go.Proofs.YtlpeljpjgmapgaaGreat
