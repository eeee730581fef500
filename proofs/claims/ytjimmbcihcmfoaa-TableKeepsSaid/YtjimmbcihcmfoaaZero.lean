/- append(s, make([]T, k)...), s the call's own: the builtin is told k. Over any program. -/
import Derived.Test.YtjimmbcihcmfoaaBase2
import Derived.Lib.AppendZerosOnto
namespace Go.Proofs.Ytjimmbcihcmfoaa
open Go.RowKit
set_option linter.unusedVariables false
set_option linter.unusedSimpArgs false

theorem zeroCells_one (z : Value) (n : Nat) : Builtin.zeroCells #[z] n = (List.replicate n z).toArray := by
  apply Array.ext_getElem?
  intro i
  simp only [Builtin.zeroCells, List.size_toArray, List.length_singleton, Nat.mul_one, Array.getElem?_map, List.getElem?_toArray, List.getElem?_replicate, Nat.mod_one]
  by_cases h : i < n
  · rw [if_pos h]
    simp [h]
  · rw [if_neg h]
    simp [h]
section
variable {α : Type} {f : α → Value} {P : Program} {base : Nat} {e : TypeId} {v : Value} {xs : List α} {t tn : TypeId} {bytes : Nat} {z : Value} {kn : IntKind}
theorem zeros_own {w : World} (T : El P t e 1 bytes z) (hz1 : z.cells = #[z]) (ho1 : z.oneCell' = true) (x0 : α) (hx0 : f x0 = z) (htn : P.underlying tn = some (.int kn)) (hown : Own w base e 1 (fun x => [f x]) v xs) (k : Nat) (kq : IntKind) (h0 : 0 < k) (hb : (xs.length + k) * bytes ≤ 140737488355328 ∧ xs.length + k ≤ 1000000) (hkb : k * bytes ≤ 1000000) (hbase : base ≤ w.heap.size) (ty : TypeId) :
    ∃ v' w', (Builtin.append_ #[t, tn] ty #[v, .int kq k]).run P w = .ok v' w' ∧ Own w' base e 1 (fun x => [f x]) v' (xs ++ List.replicate k x0) ∧ w.grownBy w' v.ownBlock := by
  obtain ⟨i0, hi, hzz, hs1, hby⟩ := info_parts T.info
  have hzc : z.cells.size = 1 := T.zs
  have hw : IntKind.i64.wrap (k : Int) = k := by rw [IntKind.wrap_i64]; omega
  have hlen : (xs ++ List.replicate k x0).length = xs.length + k := by simp
  have hflat : (xs ++ List.replicate k x0).flatMap (fun x => [f x]) = xs.flatMap (fun x => [f x]) ++ List.replicate k z := by
    rw [List.flatMap_append]
    congr 1
    rw [flat1, List.map_replicate, hx0]
  have hfl : (xs.flatMap fun x => [f x]).length = xs.length := by rw [flat1]; simp
  -- a new row
  have grown : ∀ (old : Nat), old < xs.length + k → ∀ (row : Option Nat),
      Own (w.drew.alloc (.cells ((xs.flatMap fun x => [f x]).toArray ++ Builtin.zeroCells z.cells k ++ Builtin.zeroCells z.cells (grownCap w (xs.length + k) old e - (xs.length + k))) e)) base e 1 (fun x => [f x])
        (.slice (some ⟨w.heap.size, 0, none⟩) (xs.length + k) (grownCap w (xs.length + k) old e)) (xs ++ List.replicate k x0) ∧
      w.grownBy (w.drew.alloc (.cells ((xs.flatMap fun x => [f x]).toArray ++ Builtin.zeroCells z.cells k ++ Builtin.zeroCells z.cells (grownCap w (xs.length + k) old e - (xs.length + k))) e)) row := by
    intro old ho row
    have hge := grownCap_ge w (xs.length + k) old e
    have hcm : grownCap w (xs.length + k) old e ≤ maxLen := grownCap_le_maxLen w (xs.length + k) old e (by simp only [maxLen]; omega)
    refine ⟨⟨by rw [hflat]; simp [hfl], .inr ⟨w.heap.size, _, _, by rw [hlen], hbase, heap_alloc_new w.drew _, by rw [hlen]; exact hge, hcm, ?_, ?_⟩⟩, ⟨rfl, rfl, rfl, by simp, fun j hj _ => heap_alloc_old w.drew _ hj⟩⟩
    · simp only [Array.size_append, List.size_toArray, size_zeroCells, hzc, hfl]
      omega
    · rw [hflat]
      simp only [Array.toList_append, hz1, zeroCells_one, List.append_assoc]
      rw [← List.append_assoc, List.take_left' (by simp [hfl])]
  obtain ⟨h1, h2⟩ := hown
  rcases h2 with ⟨rfl, hn⟩ | ⟨g, cap, cur, rfl, hbg, hg, hnc, hcm, hcs, htake⟩
  · have hx : xs = [] := List.eq_nil_of_length_eq_zero hn
    subst hx
    have hr := Lib.run_append_nil_zeros (P := P) w t tn ty e i0 z kq kn T.under htn hi hzz k h0 (by rw [hs1]; decide) (by omega) (by rw [hby]; omega)
    have hgr := grown 0 (by simp; omega) (Value.ownBlock (.slice none 0 0))
    simp only [List.length_nil, Nat.zero_add, List.flatMap_nil, Array.empty_append] at hgr
    exact ⟨_, _, hr, hgr.1, hgr.2⟩
  · by_cases hroom : xs.length + k ≤ cap
    · have hst := run_storeCells_at P g xs.length e (List.replicate k z) 0 cur w hg (by rw [hcs]; simp; omega) (by
        intro u hu
        rw [List.eq_of_mem_replicate hu]
        exact ho1)
      simp only [Nat.add_zero] at hst
      have hneg : ¬ ((k : Int) < 0) := by omega
      have h48i : ¬ (281474976710656 < (k : Int) * (i0.bytes : Int)) := by rw [hby, ← Int.natCast_mul]; omega
      have hk0 : k ≠ 0 := by omega
      have hr : (Builtin.append_ #[t, tn] ty #[.slice (some ⟨g, 0, none⟩) xs.length cap, .int kq k]).run P w = .ok (.slice (some ⟨g, 0, none⟩) (xs.length + k) cap) (w.setRow g (cur.toList.take xs.length ++ List.replicate k z ++ cur.toList.drop (xs.length + k)).toArray) := by
        simp [Builtin.append_, run_underlying T.under, run_underlying htn, sizeOf, typeInfo, zeroValue, hi, hzz, hs1, asInt, asIntOf, hw, hneg, h48i, hroom, hk0, hz1, zeroCells_one, Addr.add_lit]
        rw [hst]
        simp
      refine ⟨_, _, hr, ⟨by rw [hflat]; simp [hfl], .inr ⟨g, cap, _, by rw [hlen], hbg, setRow_heap w g cur _ e _ hg, by rw [hlen]; exact hroom, hcm, ?_, ?_⟩⟩, ⟨rfl, rfl, rfl, by simp, fun j _ hj => setRow_other w g j _ (fun e => hj (by simp [Value.ownBlock, e]))⟩⟩
      · simp only [List.size_toArray, List.length_append, List.length_take, List.length_drop, Array.length_toList, List.length_replicate]
        omega
      · rw [hflat]
        have ht2 : cur.toList.take xs.length = xs.flatMap fun x => [f x] := by rw [← htake, Nat.mul_one]
        simp only [ht2]
        exact List.take_left' (by simp [hfl])
    · have holds : ∀ j u, (xs.flatMap fun x => [f x])[j]? = some u → w.cell? ((⟨g, 0, none⟩ : Addr).add j) = some u :=
        World.ownsRow.cells (base := base) (e := e) (size := 1) (n := xs.length) (v := .slice (some ⟨g, 0, none⟩) xs.length cap) ⟨h1, .inr ⟨g, cap, cur, rfl, hbg, hg, hnc, hcm, hcs, htake⟩⟩ (g := g) rfl
      have hold := run_firstCells_some (P := P) w.drew i0.size xs.length ⟨g, 0, none⟩ xs.length cap (xs.flatMap fun x => [f x]) (by rw [hs1, hfl, Nat.mul_one]) holds
      have hr := Lib.run_append_grow_zeros (P := P) w t tn ty e i0 z kq kn T.under htn hi hzz (some ⟨g, 0, none⟩) xs.length cap (xs.flatMap fun x => [f x]) hold k h0 (by rw [hs1]; decide) (by omega) (by omega) (by rw [hby]; omega) (by rw [hby]; exact growslice_fits (by omega) hb.1)
      have hgr := grown cap (by omega) (Value.ownBlock (.slice (some ⟨g, 0, none⟩) xs.length cap))
      exact ⟨_, _, hr, hgr.1, hgr.2⟩
variable {w : World} {ops : Array Oper} {rest : List Oper} {o : Oper} {a : Act} {Q : Exit → Act → World → Prop} {K : Act → World → Prop}
theorem zero_wp (T : El P t e 1 bytes z) (hz1 : z.cells = #[z]) (ho1 : z.oneCell' = true) (x0 : α) (hx0 : f x0 = z) (htn : P.underlying tn = some (.int kn)) (s x : Operand)
    (ho : o.op = .call { callee := .builtin .append, args := #[s, x], argTypes := #[t, tn] }) (hs : a.eval s = v) (hown : Own w base e 1 (fun x => [f x]) v xs) {k : Nat} {kq : IntKind} (hx : a.eval x = .int kq k) (h0 : 0 < k) (hb : (xs.length + k) * bytes ≤ 140737488355328 ∧ xs.length + k ≤ 1000000) (hkb : k * bytes ≤ 1000000) (hbase : base ≤ w.heap.size)
    (h : ∀ v' w', Own w' base e 1 (fun x => [f x]) v' (xs ++ List.replicate k x0) → (∀ B W, Below B W w → B ≤ base → Below B W w') → K (a.put o.dst v') w') : o.wp P a w K Q := by
  obtain ⟨v', w', hr, h1, h2⟩ := zeros_own T hz1 ho1 x0 hx0 htn hown k kq h0 hb hkb hbase o.type
  exact Lib.wp_append_run w s x t tn ho v (.int kq k) hs hx v' w' hr (h v' w' h1 fun B W hB hle => hown.below h2 hB (Nat.le_trans hle hbase) hle)
theorem zero_own (T : El P t e 1 bytes z) (hz1 : z.cells = #[z]) (ho1 : z.oneCell' = true) (x0 : α) (hx0 : f x0 = z) (htn : P.underlying tn = some (.int kn)) (hgd : o.guard = none) (s x : Operand)
    (ho : o.op = .call { callee := .builtin .append, args := #[s, x], argTypes := #[t, tn] }) (hs : a.eval s = v) (hown : Own w base e 1 (fun x => [f x]) v xs) {k : Nat} {kq : IntKind} (hx : a.eval x = .int kq k) (h0 : 0 < k) (hb : (xs.length + k) * bytes ≤ 140737488355328 ∧ xs.length + k ≤ 1000000) (hkb : k * bytes ≤ 1000000) (hbase : base ≤ w.heap.size)
    (h : ∀ v' w', Own w' base e 1 (fun x => [f x]) v' (xs ++ List.replicate k x0) → (∀ B W, Below B W w → B ≤ base → Below B W w') → wpList P ops Q rest (a.put o.dst v') w') : wpList P ops Q (o :: rest) a w :=
  wpList_plain hgd fun _ hK => zero_wp T hz1 ho1 x0 hx0 htn s x ho hs hown hx h0 hb hkb hbase fun v' w' h1 h2 => hK _ _ (h v' w' h1 h2)
theorem zero_step {E' : Prop} (T : El P t e 1 bytes z) (hz1 : z.cells = #[z]) (ho1 : z.oneCell' = true) (x0 : α) (hx0 : f x0 = z) (htn : P.underlying tn = some (.int kn)) (hw : Region.wanted o (yielded ops a.tmps) = true) (s x : Operand)
    (ho : o.op = .call { callee := .builtin .append, args := #[s, x], argTypes := #[t, tn] }) (hs : a.eval s = v) (hown : Own w base e 1 (fun x => [f x]) v xs) {k : Nat} {kq : IntKind} (hx : a.eval x = .int kq k) (h0 : 0 < k) (hb : (xs.length + k) * bytes ≤ 140737488355328 ∧ xs.length + k ≤ 1000000) (hkb : k * bytes ≤ 1000000) (hbase : base ≤ w.heap.size)
    (h : ∀ v' w', Own w' base e 1 (fun x => [f x]) v' (xs ++ List.replicate k x0) → (∀ B W, Below B W w → B ≤ base → Below B W w') → K (a.put o.dst v') w') : if Region.wanted o (yielded ops a.tmps) = true then Oper.wp P o a w K Q else E' := by
  rw [if_pos hw]
  exact zero_wp T hz1 ho1 x0 hx0 htn s x ho hs hown hx h0 hb hkb hbase h
end
end Go.Proofs.Ytjimmbcihcmfoaa
