/- What the claim leans on: MemB · MemC · MemD · MemE · MemF · MemG · App · Ref · RefA. -/
import Derived.Test.YtppefchjoodgnaaGreatPL01
import Derived.Deep.DeepCutAuto
namespace Go.Proofs.YtppefchjoodgnaaGreat
open Go.RowKit
set_option linter.unusedVariables false
set_option linter.unusedSimpArgs false
theorem at_of_lt {α : Type} {xs : List α} {k : Nat} (h : k < xs.length) : ∃ x, xs[k]? = some x := ⟨xs[k], List.getElem?_eq_getElem h⟩
theorem sized_cases (n : Int) : n = 1 ∨ n = 2 ∨ n = 4 ∨ n = 8 ∨ ((n == 1) = false ∧ (n == 2) = false ∧ (n == 4) = false ∧ (n == 8) = false) := by
 simp only [beq_eq_false_iff_ne, ne_eq]; omega
def ReadAns (M : Areas) (p s : Int) (w : World) (e : Ending) (w' : World) : Prop :=
 ∃ v, e = .returned (.tuple #[v, .int .i64 (mread M p s).2]) ∧ Own w' w.heap.size 5 1 (fun x => [Value.int .u8 x]) v (mread M p s).1 ∧ Ext w w'
theorem read_bad {M : Areas} {p s : Int} (h : s < 0 ∨ 1024 < s) : mread M p s = ([], 1) := by rw [mread, if_pos h]
theorem read_none {M : Areas} {p s : Int} (h : ¬ (s < 0 ∨ 1024 < s)) (hf : mfind M p s = none) : mread M p s = ([], 80) := by rw [mread, if_neg h, hf]
theorem read_blank {M : Areas} {p s : Int} {A : Ar} {o : Nat} (h : ¬ (s < 0 ∨ 1024 < s)) (hf : mfind M p s = some (A, o)) (hc : (cutL A.put o s.toNat).contains false = true) : mread M p s = ([], 81) := by
 rw [mread, if_neg h, hf]; simp only [hc, if_true]
theorem read_ok {M : Areas} {p s : Int} {A : Ar} {o : Nat} (h : ¬ (s < 0 ∨ 1024 < s)) (hf : mfind M p s = some (A, o)) (hc : (cutL A.put o s.toNat).contains false = false) : mread M p s = (cutL A.bytes o s.toNat, 0) := by
 rw [mread, if_neg h, hf]; simp only [hc, Bool.false_eq_true, if_false]
theorem find_le {M : Areas} {p s : Int} {A : Ar} {o : Nat} (hp : 0 ≤ p) (hs : 0 ≤ s) (hf : mfind M p s = some (A, o)) : o + s.toNat ≤ A.bytes.length ∧ (o : Int) = p % 4294967296 := by
 unfold mfind at hf
 split at hf
 ·cases hf
 ·rename_i B hB
  split at hf
  ·cases hf
  ·rename_i hlt
   simp only [Option.some.injEq, Prod.mk.injEq] at hf
   obtain ⟨rfl, rfl⟩ := hf
   omega
theorem lookup_mem {α : Type} {L : List (Int × α)} {k : Int} {x : α} (h : L.lookup k = some x) : ∃ n, (n, x) ∈ L := by
 induction L with
 | nil => simp at h
 | cons y L ih =>
  by_cases e : k == y.1
  ·simp [List.lookup, e] at h
   exact ⟨y.1, by rw [← h]; exact List.mem_cons_self⟩
  ·simp [List.lookup, e] at h
   obtain ⟨n, hn⟩ := ih h
   exact ⟨n, List.mem_cons_of_mem _ hn⟩
theorem le_lt (l : List Int) (h : ∀ x ∈ l, 0 ≤ x ∧ x ≤ 255) : 0 ≤ le l ∧ le l < 256 ^ l.length := by
 induction l with
 | nil => simp [le]
 | cons y l ih =>
  have h1 := h y List.mem_cons_self
  have h2 := ih (fun x hx => h x (List.mem_cons_of_mem _ hx))
  simp only [le, List.length_cons, Int.pow_succ]
  omega
theorem mread_u8 {M : Areas} (hM : ∀ q ∈ M, ∀ x ∈ q.2.bytes, 0 ≤ x ∧ x ≤ 255) (p s : Int) : (∀ x ∈ (mread M p s).1, 0 ≤ x ∧ x ≤ 255) ∧ (mread M p s).1.length ≤ s.toNat := by
 unfold mread
 split
 ·simp
 ·split
  ·simp
  ·rename_i A o hf
   split
   ·simp
   ·have hA : ∃ n, (n, A) ∈ M := by
     unfold mfind at hf
     split at hf
     ·cases hf
     ·rename_i B hB
      split at hf
      ·cases hf
      ·simp only [Option.some.injEq, Prod.mk.injEq] at hf
       obtain ⟨rfl, _⟩ := hf
       exact lookup_mem hB
    obtain ⟨n, hn⟩ := hA
    refine ⟨fun x hx => hM _ hn x (List.mem_of_mem_drop (List.mem_of_mem_take hx)), ?_⟩
    simp only [cutL, List.length_take]; omega
theorem MemAt.u8 {w : World} {b r : Nat} {L : List Rec} (h : MemAt w b r L) : ∀ q ∈ view L, ∀ x ∈ q.2.bytes, 0 ≤ x ∧ x ≤ 255 := by
 intro q hq x hx
 obtain ⟨y, hy, rfl⟩ := List.mem_map.1 hq
 exact (h.recs y hy).u8 x hx
theorem bytesOf_len (n : Int) (k : Nat) : (bytesOf n k).length = k := by
 induction k generalizing n with
 | zero => rfl
 | succ k ih => simp [bytesOf, ih]
theorem bytesOf_succ (n : Int) (k : Nat) : bytesOf n (k + 1) = bytesOf n k ++ [n / 256 ^ k % 256] := by
 induction k generalizing n with
 | zero => simp [bytesOf]
 | succ k ih =>
  rw [bytesOf, ih (n / 256), bytesOf, List.cons_append]
  congr 3
  rw [Int.ediv_ediv_of_nonneg (by decide), Int.pow_succ, Int.mul_comm]
theorem bytesOf_u8 (n : Int) (k : Nat) : ∀ x ∈ bytesOf n k, 0 ≤ x ∧ x ≤ 255 := by
 induction k generalizing n with
 | zero => simp [bytesOf]
 | succ k ih =>
  intro x hx
  simp only [bytesOf, List.mem_cons] at hx
  rcases hx with rfl | hx
  ·omega
  ·exact ih _ x hx
theorem over_len {α : Type} (l s : List α) (o : Nat) (h : o + s.length ≤ l.length) : (over l o s).length = l.length := by simp [over]; omega
theorem over_nil {α : Type} (l : List α) (o : Nat) : over l o [] = l := by simp [over]
theorem over_at {α : Type} (l s : List α) (o i : Nat) (h : o + s.length ≤ l.length) : (over l o s)[i]? = if i < o then l[i]? else if i < o + s.length then s[i - o]? else l[i]? := by
 have h1 : (l.take o).length = o := by rw [List.length_take]; omega
 unfold over
 rw [List.append_assoc, List.getElem?_append, h1]
 by_cases a1 : i < o
 ·rw [if_pos a1, if_pos a1, List.getElem?_take_of_lt a1]
 ·rw [if_neg a1, if_neg a1, List.getElem?_append]
  by_cases a2 : i < o + s.length
  ·rw [if_pos a2, if_pos (by omega)]
  ·rw [if_neg a2, if_neg (by omega), List.getElem?_drop]
   congr 1; omega
theorem over_snoc {α : Type} (l s : List α) (o : Nat) (y : α) (h : o + s.length < l.length) : over l o (s ++ [y]) = (over l o s).set (o + s.length) y := by
 apply List.ext_getElem?
 intro i
 rw [over_at l _ o i (by simp; omega), List.getElem?_set, over_at l s o i (by omega), over_len l s o (by omega)]
 simp only [List.length_append, List.length_singleton]
 by_cases a1 : i < o
 ·rw [if_pos a1, if_neg (by omega), if_pos a1]
 ·by_cases a2 : i < o + s.length
  ·rw [if_neg a1, if_pos (by omega), if_neg (by omega), if_neg a1, if_pos a2, List.getElem?_append_left (by omega)]
  ·by_cases a3 : o + s.length = i
   ·rw [if_neg a1, if_pos (by omega), if_pos a3, if_pos (by omega), List.getElem?_append_right (by omega), show i - o - s.length = 0 from by omega]; rfl
   ·rw [if_neg a1, if_neg (by omega), if_neg a3, if_neg a1, if_neg a2]
section
variable {α : Type} {P : Program} {w : World} {ops : Array Oper} {rest : List Oper} {o : Oper} {a : Act} {Q : Exit → Act → World → Prop} {f : α → Value}
end
def marea (M : Areas) (n : Int) : List Int × Bool := match M.lookup n with | none => ([], false) | some A => (A.bytes, true)
structure MemIn (W w : World) (b : Nat) (M : Areas) : Prop where
 ext : Ext W w
 mem : ∃ r L, MemAt w b r L ∧ view L = M ∧ ∀ k ∈ foot b r L, W.heap.size ≤ k
theorem MemIn.go {W w w' : World} {b : Nat} {M : Areas} (h : MemIn W w b M) (k : Ext w w') : MemIn W w' b M := by
 obtain ⟨he, r, L, h1, h2, h3⟩ := h
 exact ⟨he.trans' k, r, L, h1.ext k, h2, h3⟩
theorem mat_le (a o : Int) : 0 ≤ mat a o ∧ mat a o ≤ 18446744073709551615 := by simp only [mat]; omega
theorem run_make_u8 (n : Nat) (hn : n ≤ 1000000) (u : World) : (Instr.makeSlice 23 (.int .i64 (n : Int)) (.int .i64 (n : Int))).run Tryz.prog u = .ok (.slice (some ⟨u.heap.size, 0, none⟩) n n) (u.alloc (.cells (madeCells #[.int .u8 0] n) 5)) := by
 obtain ⟨i0, hi0, hz0, hz1, hz2⟩ := info_parts el_u8.info
 have h := run_make (P := Tryz.prog) u 23 5 i0 (.int .u8 0) el_u8.under hi0 hz0 .i64 .i64 (n : Int) (n : Int) (by omega) (Int.le_refl _) (by rw [hz2]; omega) (by omega)
 simpa [hz1, Value.cells] using h
theorem sl_made (u : World) (n : Nat) (hn : n ≤ 1000000) : Sl (u.alloc (.cells (madeCells #[.int .u8 0] n) 5)) .u8 (.slice (some ⟨u.heap.size, 0, none⟩) n n) (List.replicate n 0) := by
 have e : (madeCells #[.int .u8 0] n : Array Value) = ((List.replicate n (0 : Int)).flatMap fun x => [Value.int .u8 x]).toArray := by
  apply Array.toList_inj.1
  rw [toList_madeCells_one, flat1, List.map_replicate]
 rw [e]
 exact (own_obj (base := 0) (enc_int .u8) (obj_top _ _ rfl) (Nat.zero_le _) (by simp) (by simp [maxLen]; omega)).rd (enc_int _)
theorem rep_u8 (n : Nat) : ∀ x ∈ List.replicate n (0 : Int), 0 ≤ x ∧ x ≤ 255 := by
 intro x hx
 rw [List.eq_of_mem_replicate hx]; omega
theorem cutL_len {α : Type} (l : List α) (o k : Nat) (h : o + k ≤ l.length) : (cutL l o k).length = k := by simp [cutL]; omega
theorem cutL_at {α : Type} (l : List α) (o k i : Nat) : (cutL l o k)[i]? = if i < k then l[o + i]? else none := by
 unfold cutL
 rw [List.getElem?_take]
 by_cases h : i < k
 ·rw [if_pos h, if_pos h, List.getElem?_drop]
 ·rw [if_neg h, if_neg h]
section
variable {P : Program} (w : World)
theorem run_append_where (base : Nat) (t ty e : TypeId) (i : TypeInfo) (z : Value) (size bytes : Nat) (ht : P.underlying t = some (.slice e)) (hi : P.info? e = some i) (hz : i.zero = some z)
  (hsize : i.size = size) (hby : i.bytes = bytes) (v : Value) (n : Nat) (xs : List Value) (hown : w.ownsRow base e size v n xs)
  (a : Addr) (m c : Nat) (news : List Value) (hl : news.length = m * size) (hnews : ∀ j u, news[j]? = some u → w.cell? (a.add j) = some u) (h1 : ∀ u ∈ news, u.oneCell' = true)
  (h63 : n + m ≤ maxLen) (hbytes : (n + m) * bytes ≤ 140737488355328) (v' : Value) (w' : World) (hr : (Builtin.append_ #[t, t] ty #[v, .slice (some a) m c]).run P w = .ok v' w') :
  ∀ k, v'.ownBlock = some k → v.ownBlock = some k ∨ w.heap.size ≤ k := by
 subst hsize
 subst hby
 have hsmall : n + m ≤ 9223372036854775807 := by simp only [maxLen] at h63; omega
 rcases hown.2 with ⟨rfl, rfl⟩ | ⟨g, cap, cur, rfl, hbg, hg, hnc, hcm, hcs, htake⟩
 ·by_cases hm : m = 0
  ·subst hm
   obtain rfl : news = [] := List.eq_nil_of_length_eq_zero (by simpa using hl)
   have h0 : (Builtin.append_ #[t, t] ty #[.slice none 0 0, .slice (some a) 0 c]).run P w = .ok (.slice none 0 0) w := by
    simp [Builtin.append_, run_underlying ht, sizeOf, typeInfo, hi, Builtin.lenOf, Builtin.firstCells, loadCells, loadCellsFrom]
   rw [h0] at hr
   injection hr with e1 e2
   subst e1
   intro k hk
   cases hk
  ·have h0 := run_append_nil (P := P) w t ty e i z ht hi hz a m c news hl hnews (by omega) (by omega) (by have hb := hbytes; simp only [Nat.zero_add] at hb; omega)
   rw [h0] at hr
   injection hr with e1 e2
   subst e1
   intro k hk
   injection hk with hk
   exact .inr (Nat.le_of_eq hk)
 ·by_cases hroom : n + m ≤ cap
  ·have hfit : n * i.size + news.length ≤ cur.size := by rw [hl, hcs, ← Nat.add_mul]; exact Nat.mul_le_mul_right _ hroom
   have h0 := run_append_room (P := P) w t ty e i ht hi g n cap cur hg a m c news hl hnews h1 hroom hfit
   rw [h0] at hr
   injection hr with e1 e2
   subst e1
   intro k hk
   exact .inl hk
  ·have holds : ∀ j u, xs[j]? = some u → w.cell? ((⟨g, 0, none⟩ : Addr).add j) = some u := hown.cells (g := g) rfl
   have h0 := run_append_grow (P := P) w t ty e i z ht hi hz ⟨g, 0, none⟩ n cap xs hown.1 holds a m c news hl hnews (by omega) (by omega) (growslice_fits (by omega) hbytes)
   rw [h0] at hr
   injection hr with e1 e2
   subst e1
   intro k hk
   injection hk with hk
   exact .inr (Nat.le_of_eq hk)
end
section
variable {α : Type} {w : World} {sz : Nat} {enc : α → List Value} {v : Value} {xs : List α} {base : Nat} {e : TypeId}
variable {P : Program} {ops : Array Oper} {o : Oper} {a : Act} {Q : Exit → Act → World → Prop} {K : Act → World → Prop}
abbrev Moved (w : World) (v v' : Value) : Prop := ∀ k, v'.ownBlock = some k → v.ownBlock = some k ∨ w.heap.size ≤ k
theorem app_wp2 {t : TypeId} {bytes : Nat} {z : Value} (T : El P t e sz bytes z) (E : Enc sz enc) (s x : Operand)
  (ho : o.op = .call { callee := .builtin .append, args := #[s, x], argTypes := #[t, t] })
  (hs : a.eval s = v) (hown : Own w base e sz enc v xs) {y : Value} {ys : List α} (hx : a.eval x = y) (hy : Rd w sz enc y ys)
  (hbytes : (xs.length + ys.length) * bytes ≤ 140737488355328 ∧ xs.length + ys.length ≤ 9223372036854775807) (hbase : base ≤ w.heap.size)
  (h : ∀ v' w', Own w' base e sz enc v' (xs ++ ys) → w.grownBy w' v.ownBlock → Moved w v v' → K (a.put o.dst v') w') : o.wp P a w K Q := by
 obtain ⟨i0, hi, hz0, hz1, hz2⟩ := info_parts T.info
 obtain ⟨ya, yc, rfl, h2, h3, h4, h5⟩ := hy
 cases ya with
 | none =>
  obtain ⟨rfl, rfl⟩ := h4 rfl
  have hrun := run_append_owned_none (P := P) (w := w) base t o.type e i0 sz T.under hi v xs.length (xs.flatMap enc) hown
  unfold Oper.wp
  simp [execOp, ho, resolve, invoke, builtin, hs, hx, hrun, Result.andThen]
  exact h v w (by simpa using hown) (World.grownBy.refl _ _) (fun _ hk => .inl hk)
 | some ad =>
  have flat : ∀ (l : List α) (k : Nat), (∀ i q, l[i]? = some q → ∀ j u, (enc q)[j]? = some u → w.cell? (ad.add ((k + i) * sz + j)) = some u) → ∀ j u, (l.flatMap enc)[j]? = some u → w.cell? (ad.add (k * sz + j)) = some u := by
   intro l
   induction l with
   | nil => intro k _ j u hj; simp at hj
   | cons q l ih =>
    intro k hk j u hj
    rw [List.flatMap_cons] at hj
    by_cases hlt : j < sz
    ·rw [List.getElem?_append_left (by rw [E.len]; exact hlt)] at hj
     simpa using hk 0 q rfl j u hj
    ·rw [List.getElem?_append_right (by rw [E.len]; omega), E.len] at hj
     have := ih (k + 1) (fun i x hx' j' u' hu' => by
      have := hk (i + 1) x (by simpa using hx') j' u' hu'
      rwa [show k + 1 + i = k + (i + 1) from by omega]) (j - sz) u hj
     rwa [show (k + 1) * sz + (j - sz) = k * sz + j from by rw [Nat.add_mul]; omega] at this
  have hnews : ∀ j u, (ys.flatMap enc)[j]? = some u → w.cell? (ad.add j) = some u := fun j u hj => by
   have := flat ys 0 (fun i x hx' j' u' hu' => by simpa [elt] using h5 i x hx' j' u' hu') j u hj
   simpa using this
  have hone : ∀ u ∈ ys.flatMap enc, u.oneCell' = true := fun u hu => by
   obtain ⟨x, _, hx⟩ := List.mem_flatMap.1 hu
   exact E.one x u hx
  have h63 : xs.length + ys.length ≤ maxLen := by simp only [maxLen]; omega
  have hl := flat_len E.len ys
  obtain ⟨v', w', hr, k1, k2, k3⟩ := run_append_own (P := P) w base t o.type e i0 z sz bytes T.under hi hz0 hz1 hz2 T.zs T.pos v xs.length (xs.flatMap enc) hown ad ys.length yc (ys.flatMap enc) hl hnews hone h63 hbytes.1 hbase
  have k4 := run_append_where (P := P) w base t o.type e i0 z sz bytes T.under hi hz0 hz1 hz2 v xs.length (xs.flatMap enc) hown ad ys.length yc (ys.flatMap enc) hl hnews hone h63 hbytes.1 v' w' hr
  unfold Oper.wp execOp
  simp only [ho, resolve, invoke, builtin, Sem.run_bind, Sem.run_pure, Result.andThen_ok, List.map_toArray, List.map_cons, List.map_nil, hs, hx, hr]
  exact h v' w' (by show World.ownsRow _ _ _ _ _ _ _; rw [List.flatMap_append, List.length_append]; exact k1) k2 k4
theorem app_step2 {E' : Prop} {t : TypeId} {bytes : Nat} {z : Value} (T : El P t e sz bytes z) (E : Enc sz enc) (hw : Region.wanted o (yielded ops a.tmps) = true) (s x : Operand)
  (ho : o.op = .call { callee := .builtin .append, args := #[s, x], argTypes := #[t, t] })
  (hs : a.eval s = v) (hown : Own w base e sz enc v xs) {y : Value} {ys : List α} (hx : a.eval x = y) (hy : Rd w sz enc y ys)
  (hbytes : (xs.length + ys.length) * bytes ≤ 140737488355328 ∧ xs.length + ys.length ≤ 9223372036854775807) (hbase : base ≤ w.heap.size)
  (h : ∀ v' w', Own w' base e sz enc v' (xs ++ ys) → w.grownBy w' v.ownBlock → Moved w v v' → K (a.put o.dst v') w') :
  if Region.wanted o (yielded ops a.tmps) = true then Oper.wp P o a w K Q else E' := by
 rw [if_pos hw]
 exact app_wp2 T E s x ho hs hown hx hy hbytes hbase h
theorem app_own2 {rest : List Oper} {t : TypeId} {bytes : Nat} {z : Value} (T : El P t e sz bytes z) (E : Enc sz enc) (hgd : o.guard = none) (s x : Operand)
  (ho : o.op = .call { callee := .builtin .append, args := #[s, x], argTypes := #[t, t] })
  (hs : a.eval s = v) (hown : Own w base e sz enc v xs) {y : Value} {ys : List α} (hx : a.eval x = y) (hy : Rd w sz enc y ys)
  (hbytes : (xs.length + ys.length) * bytes ≤ 140737488355328 ∧ xs.length + ys.length ≤ 9223372036854775807) (hbase : base ≤ w.heap.size)
  (h : ∀ v' w', Own w' base e sz enc v' (xs ++ ys) → w.grownBy w' v.ownBlock → Moved w v v' → wpList P ops Q rest (a.put o.dst v') w') : wpList P ops Q (o :: rest) a w :=
 wpList_plain hgd fun _ hK => app_wp2 T E s x ho hs hown hx hy hbytes hbase fun v' w' h1 h2 h3 => hK _ _ (h v' w' h1 h2 h3)
end
theorem grown_keep {w w' : World} {row : Option Nat} (h : w.grownBy w' row) : Keep row.toList w w' :=
 ⟨h.os, h.tape, h.output, h.size, fun k hk hF => h.block k hk (fun e => hF (by simp [e]))⟩
theorem Own.type_ne {α β : Type} {w : World} {b1 b2 : Nat} {e1 e2 : TypeId} {s1 s2 : Nat} {enc1 : α → List Value} {enc2 : β → List Value} {v1 v2 : Value} {xs : List α} {ys : List β} (h : Own w b1 e1 s1 enc1 v1 xs) (k : Own w b2 e2 s2 enc2 v2 ys) (hne : e1 ≠ e2) {j : Nat} (h1 : v1.ownBlock = some j) (h2 : v2.ownBlock = some j) : False := by
 rcases h.2 with ⟨rfl, _⟩ | ⟨g, cap, cur, rfl, _, hg, _⟩
 ·cases h1
 ·rcases k.2 with ⟨rfl, _⟩ | ⟨g', cap', cur', rfl, _, hg', _⟩
  ·cases h2
  ·injection h1 with h1
   injection h2 with h2
   subst h1
   subst h2
   rw [hg] at hg'
   injection hg' with e
   injection e with _ e _
   exact hne e
theorem Own.type_ne' {α : Type} {w : World} {b1 : Nat} {e1 e2 : TypeId} {s1 : Nat} {enc1 : α → List Value} {v1 : Value} {xs : List α} {cs : Array Value} {fr : Nat × Nat} {j : Nat} (h : Own w b1 e1 s1 enc1 v1 xs) (k : w.heap[j]? = some (.cells cs e2 fr)) (hne : e1 ≠ e2) (h1 : v1.ownBlock = some j) : False := by
 rcases h.2 with ⟨rfl, _⟩ | ⟨g, cap, cur, rfl, _, hg, _⟩
 ·cases h1
 ·injection h1 with h1
  subst h1
  rw [hg] at k
  injection k with e
  injection e with _ e _
  exact hne e
theorem Own.len {α : Type} {w : World} {base : Nat} {e : TypeId} {sz : Nat} {enc : α → List Value} {a : Option Addr} {n c : Nat} {xs : List α} (h : Own w base e sz enc (.slice a n c) xs) : n = xs.length := by
 rcases h.2 with ⟨hv, hn⟩ | ⟨g, cap, cur, hv, _⟩
 ·injection hv with h1 h2; rw [h2, hn]
 ·injection hv
theorem Own.keep {α : Type} {F : List Nat} {w w' : World} {base : Nat} {e : TypeId} {sz : Nat} {enc : α → List Value} {v : Value} {xs : List α} (h : Own w base e sz enc v xs) (k : Keep F w w') (hF : ∀ j, v.ownBlock = some j → j ∉ F) : Own w' base e sz enc v xs := by
 obtain ⟨h1, h2⟩ := h
 refine ⟨h1, ?_⟩
 rcases h2 with h2 | ⟨g, cap, cur, rfl, hb, hg, r⟩
 ·exact .inl h2
 ·exact .inr ⟨g, cap, cur, rfl, hb, k.obj hg (hF g rfl), r⟩
theorem Rd.elt_add {α : Type} {w : World} {sz : Nat} {enc : α → List Value} {v : Value} {xs : List α} (h : Rd w sz enc v xs) {i : Nat} {x : α} (hx : xs[i]? = some x) (k j : Nat) : (elt v k).add j = elt v (k + j) := by
 obtain ⟨a, c, rfl, h2, h3, h4, h5⟩ := h
 cases a with
 | none => rw [(h4 rfl).1] at hx; simp at hx
 | some a => simp only [elt, Addr.add_add]
theorem Keep.through {F0 F : List Nat} {wf w w' : World} (h : Keep F0 wf w) (k : Keep F w w') (hF : ∀ j ∈ F, j ∈ F0 ∨ wf.heap.size ≤ j) : Keep F0 wf w' :=
 ⟨k.os.trans h.os, k.tape.trans h.tape, k.output.trans h.output, Nat.le_trans h.size k.size, fun i hi hF0 => (k.block i (Nat.lt_of_lt_of_le hi h.size) (fun hj => (hF i hj).elim hF0 (fun h' => by omega))).trans (h.block i hi hF0)⟩
structure RR where
 n : Int
 ba : Option Addr
 bc : Nat
 pa : Option Addr
 pc : Nat
 A : Ar
def RR.bv (x : RR) : Value := .slice x.ba x.A.bytes.length x.bc
def RR.pv (x : RR) : Value := .slice x.pa x.A.put.length x.pc
def RR.enc (x : RR) : List Value := [.int .i64 x.n, x.bv, x.pv, .bool x.A.fixed]
theorem enc_rr : Enc 4 RR.enc := ⟨fun _ => rfl, fun x u hu => by
 simp only [RR.enc, List.mem_cons, List.not_mem_nil, or_false] at hu
 rcases hu with rfl | rfl | rfl | rfl <;> rfl⟩
def RR.blocks (x : RR) : List Nat := x.bv.ownBlock.toList ++ x.pv.ownBlock.toList
abbrev encB : Int → List Value := fun x => [Value.int .u8 x]
abbrev encP : Bool → List Value := fun x => [Value.bool (!x)]
theorem enc_p : Enc 1 encP := ⟨fun _ => rfl, fun x u hu => by simp at hu; subst hu; rfl⟩
structure RefAt (w : World) (base b : Nat) (lv : Value) (L : List RR) : Prop where
 head : w.heap[b]? = some (.cells #[lv] 83 (0, 0))
 hb : base ≤ b
 list : Own w base 119 4 RR.enc lv L
 bytes : ∀ x ∈ L, Own w base 5 1 encB x.bv x.A.bytes
 put : ∀ x ∈ L, Own w base 4 1 encP x.pv x.A.put
 apart : (b :: (lv.ownBlock.toList ++ L.flatMap RR.blocks)).Nodup
 ok : ∀ x ∈ L, x.A.put.length = x.A.bytes.length ∧ x.A.bytes.length ≤ 1024 ∧ (∀ q ∈ x.A.bytes, 0 ≤ q ∧ q ≤ 255) ∧ 1 ≤ x.n ∧ x.n ≤ 2147483647
 uniq : (L.map (·.n)).Nodup
def rfoot (b : Nat) (lv : Value) (L : List RR) : List Nat := b :: (lv.ownBlock.toList ++ L.flatMap RR.blocks)
def viewR (L : List RR) : Areas := L.map fun x => (x.n, x.A)
theorem RefAt.keep {F : List Nat} {w w' : World} {base b : Nat} {lv : Value} {L : List RR} (h : RefAt w base b lv L) (k : Keep F w w') (hF : ∀ x ∈ rfoot b lv L, x ∉ F) : RefAt w' base b lv L := by
 refine ⟨k.obj h.head (hF _ (by simp [rfoot])), h.hb, h.list.keep k (fun j hj => hF j (by simp [rfoot, hj])), fun x hx => (h.bytes x hx).keep k (fun j hj => hF j ?_), fun x hx => (h.put x hx).keep k (fun j hj => hF j ?_), h.apart, h.ok, h.uniq⟩
 all_goals
  simp only [rfoot, List.mem_cons, List.mem_append, List.mem_flatMap]
  exact .inr (.inr ⟨x, hx, by simp [RR.blocks, hj]⟩)
theorem RefAt.ext {w w' : World} {base b : Nat} {lv : Value} {L : List RR} (h : RefAt w base b lv L) (k : Ext w w') : RefAt w' base b lv L :=
 h.keep (F := []) (Keep.of_ext k) (fun _ _ => by simp)
theorem RefAt.lt {w : World} {base b : Nat} {lv : Value} {L : List RR} (h : RefAt w base b lv L) : ∀ x ∈ rfoot b lv L, base ≤ x ∧ x < w.heap.size := by
 intro x hx
 simp only [rfoot, List.mem_cons, List.mem_append, List.mem_flatMap, Option.mem_toList] at hx
 rcases hx with rfl | hx | ⟨y, hy, hx⟩
 ·exact ⟨h.hb, heap_lt h.head⟩
 ·exact h.list.lt hx
 ·simp only [RR.blocks, List.mem_append, Option.mem_toList] at hx
  rcases hx with hx | hx
  ·exact (h.bytes y hy).lt hx
  ·exact (h.put y hy).lt hx
theorem lookup_viewR (L : List RR) (n : Int) : ((viewR L).lookup n = none ∧ ∀ x ∈ L, (x.n == n) = false) ∨
  ∃ (i : Nat) (x : RR), L[i]? = some x ∧ x.n = n ∧ (viewR L).lookup n = some x.A ∧ ∀ (j : Nat) (y : RR), j < i → L[j]? = some y → (y.n == n) = false := by
 induction L with
 | nil => left; simp [viewR]
 | cons y L ih =>
  by_cases h : n = y.n
  ·right
   exact ⟨0, y, rfl, h.symm, by simp [viewR, List.lookup, h], fun j _ hj => by omega⟩
  ·have hb : (n == y.n) = false := by simpa using h
   have hb' : (y.n == n) = false := by simpa using fun e => h e.symm
   rcases ih with ⟨h1, h2⟩ | ⟨i, x, hx, h1, h2, h3⟩
   ·left
    refine ⟨by simpa [viewR, List.lookup, hb] using h1, fun x hx => ?_⟩
    rcases List.mem_cons.1 hx with rfl | hx
    ·exact hb'
    ·exact h2 x hx
   ·right
    refine ⟨i + 1, x, by simpa using hx, h1, by simpa [viewR, List.lookup, hb] using h2, fun j z hj hz => ?_⟩
    cases j with
    | zero => simp at hz; subst hz; exact hb'
    | succ j => exact h3 j z (by omega) (by simpa using hz)
theorem el_area : El Tryz.prog 81 119 4 64 (.agg #[.int .i64 0, .slice none 0 0, .slice none 0 0, .bool false]) := ⟨Tryz.underlying81, by kernel_rfl, rfl, by decide, fun _ => by kernel_rfl⟩
theorem ref_at (a o : Int) (w : World) : Calls Tryz.prog 37 #[.int .i64 a, .int .i64 o] w fun e w' => e = .returned (.int .u64 (mat a o)) ∧ w' = w := by
 go_enter Tryz.func37, Tryz.ntmps37
 go_wp2
 go_returns
 exact ⟨ret_u64 (by simp only [IntKind.wrap_u64, mat]; omega), rfl⟩
theorem ref_fits (n : Int) (w : World) : Calls Tryz.prog 149 #[.int .i64 n] w fun e w' => e = .returned (.bool (sized n)) ∧ w' = w := by
 rcases sized_cases n with rfl | rfl | rfl | rfl | ⟨h1, h2, h3, h4⟩
 all_goals
  go_enter Tryz.func149, Tryz.ntmps149
  go_wp2
  go_returns
  exact ⟨ret_bool (by simp [sized, *]), rfl⟩
theorem area_cells {w : World} {v : Value} {L : List RR} (R : Rd w 4 RR.enc v L) {i : Nat} {x : RR} (hx : L[i]? = some x) :
  w.cell? (elt v (i * 4)) = some (.int .i64 x.n) ∧ w.cell? ⟨(elt v (i * 4)).block, (elt v (i * 4)).off + 1, none⟩ = some x.bv ∧ w.cell? ⟨(elt v (i * 4)).block, (elt v (i * 4)).off + 2, none⟩ = some x.pv ∧ w.cell? ⟨(elt v (i * 4)).block, (elt v (i * 4)).off + 3, none⟩ = some (.bool x.A.fixed) := by
 have E := R.elt_add hx
 have F : ∀ (p : Addr) (j : Nat), j ≠ 0 → (⟨p.block, p.off + j, none⟩ : Addr) = p.add j := fun p j h => by simp [Addr.add, h]
 rw [F _ 1 (by decide), F _ 2 (by decide), F _ 3 (by decide), E, E, E]
 exact ⟨R.cell hx (j := 0) rfl, R.cell hx (j := 1) rfl, R.cell hx (j := 2) rfl, R.cell hx (j := 3) rfl⟩
theorem RefAt.cells {w : World} {base b : Nat} {v : Value} {L : List RR} (h : RefAt w base b v L) {i : Nat} {x : RR} (hx : L[i]? = some x) :
  w.cell? (elt v (i * 4)) = some (.int .i64 x.n) ∧ w.cell? ⟨(elt v (i * 4)).block, (elt v (i * 4)).off + 1, none⟩ = some x.bv ∧ w.cell? ⟨(elt v (i * 4)).block, (elt v (i * 4)).off + 2, none⟩ = some x.pv ∧ w.cell? ⟨(elt v (i * 4)).block, (elt v (i * 4)).off + 3, none⟩ = some (.bool x.A.fixed) := area_cells (h.list.rd enc_rr) hx
theorem RefAt.rec_apart {w : World} {base b : Nat} {lv : Value} {L : List RR} (h : RefAt w base b lv L) {x : RR} (hx : x ∈ L) : b ∉ RR.blocks x ∧ (∀ j, lv.ownBlock = some j → j ∉ RR.blocks x) ∧ (RR.blocks x).Nodup := by
 have h0 := List.nodup_cons.1 h.apart
 have h1 := List.nodup_append.1 h0.2
 have hm : ∀ j ∈ RR.blocks x, j ∈ L.flatMap RR.blocks := fun j hj => List.mem_flatMap.2 ⟨x, hx, hj⟩
 exact ⟨fun hb => h0.1 (List.mem_append_right _ (hm _ hb)), fun j hj hb => h1.2.2 j (by simpa using hj) j (hm _ hb) rfl, (List.pairwise_flatMap.1 h1.2.1).1 x hx⟩
theorem RefAt.other {w : World} {base b : Nat} {lv : Value} {L : List RR} (h : RefAt w base b lv L) {x y : RR} (hx : x ∈ L) (hy : y ∈ L) (hne : x ≠ y) {k : Nat} (hk : k ∈ RR.blocks x) : k ∉ RR.blocks y := by
 intro hk'
 have h2 := (List.pairwise_flatMap.1 (List.nodup_append.1 (List.nodup_cons.1 h.apart).2).2.1).2
 exact pw_of (R := fun a b => ∀ x ∈ RR.blocks a, ∀ y ∈ RR.blocks b, x ≠ y) (fun a b hab u hu v hv e => hab v hv u hu e.symm) h2 hx hy hne k hk k hk' rfl
theorem uniqR_eq {L : List RR} (h : (L.map (·.n)).Nodup) {x y : RR} (hx : x ∈ L) (hy : y ∈ L) (e : x.n = y.n) : x = y := by
 induction L with
 | nil => cases hx
 | cons z L ih =>
  simp only [List.map_cons, List.nodup_cons, List.mem_map, not_exists, not_and] at h
  cases hx with
  | head => cases hy with
   | head => rfl
   | tail _ hy => exact absurd e.symm (h.1 y hy)
  | tail _ hx => cases hy with
   | head => exact absurd e (h.1 x hx)
   | tail _ hy => exact ih h.2 hx hy
theorem fm_congr {α β : Type} {f g : α → List β} : ∀ {l : List α}, (∀ x ∈ l, f x = g x) → l.flatMap f = l.flatMap g
 | [], _ => rfl
 | x :: l, h => by rw [List.flatMap_cons, List.flatMap_cons, h x List.mem_cons_self, fm_congr fun y hy => h y (List.mem_cons_of_mem _ hy)]
def updRR (L : List RR) (x : RR) (A : Ar) : List RR := L.map fun y => if y.n == x.n then { y with A := A } else y
theorem viewR_upd (L : List RR) (x : RR) (A : Ar) : viewR (updRR L x A) = setKey (viewR L) x.n A := by
 simp only [viewR, updRR, setKey, List.map_map]
 apply List.map_congr_left
 intro y _
 by_cases hn : y.n = x.n
 ·simp [hn]
 ·simp [hn]
theorem RefAt.upd {w w' : World} {base b : Nat} {lv : Value} {L : List RR} (h : RefAt w base b lv L) {x : RR} (hx : x ∈ L) (A : Ar) (hf : A.fixed = x.A.fixed) (hl : A.bytes.length = x.A.bytes.length) (hp : A.put.length = x.A.put.length) (hu : ∀ q ∈ A.bytes, 0 ≤ q ∧ q ≤ 255)
  (k : Keep (RR.blocks x) w w') (HG : Own w' base 5 1 encB x.bv A.bytes) (HP : Own w' base 4 1 encP x.pv A.put) :
  RefAt w' base b lv (updRR L x A) ∧ rfoot b lv (updRR L x A) = rfoot b lv L := by
 have hE : ∀ y ∈ L, RR.enc (if y.n == x.n then { y with A := A } else y) = RR.enc y ∧ RR.blocks (if y.n == x.n then { y with A := A } else y) = RR.blocks y ∧ (if y.n == x.n then { y with A := A } else y).n = y.n := by
  intro y hy
  by_cases hn : y.n == x.n
  ·have e : y = x := uniqR_eq h.uniq hy hx (by simpa using hn)
   subst e
   simp only [hn, if_true, and_true]
   refine ⟨?_, ?_⟩
   ·simp only [RR.enc, RR.bv, RR.pv, hf, hl, hp]
   ·simp only [RR.blocks, RR.bv, RR.pv, hl, hp]
  ·simp only [hn, Bool.false_eq_true, if_false, and_self]
 have e1 : (updRR L x A).flatMap RR.enc = L.flatMap RR.enc := by
  rw [updRR, List.flatMap_map]
  exact fm_congr fun y hy => (hE y hy).1
 have e2 : (updRR L x A).flatMap RR.blocks = L.flatMap RR.blocks := by
  rw [updRR, List.flatMap_map]
  exact fm_congr fun y hy => (hE y hy).2.1
 have e3 : (updRR L x A).map (·.n) = L.map (·.n) := by
  rw [updRR, List.map_map]
  exact List.map_congr_left fun y hy => (hE y hy).2.2
 have e4 : (updRR L x A).length = L.length := by simp [updRR]
 have ha := h.rec_apart hx
 refine ⟨⟨k.obj h.head ha.1, h.hb, ?_, ?_, ?_, by rw [e2]; exact h.apart, ?_, by rw [e3]; exact h.uniq⟩, by simp only [rfoot, e2]⟩
 ·show World.ownsRow _ _ _ _ _ _ _
  rw [e1, e4]
  exact h.list.keep k ha.2.1
 ·intro y' hy'
  obtain ⟨y, hy, rfl⟩ := List.mem_map.1 hy'
  by_cases hn : y.n == x.n
  ·have e : y = x := uniqR_eq h.uniq hy hx (by simpa using hn)
   subst e
   simp only [hn, if_true]
   simp only [RR.bv, hl] at HG ⊢
   exact HG
  ·have hne : y ≠ x := fun e => hn (by rw [e]; simp)
   simp only [hn, Bool.false_eq_true, if_false]
   exact (h.bytes y hy).keep k (fun j hj => h.other hy hx hne (by simp [RR.blocks, hj]))
 ·intro y' hy'
  obtain ⟨y, hy, rfl⟩ := List.mem_map.1 hy'
  by_cases hn : y.n == x.n
  ·have e : y = x := uniqR_eq h.uniq hy hx (by simpa using hn)
   subst e
   simp only [hn, if_true]
   simp only [RR.pv, hp] at HP ⊢
   exact HP
  ·have hne : y ≠ x := fun e => hn (by rw [e]; simp)
   simp only [hn, Bool.false_eq_true, if_false]
   exact (h.put y hy).keep k (fun j hj => h.other hy hx hne (by simp [RR.blocks, hj]))
 ·intro y' hy'
  obtain ⟨y, hy, rfl⟩ := List.mem_map.1 hy'
  have := h.ok y hy
  by_cases hn : y.n == x.n
  ·have e : y = x := uniqR_eq h.uniq hy hx (by simpa using hn)
   subst e
   simp only [hn, if_true]
   exact ⟨by rw [hl, hp]; exact this.1, by rw [hl]; exact this.2.1, hu, this.2.2.2⟩
  ·simpa only [hn, Bool.false_eq_true, if_false] using this
def FindAns (L : List RR) (n : Int) (w : World) (e : Ending) (w' : World) : Prop :=
 w' = w ∧ (((viewR L).lookup n = none ∧ e = .returned (.int .i64 (-1))) ∨ ∃ (i : Nat) (x : RR), L[i]? = some x ∧ x.n = n ∧ (viewR L).lookup n = some x.A ∧ e = .returned (.int .i64 (i : Nat)))
set_option maxHeartbeats 400000 in
theorem ref_find (base b : Nat) (lv : Value) (L : List RR) (k : Int) (w : World) (h : RefAt w base b lv L) :
  Calls Tryz.prog 61 #[.pointer (some ⟨b, 0, none⟩), .int .i64 k] w (FindAns L k w) := by
 obtain ⟨a, n, c, rfl, hn, hN⟩ := (h.list.rd enc_rr).val
 have RL := η (h.list.rd enc_rr)
 have hb := cO (i := 0) h.head
 simp only [List.getElem?_toArray, List.getElem?_cons_zero] at hb
 have HC := η (lookup_viewR L k)
 have HR := η h
 clear h
 go_enter Tryz.func61, Tryz.ntmps61
 go_wp2_with fail
 go_loopw [5] (fun i wr => ∃ j : Nat, j ≤ n ∧ i = .int .i64 j ∧ wr = w ∧ Hid (∀ (q : Nat) (y : RR), q < j → L[q]? = some y → (y.n == k) = false)) (fun i _ => n - (intOf i).toNat)
 case atStart => exact ⟨0, Nat.zero_le _, rfl, rfl, η fun q y hq => absurd hq (Nat.not_lt_zero _)⟩
 case round =>
  obtain ⟨j, hj, rfl, rfl, HJ⟩ := hrel
  by_cases hlt : (j : Int) < n
  ·obtain ⟨x, hx⟩ := at_of_lt (xs := L) (k := j) (by have := hN.out; omega)
   have c0 := (HR.out.cells hx).1
   have ix := fun W => RL.out.run_at (P := Tryz.prog) el_area.under el_area.size .i64 (j : Int) (by omega) (by omega) W
   simp only [Int.toNat_natCast] at ix
   have HX := η hx
   clear hx
   cases hk : (x.n == k) with
   | true =>
    have hk' : x.n = k := by simpa using hk
    go_wp2_with fail
    go_returns
    refine ⟨rfl, .inr ?_⟩
    rcases HC.out with ⟨h1, h2⟩ | ⟨i, y, hy, h1, h2, h3⟩
    ·rw [h2 x (List.mem_of_getElem? HX.out)] at hk; cases hk
    ·have e : i = j := by
      rcases Nat.lt_trichotomy i j with h | h | h
      ·have := HJ.out i y h hy
       rw [h1] at this; simp at this
      ·exact h
      ·have := h3 j x h HX.out
       rw [hk'] at this; simp at this
     subst e
     exact ⟨i, y, hy, h1, h2, rfl⟩
   | false =>
    have HK := η hk
    go_wp2_with fail
    go_roundw
    case rel =>
     refine ⟨j + 1, by omega, by go_num, trivial, η fun q y hq hy => ?_⟩
     rcases Nat.lt_succ_iff_lt_or_eq.1 hq with hq | rfl
     ·exact HJ.out q y hq hy
     ·rw [HX.out] at hy; injection hy with e; subst e; exact HK.out
    case measure => simp [intOf]; omega
  ·have hjn : j = L.length := by have := hN.out; omega
   have HJN := η hjn
   clear hjn
   go_wp2_with fail
   go_returns
   refine ⟨rfl, .inl ⟨?_, rfl⟩⟩
   rcases HC.out with ⟨h1, h2⟩ | ⟨i, y, hy, h1, h2, h3⟩
   ·exact h1
   ·have := HJ.out i y (by rw [HJN.out]; exact (List.getElem?_eq_some_iff.1 hy).1) hy
    rw [h1] at this; simp at this
def WhereAns (L : List RR) (p s : Int) (w : World) (e : Ending) (w' : World) : Prop :=
 w' = w ∧ ((mfind (viewR L) p s = none ∧ e = .returned (.tuple #[.int .i64 (-1), .int .i64 0])) ∨
  ∃ (i : Nat) (x : RR), L[i]? = some x ∧ x.n = p / 4294967296 ∧ mfind (viewR L) p s = some (x.A, (p % 4294967296).toNat) ∧ e = .returned (.tuple #[.int .i64 (i : Nat), .int .i64 (p % 4294967296)]))
set_option maxHeartbeats 1000000 in
theorem ref_where (base b : Nat) (lv : Value) (L : List RR) (p s : Int) (w : World) (h : RefAt w base b lv L) (hp : 0 ≤ p) (hs : 0 ≤ s) (hs1 : s ≤ 1024) (H : Hid (p ≤ 18446744073709551615)) :
  Calls Tryz.prog 150 #[.pointer (some ⟨b, 0, none⟩), .int .u64 p, .int .i64 s] w (WhereAns L p s w) := by
 have hq0 : 0 ≤ p / 4294967296 := by omega
 have hq1 : p / 4294967296 ≤ 4294967295 := by have := H.out; omega
 have ho0 : 0 ≤ p % 4294967296 := by omega
 have ho1 : p % 4294967296 ≤ 4294967295 := by omega
 obtain ⟨a, n, c, rfl, hn, hN⟩ := (h.list.rd enc_rr).val
 have RL := η (h.list.rd enc_rr)
 have hb := cO (i := 0) h.head
 simp only [List.getElem?_toArray, List.getElem?_cons_zero] at hb
 have HR := η h
 clear h
 go_enter Tryz.func150, Tryz.ntmps150
 go_wp2_with fail
 refine (ref_find base b _ L (p / 4294967296) _ HR.out).mono ?_
 rintro e w1 ⟨rfl, ⟨hf, rfl⟩ | ⟨i, x, hx, hxn, hf, rfl⟩⟩
 ·have HF := η hf
  clear hf
  go_wp2_with fail
  go_returns
  exact ⟨rfl, .inl ⟨by simp [mfind, HF.out], rfl⟩⟩
 ·have c1 := (HR.out.cells hx).2.1
  have hlt : i < n := by rw [hN.out]; exact (List.getElem?_eq_some_iff.1 hx).1
  have ix := fun W => RL.out.run_at (P := Tryz.prog) el_area.under el_area.size .i64 (i : Int) (by omega) (by omega) W
  simp only [Int.toNat_natCast] at ix
  have HX := η hx
  have HXN := η hxn
  have HF := η hf
  have hsm := (HR.out.ok x (List.mem_of_getElem? hx)).2.1
  rw [RR.bv] at c1
  clear hx hxn hf
  have hi0 : decide ((i : Int) < 0) = false := by simp
  by_cases hA : (x.A.bytes.length : Int) < p % 4294967296
  ·go_wp2_with fail
   go_returns
   exact ⟨rfl, .inl ⟨by simp only [mfind, HF.out]; rw [if_pos (.inl hA)], rfl⟩⟩
  ·have hA' : decide ((x.A.bytes.length : Int) < p % 4294967296) = false := by simpa using hA
   by_cases hB : (x.A.bytes.length : Int) - p % 4294967296 < s
   ·go_wp2_with fail
    go_returns
    exact ⟨rfl, .inl ⟨by simp only [mfind, HF.out]; rw [if_pos (.inr hB)], rfl⟩⟩
   ·go_wp2_with fail
    go_returns
    exact ⟨rfl, .inr ⟨i, x, HX.out, HXN.out, by simp only [mfind, HF.out]; rw [if_neg (fun h => by omega)], rfl⟩⟩
theorem RefAt.open {w : World} {base b : Nat} {lv : Value} {L : List RR} (h : RefAt w base b lv L) : ∃ a n c, lv = .slice a n c ∧ n ≤ 9223372036854775807 ∧ Hid (n = L.length) ∧ Hid (Rd w 4 RR.enc (.slice a n c) L) ∧ w.cell? ⟨b, 0, none⟩ = some (.slice a n c) := by
 have R := h.list.rd enc_rr
 obtain ⟨a, n, c, rfl, hn, hN⟩ := R.val
 exact ⟨a, n, c, rfl, hn, hN, η R, cO h.head⟩
theorem RefAt.u8 {w : World} {base b : Nat} {lv : Value} {L : List RR} (h : RefAt w base b lv L) : ∀ q ∈ viewR L, ∀ x ∈ q.2.bytes, 0 ≤ x ∧ x ≤ 255 := by
 intro q hq x hx
 obtain ⟨y, hy, rfl⟩ := List.mem_map.1 hq
 exact (h.ok y hy).2.2.1 x hx
def RAreaAns (M : Areas) (n : Int) (w : World) (e : Ending) (w' : World) : Prop :=
 ∃ v, e = .returned (.tuple #[v, .bool (marea M n).2]) ∧ Rd w 1 encB v (marea M n).1 ∧ w' = w
set_option maxHeartbeats 400000 in
theorem ref_area (base b : Nat) (lv : Value) (L : List RR) (k : Int) (w : World) (h : RefAt w base b lv L) :
  Calls Tryz.prog 72 #[.pointer (some ⟨b, 0, none⟩), .int .i64 k] w (RAreaAns (viewR L) k w) := by
 obtain ⟨a, n, c, rfl, hn, hN, RL, hb⟩ := h.open
 have HR := η h
 clear h
 go_enter Tryz.func72, Tryz.ntmps72
 go_wp2_with fail
 refine (ref_find base b _ L k _ HR.out).mono ?_
 rintro e w1 ⟨rfl, ⟨hf, rfl⟩ | ⟨i, x, hx, hxn, hf, rfl⟩⟩
 ·have HF := η hf
  clear hf
  go_wp2_with fail
  go_returns
  exact ⟨.slice none 0 0, by simp [marea, HF.out], by simp only [marea, HF.out]; exact Rd.nil _ _ _, rfl⟩
 ·have c1 := (HR.out.cells hx).2.1
  have hlt : i < n := by rw [hN.out]; exact (List.getElem?_eq_some_iff.1 hx).1
  have ix := fun W => RL.out.run_at (P := Tryz.prog) el_area.under el_area.size .i64 (i : Int) (by omega) (by omega) W
  simp only [Int.toNat_natCast] at ix
  have HX := η hx
  have HF := η hf
  rw [RR.bv] at c1
  clear hx hxn hf
  have hi0 : decide ((i : Int) < 0) = false := by simp
  go_wp2_with fail
  go_returns
  refine ⟨x.bv, by simp [marea, HF.out, RR.bv], by simp only [marea, HF.out]; exact (HR.out.bytes x (List.mem_of_getElem? HX.out)).rd (enc_int _), rfl⟩
theorem put_cut {P : List Bool} {o n : Nat} (h : ∀ j, j < n → P[o + j]? = some true) : (cutL P o n).contains false = false := by
 rw [Bool.eq_false_iff]
 intro hc
 obtain ⟨i, hi⟩ := List.getElem?_of_mem (List.contains_iff_mem.1 hc)
 rw [cutL_at] at hi
 by_cases hin : i < n
 ·rw [if_pos hin, h i hin] at hi; simp at hi
 ·rw [if_neg hin] at hi; cases hi
theorem put_cut' {P : List Bool} {o n j : Nat} (hj : j < n) (h : P[o + j]? = some false) : (cutL P o n).contains false = true :=
 List.contains_iff_mem.2 (List.mem_of_getElem? (i := j) (by rw [cutL_at, if_pos hj]; exact h))
end Go.Proofs.YtppefchjoodgnaaGreat
