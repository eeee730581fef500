/- live: what is needed, as words of a program; rows of integers apart of each other; from where one comes. -/
import Derived.Test.YtkogkcjiachphaaLvB
import Derived.Test.YtkogkcjiachphaaLvL
namespace Go.Proofs.Ytkogkcjiachphaa
open Go.RowKit
set_option linter.unusedVariables false
set_option linter.unusedSimpArgs false

abbrev encV : Value → List Value := fun x => [x]
abbrev encN : Nat → List Value := fun x => [Value.int .u16 (x : Int)]
theorem enc_nat : Enc 1 encN := ⟨fun _ => rfl, fun x u hu => by simp at hu; subst hu; rfl⟩
theorem el_u16 : El Try.prog 41 38 1 2 (.int .u16 0) := ⟨Try.underlying41, by kernel_rfl, rfl, by decide, fun _ => by kernel_rfl⟩
theorem el_rows : El Try.prog 89 25 1 24 (.slice none 0 0) := ⟨Try.underlying89, by kernel_rfl, rfl, by decide, fun _ => by kernel_rfl⟩
theorem run_make_u16 (n : Nat) (hn : n ≤ 1000000) (u : World) : (Instr.makeSlice 41 (.int .i64 (n : Int)) (.int .i64 (n : Int))).run Try.prog u = .ok (.slice (some ⟨u.heap.size, 0, none⟩) n n) (u.alloc (.cells (madeCells #[.int .u16 0] n) 38)) := by
  obtain ⟨i0, hi0, hz0, hz1, hz2⟩ := info_parts el_u16.info
  have h := run_make (P := Try.prog) u 41 38 i0 (.int .u16 0) el_u16.under hi0 hz0 .i64 .i64 (n : Int) (n : Int) (by omega) (Int.le_refl _) (by rw [hz2]; omega) (by omega)
  simpa [hz1, Value.cells] using h
theorem run_make_rows (n : Nat) (hn : n ≤ 1000000) (u : World) : (Instr.makeSlice 89 (.int .i64 (n : Int)) (.int .i64 (n : Int))).run Try.prog u = .ok (.slice (some ⟨u.heap.size, 0, none⟩) n n) (u.alloc (.cells (madeCells #[.slice none 0 0] n) 25)) := by
  obtain ⟨i0, hi0, hz0, hz1, hz2⟩ := info_parts el_rows.info
  have h := run_make (P := Try.prog) u 89 25 i0 (.slice none 0 0) el_rows.under hi0 hz0 .i64 .i64 (n : Int) (n : Int) (by omega) (Int.le_refl _) (by rw [hz2]; omega) (by omega)
  simpa [hz1, Value.cells] using h
theorem own_made_u16 (u : World) (n : Nat) (hn : n ≤ 1000000) (base : Nat) (hle : base ≤ u.heap.size) : Own (u.alloc (.cells (madeCells #[.int .u16 0] n) 38)) base 38 1 encN (.slice (some ⟨u.heap.size, 0, none⟩) n n) (List.replicate n 0) := by
  have e : (madeCells #[.int .u16 0] n : Array Value) = ((List.replicate n 0).flatMap encN).toArray := by
    apply Array.toList_inj.1
    rw [toList_madeCells_one, flat1, List.map_replicate]
    rfl
  rw [e]
  exact Own.lit enc_nat _ rfl (by simp) hle (by simp [maxLen]; omega)
theorem own_made_rows (u : World) (n : Nat) (hn : n ≤ 1000000) (base : Nat) (hle : base ≤ u.heap.size) : Own (u.alloc (.cells (madeCells #[.slice none 0 0] n) 25)) base 25 1 encV (.slice (some ⟨u.heap.size, 0, none⟩) n n) (List.replicate n (.slice none 0 0)) := by
  have e : (madeCells #[.slice none 0 0] n : Array Value) = ((List.replicate n (Value.slice none 0 0)).flatMap encV).toArray := by
    apply Array.toList_inj.1
    rw [toList_madeCells_one, flat1, List.map_replicate]
  rw [e]
  have h := World.ownsRow_lit (base := base) (e := 25) (size := 1) u ((List.replicate n (Value.slice none 0 0)).flatMap encV).toArray n hle (by simp [maxLen]; omega) (by simp)
  simpa [Own] using h
theorem ownV_rd {w : World} {base : Nat} {e : TypeId} {v : Value} {vs : List Value} (h : Own w base e 1 encV v vs) : Rd w 1 encV v vs := Rd.own h (fun _ => rfl)

/-- IRows of integers, apart of each other. -/
structure IRows (w : World) (base : Nat) (vs : List Value) (F : List (List Int)) : Prop where
  len : vs.length = F.length
  own : ∀ (t : Nat) (v : Value) (xs : List Int), vs[t]? = some v → F[t]? = some xs → Own w base 3 1 encI v xs
  apart : ∀ (s t : Nat) (u v : Value) (j : Nat), vs[s]? = some u → vs[t]? = some v → u.ownBlock = some j → v.ownBlock = some j → s = t
section
variable {w w' : World} {base : Nat} {vs : List Value} {F : List (List Int)}
theorem IRows.other (h : IRows w base vs F) {t : Nat} {v : Value} (hv : vs[t]? = some v) : ∃ xs, F[t]? = some xs ∧ Own w base 3 1 encI v xs := by
  obtain ⟨xs, hx⟩ := at_of_lt (xs := F) (k := t) (by rw [← h.len]; exact lt_at hv)
  exact ⟨xs, hx, h.own t v xs hv hx⟩
theorem IRows.keep {B : List Nat} (h : IRows w base vs F) (k : Keep B w w') (hB : ∀ (t : Nat) (v : Value) (j : Nat), vs[t]? = some v → v.ownBlock = some j → j ∉ B) : IRows w' base vs F :=
  ⟨h.len, fun t v xs hv hx => (h.own t v xs hv hx).keep k (fun j hj => hB t v j hv hj), h.apart⟩
theorem IRows.ext (h : IRows w base vs F) (he : Ext w w') : IRows w' base vs F := ⟨h.len, fun t v xs hv hx => (h.own t v xs hv hx).ext he, h.apart⟩
/-- One of them becomes another. -/
theorem IRows.turn (h : IRows w base vs F) {t : Nat} {v v' : Value} {ys : List Int} (hv : vs[t]? = some v) (h1 : Own w' base 3 1 encI v' ys) (hk : Keep v.ownBlock.toList w w') (hm : Moved w v v') : IRows w' base (vs.set t v') (F.set t ys) := by
  have hlt := lt_at hv
  have blk : ∀ (s : Nat) (u : Value) (j : Nat), s ≠ t → vs[s]? = some u → u.ownBlock = some j → v'.ownBlock = some j → False := fun s u j hs hu h2 h3 => by
    rcases hm j h3 with h4 | h4
    · exact hs (h.apart s t u v j hu hv h2 h4)
    · obtain ⟨xs, _, ho⟩ := h.other hu
      have := (ho.lt h2).2
      omega
  refine ⟨by simpa using h.len, fun s u xs hu hx => ?_, fun s r u z j hu hz hj hj' => ?_⟩
  · by_cases e : s = t
    · subst e
      rw [List.getElem?_set_self hlt] at hu
      rw [List.getElem?_set_self (by rw [← h.len]; exact hlt)] at hx
      injection hu with hu; injection hx with hx
      subst hu; subst hx
      exact h1
    · rw [List.getElem?_set_ne (Ne.symm e)] at hu hx
      exact (h.own s u xs hu hx).keep hk (fun j hj hm => e (h.apart s t u v j hu hv hj (by simpa using hm)))
  · by_cases e : s = t
    · by_cases e2 : r = t
      · rw [e, e2]
      · subst e
        rw [List.getElem?_set_self hlt] at hu
        rw [List.getElem?_set_ne (Ne.symm e2)] at hz
        injection hu with hu
        subst hu
        exact (blk r z j e2 hz hj' hj).elim
    · rw [List.getElem?_set_ne (Ne.symm e)] at hu
      by_cases e2 : r = t
      · subst e2
        rw [List.getElem?_set_self hlt] at hz
        injection hz with hz
        subst hz
        exact (blk s u j e hu hj hj').elim
      · rw [List.getElem?_set_ne (Ne.symm e2)] at hz
        exact h.apart s r u z j hu hz hj hj'
/-- One more, that is new. -/
theorem IRows.cons {v : Value} {xs : List Int} {b : Nat} (h : IRows w base vs F) (hv : Own w b 3 1 encI v xs) (hb : base ≤ b) (hz : ∀ (t : Nat) (u : Value) (j : Nat), vs[t]? = some u → u.ownBlock = some j → j < b) : IRows w base (v :: vs) (xs :: F) := by
  refine ⟨by simp [h.len], fun t u ys hu hy => ?_, fun s t u z j hu hz' hj hj' => ?_⟩
  · cases t with
    | zero => simp at hu hy; subst hu; subst hy; exact hv.mono hb
    | succ t => exact h.own t u ys (by simpa using hu) (by simpa using hy)
  · cases s with
    | zero =>
      cases t with
      | zero => rfl
      | succ t =>
        simp at hu hz'
        subst hu
        have := hz t z j hz' hj'
        have := (hv.lt hj).1
        omega
    | succ s =>
      cases t with
      | zero =>
        simp at hu hz'
        subst hz'
        have := hz s u j hu hj
        have := (hv.lt hj').1
        omega
      | succ t =>
        have := h.apart s t u z j (by simpa using hu) (by simpa using hz') hj hj'
        omega
theorem IRows.tail {v : Value} {xs : List Int} (h : IRows w base (v :: vs) (xs :: F)) : IRows w base vs F :=
  ⟨by have := h.len; simpa using this, fun t u ys hu hy => h.own (t + 1) u ys (by simpa using hu) (by simpa using hy), fun s t u z j hu hz hj hj' => by
    have := h.apart (s + 1) (t + 1) u z j (by simpa using hu) (by simpa using hz) hj hj'
    omega⟩
theorem IRows.head {v : Value} {xs : List Int} (h : IRows w base (v :: vs) (xs :: F)) : Own w base 3 1 encI v xs := h.own 0 v xs rfl rfl
theorem IRows.lt (h : IRows w base vs F) (t : Nat) (u : Value) (j : Nat) (hu : vs[t]? = some u) (hj : u.ownBlock = some j) : j < w.heap.size := by
  obtain ⟨xs, _, ho⟩ := h.other hu
  exact (ho.lt hj).2
theorem IRows.ge (h : IRows w base vs F) (t : Nat) (u : Value) (j : Nat) (hu : vs[t]? = some u) (hj : u.ownBlock = some j) : base ≤ j := by
  obtain ⟨xs, _, ho⟩ := h.other hu
  exact (ho.lt hj).1
theorem IRows.none (w : World) (base n : Nat) : IRows w base (List.replicate n (.slice none 0 0)) (List.replicate n []) := by
  refine ⟨by simp, fun t v xs hv hx => ?_, fun s t u v j hu hv hj _ => ?_⟩
  · rw [List.getElem?_replicate] at hv hx
    split at hv
    · rename_i hlt
      rw [if_pos hlt] at hx
      injection hv with hv; injection hx with hx
      subst hv; subst hx
      exact Own.nil _ _ _ _ _
    · cases hv
  · rw [List.getElem?_replicate] at hu
    split at hu
    · injection hu with hu
      subst hu
      cases hj
    · cases hu
end
/-- The rows of integers, and the row vF of some of them, at a later world. -/
structure Fam (w6 : World) (F0 : List Nat) (base : Nat) (vF : Value) (vall : List Value) (Fall : List (List Int)) (vs : List Value) (wr : World) : Prop where
  rows : IRows wr w6.heap.size vall Fall
  tab : Own wr base 25 1 encV vF vs
  keep : Keep F0 w6 wr
section
variable {w6 wr w8 : World} {F0 : List Nat} {base : Nat} {vF : Value} {vall vs : List Value} {Fall : List (List Int)}
theorem Fam.ext (h : Fam w6 F0 base vF vall Fall vs wr) (he : Ext wr w8) : Fam w6 F0 base vF vall Fall vs w8 :=
  ⟨h.rows.ext he, h.tab.ext he, h.keep.through (F := []) (Keep.of_ext he) (fun j hj => by cases hj)⟩
theorem Fam.alloc (h : Fam w6 F0 base vF vall Fall vs wr) (o : Obj) : Fam w6 F0 base vF vall Fall vs (wr.alloc o) := h.ext (Ext.alloc' (Ext.rfl' _) o)
theorem Fam.app (h : Fam w6 F0 base vF vall Fall vs wr) {t : Nat} {v v' : Value} {ys : List Int} (hv : vall[t]? = some v) (h1 : Own w8 w6.heap.size 3 1 encI v' ys) (hg : wr.grownBy w8 v.ownBlock) (hm : Moved wr v v') : Fam w6 F0 base vF (vall.set t v') (Fall.set t ys) vs w8 := by
  have hk := grown_keep hg
  obtain ⟨xs, _, ho⟩ := h.rows.other hv
  refine ⟨h.rows.turn hv h1 hk hm, h.tab.keep hk (fun j hj hmem => h.tab.type_ne ho (by decide) hj (by simpa using hmem)), h.keep.through hk (fun j hj => .inr (h.rows.ge t v j hv (by simpa using hj)))⟩
/-- A row of other things is not touched by it. -/
theorem Fam.u16 (h : Fam w6 F0 base vF vall Fall vs wr) {t : Nat} {v u : Value} {b : Nat} {a : List Nat} (hv : vall[t]? = some v) (hg : wr.grownBy w8 v.ownBlock) (ha : Own wr b 38 1 encN u a) : Own w8 b 38 1 encN u a := by
  obtain ⟨xs, _, ho⟩ := h.rows.other hv
  exact ha.keep (grown_keep hg) (fun j hj hmem => ha.type_ne ho (by decide) hj (by simpa using hmem))
/-- What is stored in a block of F0 that is none of these rows. -/
theorem Fam.store (h : Fam w6 F0 base vF vall Fall vs wr) {u : Value} {b : Nat} {a : List Nat} (ha : Own wr b 38 1 encN u a) {ad : Addr} (hu : u.ownBlock = some ad.block) (hF : ad.block ∈ F0) (x : Value) : Fam w6 F0 base vF vall Fall vs (wr.setCell ad x) := by
  have hk : Keep [ad.block] wr (wr.setCell ad x) := (Keep.rfl' _ _).setCell (by simp) _
  refine ⟨h.rows.keep hk (fun t v j hv hj hmem => ?_), h.tab.keep hk (fun j hj hmem => ?_), h.keep.setCell hF x⟩
  · obtain ⟨xs, _, ho⟩ := h.rows.other hv
    simp at hmem
    subst hmem
    exact ho.type_ne ha (by decide) hj hu
  · simp at hmem
    subst hmem
    exact h.tab.type_ne ha (by decide) hj hu
/-- The row of rows itself is written. -/
theorem Fam.tabSet (h : Fam w6 F0 base vF vall Fall vs wr) {k : Nat} {v : Value} (hv : vs[k]? = some v) (hF : (elt vF k).block ∈ F0) (y : Value) : Fam w6 F0 base vF vall Fall (vs.set k y) (wr.setCell (elt vF k) y) := by
  obtain ⟨h1, h2, h3, h4, h5⟩ := Own.at (f := fun x => x) h.tab hv
  have hk : Keep [(elt vF k).block] wr (wr.setCell (elt vF k) y) := (Keep.rfl' _ _).setCell (by simp) _
  refine ⟨h.rows.keep hk (fun t u j hu hj hmem => ?_), (h5 y).1, h.keep.setCell hF y⟩
  obtain ⟨xs, _, ho⟩ := h.rows.other hu
  simp at hmem
  subst hmem
  exact ho.type_ne h.tab (by decide) hj h3
theorem Fam.mono (h : Fam w6 F0 base vF vall Fall vs wr) {G : List Nat} (hG : ∀ k ∈ F0, k ∈ G) : Fam w6 G base vF vall Fall vs wr := ⟨h.rows, h.tab, h.keep.mono (fun k hk => .inl (hG k hk))⟩
theorem Fam.cons (h : Fam w6 F0 base vF vall Fall vs wr) {v : Value} {xs : List Int} {b : Nat} (hv : Own wr b 3 1 encI v xs) (hb : w6.heap.size ≤ b) (hz : ∀ (t : Nat) (u : Value) (j : Nat), vall[t]? = some u → u.ownBlock = some j → j < b) : Fam w6 F0 base vF (v :: vall) (xs :: Fall) vs wr := ⟨h.rows.cons hv hb hz, h.tab, h.keep⟩
theorem Fam.tail {v : Value} {xs : List Int} (h : Fam w6 F0 base vF (v :: vall) (xs :: Fall) vs wr) : Fam w6 F0 base vF vall Fall vs wr := ⟨h.rows.tail, h.tab, h.keep⟩
end
theorem own_val_at {w : World} {base : Nat} {e : TypeId} {v : Value} {vs : List Value} {k : Nat} {x : Value} (h : Own w base e 1 encV v vs) (hx : vs[k]? = some x) :
    w.cell? (elt v k) = some x ∧ w.frozen? (elt v k) = false ∧ v.ownBlock = some (elt v k).block ∧ (elt v k).block < w.heap.size ∧
    ∀ y : Value, Own (w.setCell (elt v k) y) base e 1 encV v (vs.set k y) ∧ (∀ B W, Below B W w → B ≤ base → Below B W (w.setCell (elt v k) y)) :=
  Own.at (f := fun x : Value => x) h hx
theorem own_nat_at {w : World} {base : Nat} {v : Value} {a : List Nat} {k x : Nat} (h : Own w base 38 1 encN v a) (hx : a[k]? = some x) :
    w.cell? (elt v k) = some (.int .u16 (x : Int)) ∧ w.frozen? (elt v k) = false ∧ v.ownBlock = some (elt v k).block ∧ (elt v k).block < w.heap.size ∧
    ∀ y : Nat, Own (w.setCell (elt v k) (.int .u16 (y : Int))) base 38 1 encN v (a.set k y) ∧ (∀ B W, Below B W w → B ≤ base → Below B W (w.setCell (elt v k) (.int .u16 (y : Int)))) :=
  Own.at (f := fun x : Nat => Value.int .u16 (x : Int)) h hx
theorem IRows.short0 {w : World} {base : Nat} {vs : List Value} {F : List (List Int)} {v v' : Value} {xs ys : List Int} (h : IRows w base (v :: vs) (xs :: F)) (h1 : Own w base 3 1 encI v' ys) (hb : v'.ownBlock = v.ownBlock) : IRows w base (v' :: vs) (ys :: F) := by
  have := h.turn (t := 0) (v' := v') rfl h1 (Keep.rfl' _ _) (fun k hk => .inl (by rw [← hb]; exact hk))
  simpa using this
/-- From where one comes, as long as the places below m, and some of those ahead of m, were looked at. -/
structure FInv (A : Nat → List Int) (n m : Nat) (xs : List Int) (F : List (List Int)) : Prop where
  len : F.length = n
  mem : ∀ (t : Nat) (ys : List Int) (x : Int), F[t]? = some ys → (x ∈ ys ↔ ∃ i : Nat, x = i ∧ ((i < m ∧ (t : Int) ∈ A i) ∨ (i = m ∧ (t : Int) ∈ xs)))
  few : ∀ (t : Nat) (ys : List Int), F[t]? = some ys → ys.length ≤ 3 * m + xs.length
section
variable {A : Nat → List Int} {n m : Nat} {xs : List Int} {F : List (List Int)}
theorem FInv.start (A : Nat → List Int) (n : Nat) : FInv A n 0 [] (List.replicate n []) := by
  refine ⟨by simp, fun t ys x hy => ?_, fun t ys hy => ?_⟩
  · rw [List.getElem?_replicate] at hy
    split at hy
    · injection hy with hy
      subst hy
      simp
    · cases hy
  · rw [List.getElem?_replicate] at hy
    split at hy
    · injection hy with hy
      subst hy
      simp
    · cases hy
theorem FInv.push (h : FInv A n m xs F) {t : Nat} {ys : List Int} (hy : F[t]? = some ys) : FInv A n m (xs ++ [(t : Int)]) (F.set t (ys ++ [(m : Int)])) := by
  have hlt := lt_at hy
  refine ⟨by simpa using h.len, fun s zs x hz => ?_, fun s zs hz => ?_⟩
  · by_cases e : s = t
    · subst e
      rw [List.getElem?_set_self hlt] at hz
      injection hz with hz
      subst hz
      rw [List.mem_append, h.mem s ys x hy]
      constructor
      · rintro (⟨i, rfl, h1 | ⟨h1, h2⟩⟩ | h1)
        · exact ⟨i, rfl, .inl h1⟩
        · exact ⟨i, rfl, .inr ⟨h1, List.mem_append_left _ h2⟩⟩
        · simp at h1
          exact ⟨m, h1, .inr ⟨rfl, by simp⟩⟩
      · rintro ⟨i, rfl, h1 | ⟨h1, h2⟩⟩
        · exact .inl ⟨i, rfl, .inl h1⟩
        · right; simp; omega
    · rw [List.getElem?_set_ne (Ne.symm e)] at hz
      rw [h.mem s zs x hz]
      constructor
      · rintro ⟨i, rfl, h1 | ⟨h1, h2⟩⟩
        · exact ⟨i, rfl, .inl h1⟩
        · exact ⟨i, rfl, .inr ⟨h1, List.mem_append_left _ h2⟩⟩
      · rintro ⟨i, rfl, h1 | ⟨h1, h2⟩⟩
        · exact ⟨i, rfl, .inl h1⟩
        · refine ⟨i, rfl, .inr ⟨h1, ?_⟩⟩
          rcases List.mem_append.1 h2 with h3 | h3
          · exact h3
          · simp at h3; omega
  · by_cases e : s = t
    · subst e
      rw [List.getElem?_set_self hlt] at hz
      injection hz with hz
      subst hz
      have := h.few s ys hy
      simp
      omega
    · rw [List.getElem?_set_ne (Ne.symm e)] at hz
      have := h.few s zs hz
      simp
      omega
theorem FInv.next (h : FInv A n m xs F) (hx : xs = A m) (hl : (A m).length ≤ 3) : FInv A n (m + 1) [] F := by
  subst hx
  refine ⟨h.len, fun t ys x hy => ?_, fun t ys hy => ?_⟩
  · rw [h.mem t ys x hy]
    constructor
    · rintro ⟨i, rfl, ⟨h1, h2⟩ | ⟨h1, h2⟩⟩
      · exact ⟨i, rfl, .inl ⟨by omega, h2⟩⟩
      · subst h1; exact ⟨i, rfl, .inl ⟨by omega, h2⟩⟩
    · rintro ⟨i, rfl, ⟨h1, h2⟩ | ⟨h1, h2⟩⟩
      · by_cases e : i = m
        · subst e; exact ⟨i, rfl, .inr ⟨rfl, h2⟩⟩
        · exact ⟨i, rfl, .inl ⟨by omega, h2⟩⟩
      · cases h2
  · have := h.few t ys hy
    simp
    omega
end
/-- What the instruction at a place reads, and writes. -/
def rdN (L : List Ins) (i : Nat) : Nat := atS readsS L i
def wrN (L : List Ins) (i : Nat) : Nat := atS writesS L i
def ahN (L : List Ins) (i : Nat) : List Int := aheadV L i
/-- What is needed from each instruction on, and behind each. -/
noncomputable def liveA (L : List Ins) : List Nat := if progS L then (List.range L.length).map (fun i => bitsOf (fun r => Need (rdN L) (wrN L) (ahN L) r i)) else []
noncomputable def liveB (L : List Ins) : List Nat := if progS L then (List.range L.length).map (fun i => bitsOf (fun r => NeedB (rdN L) (wrN L) (ahN L) r i)) else []
theorem readsS_lt {x : Ins} (hx : x.Ok) : readsS x < 65536 := by
  obtain ⟨y, hy⟩ : ∃ y, (whatS x).getD Wh.zero = y := ⟨_, rfl⟩
  have hka := kind_all hy
  have hrs : readsS x = readsK y.kind y.op y.reg x := by unfold readsS whatZ; rw [hy]
  rw [hrs]
  have h0 : 0 ≤ x.dst ∧ 0 ≤ x.src := ⟨hx.dst.1, hx.src.1⟩
  have hr : regS y.reg x < 65536 := regS_lt h0.2 (fun h => by
    rcases hka with ⟨_, h1⟩ | h1
    · rw [h1] at h; cases h
    · exact h1.2.2.2)
  have hb : 1 ≤ y.kind → bitS x.dst < 65536 ∧ bitS x.src < 65536 := fun h => by
    rcases hka with ⟨h1, _⟩ | h1
    · omega
    · exact ⟨bitS_lt h0.1 h1.2.2.1, bitS_lt h0.2 h1.2.2.2⟩
  unfold readsK
  split
  · split
    · exact hr
    · exact or_lt hr (hb (by omega)).1
  · split
    · exact or_lt hr (hb (by omega)).1
    · split
      · exact (hb (by omega)).2
      · split
        · omega
        · split
          · have htl : (tolds x.imm).length = 0 ∨ (tolds x.imm).length = 2 ∨ (tolds x.imm).length = 4 := by
              unfold tolds
              split
              · simp
              · split
                · simp
                · split <;> simp
            rcases htl with h | h | h <;> rw [h] <;> decide
          · exact hr
theorem writesS_lt {x : Ins} (hx : x.Ok) : writesS x < 65536 := by
  obtain ⟨y, hy⟩ : ∃ y, (whatS x).getD Wh.zero = y := ⟨_, rfl⟩
  have hka := kind_all hy
  have hz : whatZ x = y := by unfold whatZ; rw [hy]
  unfold writesS
  rw [hz]
  split
  · rcases hka with ⟨h1, _⟩ | h1
    · omega
    · exact bitS_lt hx.dst.1 h1.2.2.1
  · split <;> omega
theorem at_lt16 {f : Ins → Nat} (hf : ∀ x : Ins, x.Ok → f x < 65536) {L : List Ins} (hok : InsOk L) (i : Int) : atS f L i < 65536 := by
  unfold atS
  split
  · cases h : L[i.toNat]? with
    | none => simp
    | some x => exact hf x (hok.at h)
  · omega
theorem rdN_lt {L : List Ins} (hok : InsOk L) (i : Nat) : rdN L i < 65536 := at_lt16 (fun _ h => readsS_lt h) hok i
theorem wrN_lt {L : List Ins} (hok : InsOk L) (i : Nat) : wrN L i < 65536 := at_lt16 (fun _ h => writesS_lt h) hok i
theorem ahN_le (L : List Ins) (i : Nat) : (ahN L i).length ≤ 3 := by
  unfold ahN aheadV
  split
  · cases h : L[(i : Int).toNat]? with
    | none => simp
    | some x => exact Nat.le_trans (aheadL_le L x _) (by decide)
  · simp
theorem ahN_in {L : List Ins} {i : Nat} {t : Int} (ht : t ∈ ahN L i) : 0 ≤ t ∧ t < (L.length : Int) ∧ beginsS L t = true := by
  unfold ahN at ht
  cases hb : beginsS L i with
  | false => unfold aheadV at ht; rw [hb] at ht; cases ht
  | true =>
    rw [aheadV_at hb] at ht
    obtain ⟨hp, h0, h1, h2⟩ := begins_iff.1 hb
    obtain ⟨k0, k1, k2⟩ := within hp (by simpa using h2) t ht
    exact ⟨k0, k1, begins_iff.2 ⟨hp, k0, k1, k2⟩⟩
theorem begins_out {L : List Ins} {i : Nat} (h : L.length ≤ i) : beginsS L i = false := by
  cases hb : beginsS L i with
  | false => rfl
  | true => have := (begins_iff.1 hb).2.2.1; omega
theorem rdN_not {L : List Ins} {i : Nat} (h : beginsS L i = false) : rdN L i = 0 := by unfold rdN atS; rw [h]; rfl
theorem ahN_not {L : List Ins} {i : Nat} (h : beginsS L i = false) : ahN L i = [] := by unfold ahN aheadV; rw [h]; rfl
theorem rdN_at {L : List Ins} {i : Nat} {x : Ins} (h : beginsS L i = true) (hx : L[i]? = some x) : rdN L i = readsS x := by
  unfold rdN atS; rw [h]; simp [hx]
theorem wrN_at {L : List Ins} {i : Nat} {x : Ins} (h : beginsS L i = true) (hx : L[i]? = some x) : wrN L i = writesS x := by
  unfold wrN atS; rw [h]; simp [hx]
theorem live_done {L : List Ins} (hp : progS L = true) (hok : InsOk L) {a b : List Nat} {T : Nat → Prop} (h : LInv (rdN L) (wrN L) (ahN L) L.length a b T) (hT : ∀ i, ¬ T i) (hb : Both (ahN L) a b) : a = liveA L ∧ b = liveB L := by
  unfold liveA liveB
  rw [hp]
  exact h.done (rdN_lt hok) (wrN_lt hok) (fun i t ht => by have := (ahN_in ht).2.1; omega) (fun i hi => rdN_not (begins_out hi)) (fun i hi => ahN_not (begins_out hi)) hT hb
theorem liveA_none {L : List Ins} (hp : progS L = false) : liveA L = [] := by unfold liveA; rw [hp]; rfl
theorem liveB_none {L : List Ins} (hp : progS L = false) : liveB L = [] := by unfold liveB; rw [hp]; rfl
theorem andnot_u16 {a b : Nat} (ha : a < 65536) (hb : b < 65536) : bits .andNot .u16 (a : Int) (b : Int) = ((a &&& (65535 - b) : Nat) : Int) := u16_andNot_nat a b ha hb
theorem step_u16 {r b w : Nat} (hr : r < 65536) (hb : b < 65536) (hw : w < 65536) : bits .or .u16 (r : Int) (bits .andNot .u16 (b : Int) (w : Int)) = ((stepS r b w : Nat) : Int) := by
  rw [andnot_u16 hb hw, or_u16 hr (Nat.lt_of_le_of_lt Nat.and_le_left hb)]
  rfl
end Go.Proofs.Ytkogkcjiachphaa
