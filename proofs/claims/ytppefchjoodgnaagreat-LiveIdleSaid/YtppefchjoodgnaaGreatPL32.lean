/- What the claim leans on: LvE · LvS · LvU. -/
import Derived.Test.YtppefchjoodgnaaGreatPL30
import Derived.Test.YtppefchjoodgnaaGreatPL31
import Derived.Test.YtppefchjoodgnaaGreatPL29
namespace Go.Proofs.YtppefchjoodgnaaGreat
open Go.RowKit
set_option linter.unusedVariables false
set_option linter.unusedSimpArgs false
abbrev encV : Value → List Value := fun x => [x]
abbrev encN : Nat → List Value := fun x => [Value.int .u16 (x : Int)]
theorem enc_nat : Enc 1 encN := ⟨fun _ => rfl, fun x u hu => by simp at hu; subst hu; rfl⟩
theorem el_u16 : El Tryz.prog 41 51 1 2 (.int .u16 0) := ⟨Tryz.underlying41, by kernel_rfl, rfl, by decide, fun _ => by kernel_rfl⟩
theorem el_rows : El Tryz.prog 134 135 1 24 (.slice none 0 0) := ⟨Tryz.underlying134, by kernel_rfl, rfl, by decide, fun _ => by kernel_rfl⟩
theorem run_make_u16 (n : Nat) (hn : n ≤ 1000000) (u : World) : (Instr.makeSlice 41 (.int .i64 (n : Int)) (.int .i64 (n : Int))).run Tryz.prog u = .ok (.slice (some ⟨u.heap.size, 0, none⟩) n n) (u.alloc (.cells (madeCells #[.int .u16 0] n) 51)) := by
 obtain ⟨i0, hi0, hz0, hz1, hz2⟩ := info_parts el_u16.info
 have h := run_make (P := Tryz.prog) u 41 51 i0 (.int .u16 0) el_u16.under hi0 hz0 .i64 .i64 (n : Int) (n : Int) (by omega) (Int.le_refl _) (by rw [hz2]; omega) (by omega)
 simpa [hz1, Value.cells] using h
theorem run_make_rows (n : Nat) (hn : n ≤ 1000000) (u : World) : (Instr.makeSlice 134 (.int .i64 (n : Int)) (.int .i64 (n : Int))).run Tryz.prog u = .ok (.slice (some ⟨u.heap.size, 0, none⟩) n n) (u.alloc (.cells (madeCells #[.slice none 0 0] n) 135)) := by
 obtain ⟨i0, hi0, hz0, hz1, hz2⟩ := info_parts el_rows.info
 have h := run_make (P := Tryz.prog) u 134 135 i0 (.slice none 0 0) el_rows.under hi0 hz0 .i64 .i64 (n : Int) (n : Int) (by omega) (Int.le_refl _) (by rw [hz2]; omega) (by omega)
 simpa [hz1, Value.cells] using h
theorem own_made_u16 (u : World) (n : Nat) (hn : n ≤ 1000000) (base : Nat) (hle : base ≤ u.heap.size) : Own (u.alloc (.cells (madeCells #[.int .u16 0] n) 51)) base 51 1 encN (.slice (some ⟨u.heap.size, 0, none⟩) n n) (List.replicate n 0) := by
 have e : (madeCells #[.int .u16 0] n : Array Value) = ((List.replicate n 0).flatMap encN).toArray := by
  apply Array.toList_inj.1
  rw [toList_madeCells_one, flat1, List.map_replicate]
  rfl
 rw [e]
 exact Own.lit enc_nat _ rfl (by simp) hle (by simp [maxLen]; omega)
theorem own_made_rows (u : World) (n : Nat) (hn : n ≤ 1000000) (base : Nat) (hle : base ≤ u.heap.size) : Own (u.alloc (.cells (madeCells #[.slice none 0 0] n) 135)) base 135 1 encV (.slice (some ⟨u.heap.size, 0, none⟩) n n) (List.replicate n (.slice none 0 0)) := by
 have e : (madeCells #[.slice none 0 0] n : Array Value) = ((List.replicate n (Value.slice none 0 0)).flatMap encV).toArray := by
  apply Array.toList_inj.1
  rw [toList_madeCells_one, flat1, List.map_replicate]
 rw [e]
 have h := World.ownsRow_lit (base := base) (e := 135) (size := 1) u ((List.replicate n (Value.slice none 0 0)).flatMap encV).toArray n hle (by simp [maxLen]; omega) (by simp)
 simpa [Own] using h
theorem ownV_rd {w : World} {base : Nat} {e : TypeId} {v : Value} {vs : List Value} (h : Own w base e 1 encV v vs) : Rd w 1 encV v vs := Rd.own h (fun _ => rfl)
structure IRows (w : World) (base : Nat) (vs : List Value) (F : List (List Int)) : Prop where
 len : vs.length = F.length
 own : ∀ (t : Nat) (v : Value) (xs : List Int), vs[t]? = some v → F[t]? = some xs → Own w base 3 1 encI v xs
 apart : ∀ (s t : Nat) (u v : Value) (j : Nat), vs[s]? = some u → vs[t]? = some v → u.ownBlock = some j → v.ownBlock = some j → s = t
section
variable {w w' : World} {base : Nat} {vs : List Value} {F : List (List Int)}
theorem IRows.other (h : IRows w base vs F) {t : Nat} {v : Value} (hv : vs[t]? = some v) : ∃ xs, F[t]? = some xs ∧ Own w base 3 1 encI v xs := by
 obtain ⟨xs, hx⟩ := at_of_lt (xs := F) (k := t) (by rw [← h.len]; exact lt_at hv)
 exact ⟨xs, hx, h.own t v xs hv hx⟩
theorem IRows.keep {B : List Nat} (h : IRows w base vs F) (k : Keep B w w') (hB : ∀ (t : Nat) (v : Value) (j : Nat), vs[t]? = some v → v.ownBlock = some j → j ∉ B) : IRows w' base vs F :=
 ⟨h.len, fun t v xs hv hx => (h.own t v xs hv hx).keep k (fun j hj => hB t v j hv hj), h.apart⟩
theorem IRows.ext (h : IRows w base vs F) (he : Ext w w') : IRows w' base vs F := ⟨h.len, fun t v xs hv hx => (h.own t v xs hv hx).ext he, h.apart⟩
theorem IRows.turn (h : IRows w base vs F) {t : Nat} {v v' : Value} {ys : List Int} (hv : vs[t]? = some v) (h1 : Own w' base 3 1 encI v' ys) (hk : Keep v.ownBlock.toList w w') (hm : Moved w v v') : IRows w' base (vs.set t v') (F.set t ys) := by
 have hlt := lt_at hv
 have blk : ∀ (s : Nat) (u : Value) (j : Nat), s ≠ t → vs[s]? = some u → u.ownBlock = some j → v'.ownBlock = some j → False := fun s u j hs hu h2 h3 => by
  rcases hm j h3 with h4 | h4
  ·exact hs (h.apart s t u v j hu hv h2 h4)
  ·obtain ⟨xs, _, ho⟩ := h.other hu
   have := (ho.lt h2).2
   omega
 refine ⟨by simpa using h.len, fun s u xs hu hx => ?_, fun s r u z j hu hz hj hj' => ?_⟩
 ·by_cases e : s = t
  ·subst e
   rw [List.getElem?_set_self hlt] at hu
   rw [List.getElem?_set_self (by rw [← h.len]; exact hlt)] at hx
   injection hu with hu; injection hx with hx
   subst hu; subst hx
   exact h1
  ·rw [List.getElem?_set_ne (Ne.symm e)] at hu hx
   exact (h.own s u xs hu hx).keep hk (fun j hj hm => e (h.apart s t u v j hu hv hj (by simpa using hm)))
 ·by_cases e : s = t
  ·by_cases e2 : r = t
   ·rw [e, e2]
   ·subst e
    rw [List.getElem?_set_self hlt] at hu
    rw [List.getElem?_set_ne (Ne.symm e2)] at hz
    injection hu with hu
    subst hu
    exact (blk r z j e2 hz hj' hj).elim
  ·rw [List.getElem?_set_ne (Ne.symm e)] at hu
   by_cases e2 : r = t
   ·subst e2
    rw [List.getElem?_set_self hlt] at hz
    injection hz with hz
    subst hz
    exact (blk s u j e hu hj hj').elim
   ·rw [List.getElem?_set_ne (Ne.symm e2)] at hz
    exact h.apart s r u z j hu hz hj hj'
theorem IRows.cons {v : Value} {xs : List Int} {b : Nat} (h : IRows w base vs F) (hv : Own w b 3 1 encI v xs) (hb : base ≤ b) (hz : ∀ (t : Nat) (u : Value) (j : Nat), vs[t]? = some u → u.ownBlock = some j → j < b) : IRows w base (v :: vs) (xs :: F) := by
 refine ⟨by simp [h.len], fun t u ys hu hy => ?_, fun s t u z j hu hz' hj hj' => ?_⟩
 ·cases t with
  | zero => simp at hu hy; subst hu; subst hy; exact hv.mono hb
  | succ t => exact h.own t u ys (by simpa using hu) (by simpa using hy)
 ·cases s with
  | zero =>
   cases t with
   | zero => rfl
   | succ t =>
    simp at hu hz'
    subst hu
    have := hz t z j hz' hj'
    have := (hv.lt hj).1
    omega
  | succ s =>
   cases t with
   | zero =>
    simp at hu hz'
    subst hz'
    have := hz s u j hu hj
    have := (hv.lt hj').1
    omega
   | succ t =>
    have := h.apart s t u z j (by simpa using hu) (by simpa using hz') hj hj'
    omega
theorem IRows.tail {v : Value} {xs : List Int} (h : IRows w base (v :: vs) (xs :: F)) : IRows w base vs F :=
 ⟨by have := h.len; simpa using this, fun t u ys hu hy => h.own (t + 1) u ys (by simpa using hu) (by simpa using hy), fun s t u z j hu hz hj hj' => by
  have := h.apart (s + 1) (t + 1) u z j (by simpa using hu) (by simpa using hz) hj hj'
  omega⟩
theorem IRows.head {v : Value} {xs : List Int} (h : IRows w base (v :: vs) (xs :: F)) : Own w base 3 1 encI v xs := h.own 0 v xs rfl rfl
theorem IRows.lt (h : IRows w base vs F) (t : Nat) (u : Value) (j : Nat) (hu : vs[t]? = some u) (hj : u.ownBlock = some j) : j < w.heap.size := by
 obtain ⟨xs, _, ho⟩ := h.other hu
 exact (ho.lt hj).2
theorem IRows.ge (h : IRows w base vs F) (t : Nat) (u : Value) (j : Nat) (hu : vs[t]? = some u) (hj : u.ownBlock = some j) : base ≤ j := by
 obtain ⟨xs, _, ho⟩ := h.other hu
 exact (ho.lt hj).1
theorem IRows.none (w : World) (base n : Nat) : IRows w base (List.replicate n (.slice none 0 0)) (List.replicate n []) := by
 refine ⟨by simp, fun t v xs hv hx => ?_, fun s t u v j hu hv hj _ => ?_⟩
 ·rw [List.getElem?_replicate] at hv hx
  split at hv
  ·rename_i hlt
   rw [if_pos hlt] at hx
   injection hv with hv; injection hx with hx
   subst hv; subst hx
   exact Own.nil _ _ _ _ _
  ·cases hv
 ·rw [List.getElem?_replicate] at hu
  split at hu
  ·injection hu with hu
   subst hu
   cases hj
  ·cases hu
end
structure Fam (w6 : World) (F0 : List Nat) (base : Nat) (vF : Value) (vall : List Value) (Fall : List (List Int)) (vs : List Value) (wr : World) : Prop where
 rows : IRows wr w6.heap.size vall Fall
 tab : Own wr base 135 1 encV vF vs
 keep : Keep F0 w6 wr
section
variable {w6 wr w8 : World} {F0 : List Nat} {base : Nat} {vF : Value} {vall vs : List Value} {Fall : List (List Int)}
theorem Fam.ext (h : Fam w6 F0 base vF vall Fall vs wr) (he : Ext wr w8) : Fam w6 F0 base vF vall Fall vs w8 :=
 ⟨h.rows.ext he, h.tab.ext he, h.keep.through (F := []) (Keep.of_ext he) (fun j hj => by cases hj)⟩
theorem Fam.alloc (h : Fam w6 F0 base vF vall Fall vs wr) (o : Obj) : Fam w6 F0 base vF vall Fall vs (wr.alloc o) := h.ext (Ext.alloc' (Ext.rfl' _) o)
theorem Fam.app (h : Fam w6 F0 base vF vall Fall vs wr) {t : Nat} {v v' : Value} {ys : List Int} (hv : vall[t]? = some v) (h1 : Own w8 w6.heap.size 3 1 encI v' ys) (hg : wr.grownBy w8 v.ownBlock) (hm : Moved wr v v') : Fam w6 F0 base vF (vall.set t v') (Fall.set t ys) vs w8 := by
 have hk := grown_keep hg
 obtain ⟨xs, _, ho⟩ := h.rows.other hv
 refine ⟨h.rows.turn hv h1 hk hm, h.tab.keep hk (fun j hj hmem => h.tab.type_ne ho (by decide) hj (by simpa using hmem)), h.keep.through hk (fun j hj => .inr (h.rows.ge t v j hv (by simpa using hj)))⟩
theorem Fam.u16 (h : Fam w6 F0 base vF vall Fall vs wr) {t : Nat} {v u : Value} {b : Nat} {a : List Nat} (hv : vall[t]? = some v) (hg : wr.grownBy w8 v.ownBlock) (ha : Own wr b 51 1 encN u a) : Own w8 b 51 1 encN u a := by
 obtain ⟨xs, _, ho⟩ := h.rows.other hv
 exact ha.keep (grown_keep hg) (fun j hj hmem => ha.type_ne ho (by decide) hj (by simpa using hmem))
theorem Fam.store (h : Fam w6 F0 base vF vall Fall vs wr) {u : Value} {b : Nat} {a : List Nat} (ha : Own wr b 51 1 encN u a) {ad : Addr} (hu : u.ownBlock = some ad.block) (hF : ad.block ∈ F0) (x : Value) : Fam w6 F0 base vF vall Fall vs (wr.setCell ad x) := by
 have hk : Keep [ad.block] wr (wr.setCell ad x) := (Keep.rfl' _ _).setCell (by simp) _
 refine ⟨h.rows.keep hk (fun t v j hv hj hmem => ?_), h.tab.keep hk (fun j hj hmem => ?_), h.keep.setCell hF x⟩
 ·obtain ⟨xs, _, ho⟩ := h.rows.other hv
  simp at hmem
  subst hmem
  exact ho.type_ne ha (by decide) hj hu
 ·simp at hmem
  subst hmem
  exact h.tab.type_ne ha (by decide) hj hu
theorem Fam.tabSet (h : Fam w6 F0 base vF vall Fall vs wr) {k : Nat} {v : Value} (hv : vs[k]? = some v) (hF : (elt vF k).block ∈ F0) (y : Value) : Fam w6 F0 base vF vall Fall (vs.set k y) (wr.setCell (elt vF k) y) := by
 obtain ⟨h1, h2, h3, h4, h5⟩ := Own.at (f := fun x => x) h.tab hv
 have hk : Keep [(elt vF k).block] wr (wr.setCell (elt vF k) y) := (Keep.rfl' _ _).setCell (by simp) _
 refine ⟨h.rows.keep hk (fun t u j hu hj hmem => ?_), (h5 y).1, h.keep.setCell hF y⟩
 obtain ⟨xs, _, ho⟩ := h.rows.other hu
 simp at hmem
 subst hmem
 exact ho.type_ne h.tab (by decide) hj h3
theorem Fam.mono (h : Fam w6 F0 base vF vall Fall vs wr) {G : List Nat} (hG : ∀ k ∈ F0, k ∈ G) : Fam w6 G base vF vall Fall vs wr := ⟨h.rows, h.tab, h.keep.mono (fun k hk => .inl (hG k hk))⟩
theorem Fam.cons (h : Fam w6 F0 base vF vall Fall vs wr) {v : Value} {xs : List Int} {b : Nat} (hv : Own wr b 3 1 encI v xs) (hb : w6.heap.size ≤ b) (hz : ∀ (t : Nat) (u : Value) (j : Nat), vall[t]? = some u → u.ownBlock = some j → j < b) : Fam w6 F0 base vF (v :: vall) (xs :: Fall) vs wr := ⟨h.rows.cons hv hb hz, h.tab, h.keep⟩
theorem Fam.tail {v : Value} {xs : List Int} (h : Fam w6 F0 base vF (v :: vall) (xs :: Fall) vs wr) : Fam w6 F0 base vF vall Fall vs wr := ⟨h.rows.tail, h.tab, h.keep⟩
end
theorem own_val_at {w : World} {base : Nat} {e : TypeId} {v : Value} {vs : List Value} {k : Nat} {x : Value} (h : Own w base e 1 encV v vs) (hx : vs[k]? = some x) :
  w.cell? (elt v k) = some x ∧ w.frozen? (elt v k) = false ∧ v.ownBlock = some (elt v k).block ∧ (elt v k).block < w.heap.size ∧
  ∀ y : Value, Own (w.setCell (elt v k) y) base e 1 encV v (vs.set k y) ∧ (∀ B W, Below B W w → B ≤ base → Below B W (w.setCell (elt v k) y)) :=
 Own.at (f := fun x : Value => x) h hx
theorem own_nat_at {w : World} {base : Nat} {v : Value} {a : List Nat} {k x : Nat} (h : Own w base 51 1 encN v a) (hx : a[k]? = some x) :
  w.cell? (elt v k) = some (.int .u16 (x : Int)) ∧ w.frozen? (elt v k) = false ∧ v.ownBlock = some (elt v k).block ∧ (elt v k).block < w.heap.size ∧
  ∀ y : Nat, Own (w.setCell (elt v k) (.int .u16 (y : Int))) base 51 1 encN v (a.set k y) ∧ (∀ B W, Below B W w → B ≤ base → Below B W (w.setCell (elt v k) (.int .u16 (y : Int)))) :=
 Own.at (f := fun x : Nat => Value.int .u16 (x : Int)) h hx
theorem IRows.short0 {w : World} {base : Nat} {vs : List Value} {F : List (List Int)} {v v' : Value} {xs ys : List Int} (h : IRows w base (v :: vs) (xs :: F)) (h1 : Own w base 3 1 encI v' ys) (hb : v'.ownBlock = v.ownBlock) : IRows w base (v' :: vs) (ys :: F) := by
 have := h.turn (t := 0) (v' := v') rfl h1 (Keep.rfl' _ _) (fun k hk => .inl (by rw [← hb]; exact hk))
 simpa using this
structure FInv (A : Nat → List Int) (n m : Nat) (xs : List Int) (F : List (List Int)) : Prop where
 len : F.length = n
 mem : ∀ (t : Nat) (ys : List Int) (x : Int), F[t]? = some ys → (x ∈ ys ↔ ∃ i : Nat, x = i ∧ ((i < m ∧ (t : Int) ∈ A i) ∨ (i = m ∧ (t : Int) ∈ xs)))
 few : ∀ (t : Nat) (ys : List Int), F[t]? = some ys → ys.length ≤ 3 * m + xs.length
section
variable {A : Nat → List Int} {n m : Nat} {xs : List Int} {F : List (List Int)}
theorem FInv.start (A : Nat → List Int) (n : Nat) : FInv A n 0 [] (List.replicate n []) := by
 refine ⟨by simp, fun t ys x hy => ?_, fun t ys hy => ?_⟩
 ·rw [List.getElem?_replicate] at hy
  split at hy
  ·injection hy with hy
   subst hy
   simp
  ·cases hy
 ·rw [List.getElem?_replicate] at hy
  split at hy
  ·injection hy with hy
   subst hy
   simp
  ·cases hy
theorem FInv.push (h : FInv A n m xs F) {t : Nat} {ys : List Int} (hy : F[t]? = some ys) : FInv A n m (xs ++ [(t : Int)]) (F.set t (ys ++ [(m : Int)])) := by
 have hlt := lt_at hy
 refine ⟨by simpa using h.len, fun s zs x hz => ?_, fun s zs hz => ?_⟩
 ·by_cases e : s = t
  ·subst e
   rw [List.getElem?_set_self hlt] at hz
   injection hz with hz
   subst hz
   rw [List.mem_append, h.mem s ys x hy]
   constructor
   ·rintro (⟨i, rfl, h1 | ⟨h1, h2⟩⟩ | h1)
    ·exact ⟨i, rfl, .inl h1⟩
    ·exact ⟨i, rfl, .inr ⟨h1, List.mem_append_left _ h2⟩⟩
    ·simp at h1
     exact ⟨m, h1, .inr ⟨rfl, by simp⟩⟩
   ·rintro ⟨i, rfl, h1 | ⟨h1, h2⟩⟩
    ·exact .inl ⟨i, rfl, .inl h1⟩
    ·right; simp; omega
  ·rw [List.getElem?_set_ne (Ne.symm e)] at hz
   rw [h.mem s zs x hz]
   constructor
   ·rintro ⟨i, rfl, h1 | ⟨h1, h2⟩⟩
    ·exact ⟨i, rfl, .inl h1⟩
    ·exact ⟨i, rfl, .inr ⟨h1, List.mem_append_left _ h2⟩⟩
   ·rintro ⟨i, rfl, h1 | ⟨h1, h2⟩⟩
    ·exact ⟨i, rfl, .inl h1⟩
    ·refine ⟨i, rfl, .inr ⟨h1, ?_⟩⟩
     rcases List.mem_append.1 h2 with h3 | h3
     ·exact h3
     ·simp at h3; omega
 ·by_cases e : s = t
  ·subst e
   rw [List.getElem?_set_self hlt] at hz
   injection hz with hz
   subst hz
   have := h.few s ys hy
   simp
   omega
  ·rw [List.getElem?_set_ne (Ne.symm e)] at hz
   have := h.few s zs hz
   simp
   omega
theorem FInv.next (h : FInv A n m xs F) (hx : xs = A m) (hl : (A m).length ≤ 3) : FInv A n (m + 1) [] F := by
 subst hx
 refine ⟨h.len, fun t ys x hy => ?_, fun t ys hy => ?_⟩
 ·rw [h.mem t ys x hy]
  constructor
  ·rintro ⟨i, rfl, ⟨h1, h2⟩ | ⟨h1, h2⟩⟩
   ·exact ⟨i, rfl, .inl ⟨by omega, h2⟩⟩
   ·subst h1; exact ⟨i, rfl, .inl ⟨by omega, h2⟩⟩
  ·rintro ⟨i, rfl, ⟨h1, h2⟩ | ⟨h1, h2⟩⟩
   ·by_cases e : i = m
    ·subst e; exact ⟨i, rfl, .inr ⟨rfl, h2⟩⟩
    ·exact ⟨i, rfl, .inl ⟨by omega, h2⟩⟩
   ·cases h2
 ·have := h.few t ys hy
  simp
  omega
end
def rdN (L : List Ins) (i : Nat) : Nat := atS readsS L i
def wrN (L : List Ins) (i : Nat) : Nat := atS writesS L i
def ahN (L : List Ins) (i : Nat) : List Int := aheadV L i
noncomputable def liveA (L : List Ins) : List Nat := if progS L then (List.range L.length).map (fun i => bitsOf (fun r => Need (rdN L) (wrN L) (ahN L) r i)) else []
noncomputable def liveB (L : List Ins) : List Nat := if progS L then (List.range L.length).map (fun i => bitsOf (fun r => NeedB (rdN L) (wrN L) (ahN L) r i)) else []
theorem readsS_lt {x : Ins} (hx : x.Ok) : readsS x < 65536 := by
 obtain ⟨y, hy⟩ : ∃ y, (whatS x).getD Wh.zero = y := ⟨_, rfl⟩
 have hka := kind_all hy
 have hrs : readsS x = readsK y.kind y.op y.reg x := by unfold readsS whatZ; rw [hy]
 rw [hrs]
 have h0 : 0 ≤ x.dst ∧ 0 ≤ x.src := ⟨hx.dst.1, hx.src.1⟩
 have hr : regS y.reg x < 65536 := regS_lt h0.2 (fun h => by
  rcases hka with ⟨_, h1⟩ | h1
  ·rw [h1] at h; cases h
  ·exact h1.2.2.2)
 have hb : 1 ≤ y.kind → bitS x.dst < 65536 ∧ bitS x.src < 65536 := fun h => by
  rcases hka with ⟨h1, _⟩ | h1
  ·omega
  ·exact ⟨bitS_lt h0.1 h1.2.2.1, bitS_lt h0.2 h1.2.2.2⟩
 unfold readsK
 split
 ·split
  ·exact hr
  ·exact or_lt hr (hb (by omega)).1
 ·split
  ·exact or_lt hr (hb (by omega)).1
  ·split
   ·exact (hb (by omega)).2
   ·split
    ·omega
    ·split
     ·have htl : (tolds x.imm).length = 0 ∨ (tolds x.imm).length = 2 ∨ (tolds x.imm).length = 4 := by
       unfold tolds
       split
       ·simp
       ·split
        ·simp
        ·split <;> simp
      rcases htl with h | h | h <;> rw [h] <;> decide
     ·exact hr
theorem writesS_lt {x : Ins} (hx : x.Ok) : writesS x < 65536 := by
 obtain ⟨y, hy⟩ : ∃ y, (whatS x).getD Wh.zero = y := ⟨_, rfl⟩
 have hka := kind_all hy
 have hz : whatZ x = y := by unfold whatZ; rw [hy]
 unfold writesS
 rw [hz]
 split
 ·rcases hka with ⟨h1, _⟩ | h1
  ·omega
  ·exact bitS_lt hx.dst.1 h1.2.2.1
 ·split <;> omega
theorem at_lt16 {f : Ins → Nat} (hf : ∀ x : Ins, x.Ok → f x < 65536) {L : List Ins} (hok : InsOk L) (i : Int) : atS f L i < 65536 := by
 unfold atS
 split
 ·cases h : L[i.toNat]? with
  | none => simp
  | some x => exact hf x (hok.at h)
 ·omega
theorem rdN_lt {L : List Ins} (hok : InsOk L) (i : Nat) : rdN L i < 65536 := at_lt16 (fun _ h => readsS_lt h) hok i
theorem wrN_lt {L : List Ins} (hok : InsOk L) (i : Nat) : wrN L i < 65536 := at_lt16 (fun _ h => writesS_lt h) hok i
theorem ahN_le (L : List Ins) (i : Nat) : (ahN L i).length ≤ 3 := by
 unfold ahN aheadV
 split
 ·cases h : L[(i : Int).toNat]? with
  | none => simp
  | some x => exact Nat.le_trans (aheadL_le L x _) (by decide)
 ·simp
theorem ahN_in {L : List Ins} {i : Nat} {t : Int} (ht : t ∈ ahN L i) : 0 ≤ t ∧ t < (L.length : Int) ∧ beginsS L t = true := by
 unfold ahN at ht
 cases hb : beginsS L i with
 | false => unfold aheadV at ht; rw [hb] at ht; cases ht
 | true =>
  rw [aheadV_at hb] at ht
  obtain ⟨hp, h0, h1, h2⟩ := begins_iff.1 hb
  obtain ⟨k0, k1, k2⟩ := within hp (by simpa using h2) t ht
  exact ⟨k0, k1, begins_iff.2 ⟨hp, k0, k1, k2⟩⟩
theorem begins_out {L : List Ins} {i : Nat} (h : L.length ≤ i) : beginsS L i = false := by
 cases hb : beginsS L i with
 | false => rfl
 | true => have := (begins_iff.1 hb).2.2.1; omega
theorem rdN_not {L : List Ins} {i : Nat} (h : beginsS L i = false) : rdN L i = 0 := by unfold rdN atS; rw [h]; rfl
theorem ahN_not {L : List Ins} {i : Nat} (h : beginsS L i = false) : ahN L i = [] := by unfold ahN aheadV; rw [h]; rfl
theorem rdN_at {L : List Ins} {i : Nat} {x : Ins} (h : beginsS L i = true) (hx : L[i]? = some x) : rdN L i = readsS x := by
 unfold rdN atS; rw [h]; simp [hx]
theorem wrN_at {L : List Ins} {i : Nat} {x : Ins} (h : beginsS L i = true) (hx : L[i]? = some x) : wrN L i = writesS x := by
 unfold wrN atS; rw [h]; simp [hx]
theorem live_done {L : List Ins} (hp : progS L = true) (hok : InsOk L) {a b : List Nat} {T : Nat → Prop} (h : LInv (rdN L) (wrN L) (ahN L) L.length a b T) (hT : ∀ i, ¬ T i) (hb : Both (ahN L) a b) : a = liveA L ∧ b = liveB L := by
 unfold liveA liveB
 rw [hp]
 exact h.done (rdN_lt hok) (wrN_lt hok) (fun i t ht => by have := (ahN_in ht).2.1; omega) (fun i hi => rdN_not (begins_out hi)) (fun i hi => ahN_not (begins_out hi)) hT hb
theorem liveA_none {L : List Ins} (hp : progS L = false) : liveA L = [] := by unfold liveA; rw [hp]; rfl
theorem liveB_none {L : List Ins} (hp : progS L = false) : liveB L = [] := by unfold liveB; rw [hp]; rfl
theorem andnot_u16 {a b : Nat} (ha : a < 65536) (hb : b < 65536) : bits .andNot .u16 (a : Int) (b : Int) = ((a &&& (65535 - b) : Nat) : Int) := u16_andNot_nat a b ha hb
theorem step_u16 {r b w : Nat} (hr : r < 65536) (hb : b < 65536) (hw : w < 65536) : bits .or .u16 (r : Int) (bits .andNot .u16 (b : Int) (w : Int)) = ((stepS r b w : Nat) : Int) := by
 rw [andnot_u16 hb hw, or_u16 hr (Nat.lt_of_le_of_lt Nat.and_le_left hb)]
 rfl
def RS.rs (σ : RS) (R : Nat → Int) (S : Nat → Bool) : RS := { σ with R := R, S := S }
def Agr (A : Nat → Prop) (σ : RS) (R : Nat → Int) (S : Nat → Bool) : Prop := ∀ d, A d → R d = σ.R d ∧ S d = σ.S d
theorem bit_self {i : Int} : (bitS i).testBit i.toNat = true := Nat.testBit_two_pow_self
theorem aluN_mov (wide : Bool) (off a a' b : Int) : aluN 176 wide off a b = aluN 176 wide off a' b := by
 unfold aluN rawN
 simp
section
variable {σ : RS} {R : Nat → Int} {S : Nat → Bool} {A B : Nat → Prop} {x : Ins} {k : Wh}
theorem second_agr (h : Agr A σ R S) (hs : k.reg = true → A x.src.toNat) : (σ.rs R S).second x k = σ.second x k := by
 unfold RS.second RS.rs
 split
 ·rename_i hr
  have := h _ (hs hr)
  show (R x.src.toNat, S x.src.toNat) = _
  rw [this.1, this.2]
 ·rfl
theorem set_agr (h : Agr A σ R S) (d : Nat) (n : Int) (hw : ∀ e, B e → e ≠ d → A e) : ∃ R' S', (σ.rs R S).setR d n = (σ.setR d n).rs R' S' ∧ Agr B (σ.setR d n) R' S' :=
 ⟨_, _, rfl, fun e he => by
  by_cases hd : e = d
  ·subst hd; simp [RS.setR, RS.rs, updN]
  ·have := h e (hw e he hd)
   simp [RS.setR, RS.rs, updN, hd, this]⟩
theorem tell_agr (h : Agr A σ R S) (c : Cl) (i : Nat) (t : Int) (hs : A (i + 1)) : (σ.rs R S).tell c i t = σ.tell c i t := by
 unfold RS.tell RS.rs
 have := h _ hs
 simp only [this.1, this.2]
theorem tells_agr (h : Agr A σ R S) : ∀ (ts : List Int) (c : Cl) (i : Nat), (∀ j, i ≤ j → j < i + ts.length → A (j + 1)) → (σ.rs R S).tells c i ts = σ.tells c i ts
 | [], c, i, _ => rfl
 | t :: ts, c, i, hs => by
  unfold RS.tells
  rw [tell_agr h c i t (hs i (Nat.le_refl _) (by simp)), tells_agr h ts _ (i + 1) (fun j h1 h2 => hs j (by omega) (by simp at h2 ⊢; omega))]
theorem told_agr (h : Agr A σ R S) (id : Int) (hs : ∀ j, 1 ≤ j → j ≤ (tolds id).length → A j) : (σ.rs R S).told id = σ.told id := by
 unfold RS.told
 rw [tells_agr h _ _ 0 (fun j h1 h2 => hs (j + 1) (by omega) (by omega))]
theorem done_agr (h : Agr A σ R S) (σ1 : RS) (hR : σ1.R = σ.R) (hS : σ1.S = σ.S) (c : Cl) (hw : ∀ e, B e → 5 < e → A e) : ∃ R' S', (σ1.rs R S).done c = (σ1.done c).rs R' S' ∧ Agr B (σ1.done c) R' S' :=
 ⟨_, _, rfl, fun e he => by
  by_cases hd : 5 < e
  ·have := h e (hw e he hd)
   have h0 : e ≠ 0 := by omega
   have h5 : ¬ (1 ≤ e ∧ e ≤ 5) := by omega
   refine ⟨?_, ?_⟩
   ·show updN (fun j => if 1 ≤ j ∧ j ≤ 5 then 0 else R j) 0 c.ret e = updN (fun j => if 1 ≤ j ∧ j ≤ 5 then 0 else σ1.R j) 0 c.ret e
    simp only [updN, if_neg h0, if_neg h5, hR, this]
   ·show updN (fun j => if 1 ≤ j ∧ j ≤ 5 then false else S j) 0 true e = updN (fun j => if 1 ≤ j ∧ j ≤ 5 then false else σ1.S j) 0 true e
    simp only [updN, if_neg h0, if_neg h5, hS, this]
  ·by_cases h0 : e = 0
   ·subst h0; simp [RS.done, RS.setR, RS.rs, updN]
   ·have h5 : 1 ≤ e ∧ e ≤ 5 := by omega
    simp [RS.done, RS.setR, RS.rs, updN, h0, h5]⟩
theorem told_bit {n j : Nat} (hn : n = 0 ∨ n = 2 ∨ n = 4) (h1 : 1 ≤ j) (h2 : j ≤ n) : (2 ^ (1 + n) - 2).testBit j = true := by
 rcases hn with rfl | rfl | rfl
 ·omega
 ·have : j = 1 ∨ j = 2 := by omega
  rcases this with rfl | rfl <;> decide
 ·have : j = 1 ∨ j = 2 ∨ j = 3 ∨ j = 4 := by omega
  rcases this with rfl | rfl | rfl | rfl <;> decide
theorem tolds_len (id : Int) : (tolds id).length = 0 ∨ (tolds id).length = 2 ∨ (tolds id).length = 4 := by
 unfold tolds
 split
 ·simp
 ·split
  ·simp
  ·split <;> simp
theorem bit_off {d : Nat} {i : Int} (h : d ≠ i.toNat) : (bitS i).testBit d = false := by
 cases hb : (bitS i).testBit d
 ·rfl
 ·exact absurd (by rw [bitS, Nat.testBit_two_pow] at hb; simpa [eq_comm] using hb) h
theorem not63 {e : Nat} (h : 5 < e) : (63 : Nat).testBit e = false := Nat.testBit_lt_two_pow (Nat.lt_of_lt_of_le (by decide : 63 < 2 ^ 6) (Nat.pow_le_pow_right (by decide) (by omega)))
theorem does_agr (hk : whatZ x = k) (ho : KindOk x k) (h : Agr A σ R S) (hl : k.kind = 3 → ∃ y, σ.L[σ.place.toNat + 1]? = some y) (hr : ∀ d, (readsS x).testBit d = true → A d) (hw : ∀ d, B d → (writesS x).testBit d = false → A d) :
  ∃ R' S', (σ.rs R S).does x k = ((σ.does x k).1.rs R' S', (σ.does x k).2) ∧ ((σ.does x k).2.2 = 0 → Agr B (σ.does x k).1 R' S') := by
 have hrs : readsS x = readsK k.kind k.op k.reg x := by unfold readsS; rw [hk]
 have hws : writesS x = if k.kind = 1 ∨ k.kind = 2 ∨ k.kind = 3 ∨ k.kind = 4 ∨ k.kind = 5 then bitS x.dst else if k.kind = 11 then 63 else 0 := by unfold writesS; rw [hk]
 rw [hrs] at hr
 rw [hws] at hw
 have hreg : ∀ {n : Nat}, k.reg = true → regS k.reg x ||| n = regS k.reg x ||| n := fun _ => rfl
 have hsrc : k.reg = true → (regS k.reg x).testBit x.src.toNat = true := fun e => by unfold regS; rw [e]; exact bit_self
 have hplace : ∀ (R : Nat → Int) (S : Nat → Bool), (σ.rs R S).place = σ.place ∧ (σ.rs R S).L = σ.L ∧ (σ.rs R S).D = σ.D ∧ (σ.rs R S).V = σ.V ∧ (σ.rs R S).dr = σ.dr := fun _ _ => ⟨rfl, rfl, rfl, rfl, rfl⟩
 have hall : Agr B σ R S ↔ Agr B σ R S := Iff.rfl
 have hk12 : k.kind = 1 ∨ k.kind = 2 ∨ k.kind = 3 ∨ k.kind = 4 ∨ k.kind = 5 ∨ (k.kind = 6 ∨ k.kind = 7 ∨ k.kind = 8) ∨ k.kind = 9 ∨ k.kind = 10 ∨ k.kind = 11 ∨ k.kind = 12 := by have := ho.rng; omega
 rcases hk12 with e | e | e | e | e | e | e | e | e | e
 ·-- arith
  simp only [e, readsK, if_true] at hr
  simp only [e, true_or, if_true] at hw
  have hA : ∀ e', B e' → e' ≠ x.dst.toNat → A e' := fun e' hB hne => hw e' hB (by
   cases hb : (bitS x.dst).testBit e'
   ·rfl
   ·exact absurd (by rw [bitS, Nat.testBit_two_pow] at hb; simpa [eq_comm] using hb) hne)
  have hs2 : (σ.rs R S).second x k = σ.second x k := second_agr h (fun e' => hr _ (by
   split
   ·exact hsrc e'
   ·rw [Nat.testBit_or, hsrc e']; rfl))
  unfold RS.does
  simp only [e, if_true, hplace]
  have hdst : k.op ≠ 176 → R x.dst.toNat = σ.R x.dst.toNat ∧ S x.dst.toNat = σ.S x.dst.toNat := fun e' => h _ (hr _ (by rw [if_neg e', Nat.testBit_or, bit_self, Bool.or_true]))
  unfold RS.arith
  rw [hs2]
  by_cases hop : k.op = 176
  ·by_cases hg : (σ.second x k).2 = false ∨ (k.op ≠ 176 ∧ σ.S x.dst.toNat = false)
   ·have hg' : (σ.second x k).2 = false ∨ (k.op ≠ 176 ∧ (σ.rs R S).S x.dst.toNat = false) := by rcases hg with h1 | h1; exact .inl h1; exact absurd hop h1.1
    rw [if_pos hg, if_pos hg']
    exact ⟨R, S, rfl, fun h' => by cases h'⟩
   ·have hg' : ¬ ((σ.second x k).2 = false ∨ (k.op ≠ 176 ∧ (σ.rs R S).S x.dst.toNat = false)) := fun h' => hg (by rcases h' with h1 | h1; exact .inl h1; exact absurd hop h1.1)
    rw [if_neg hg, if_neg hg', hop, aluN_mov k.wide x.off ((σ.rs R S).R x.dst.toNat) (σ.R x.dst.toNat)]
    obtain ⟨R', S', h1, h2⟩ := set_agr (B := B) h x.dst.toNat (aluN 176 k.wide x.off (σ.R x.dst.toNat) (negB 176 (σ.second x k).1)) hA
    exact ⟨R', S', by rw [h1], fun _ => h2⟩
  ·have hd := hdst hop
   have hS : (σ.rs R S).S x.dst.toNat = σ.S x.dst.toNat := hd.2
   have hR : (σ.rs R S).R x.dst.toNat = σ.R x.dst.toNat := hd.1
   rw [hS, hR]
   split
   ·exact ⟨R, S, rfl, fun h' => by cases h'⟩
   ·obtain ⟨R', S', h1, h2⟩ := set_agr (B := B) h x.dst.toNat (aluN k.op k.wide x.off (σ.R x.dst.toNat) (negB k.op (σ.second x k).1)) hA
    exact ⟨R', S', by rw [h1], fun _ => h2⟩
 ·-- swaps
  have hd := h _ (hr x.dst.toNat (by rw [readsK, if_neg (by omega), if_pos (.inl e), Nat.testBit_or, bit_self, Bool.or_true]))
  have hA : ∀ e', B e' → e' ≠ x.dst.toNat → A e' := fun e' hB hne => hw e' hB (by rw [if_pos (.inr (.inl e))]; exact bit_off hne)
  have hS : (σ.rs R S).S x.dst.toNat = σ.S x.dst.toNat := hd.2
  have hR : (σ.rs R S).R x.dst.toNat = σ.R x.dst.toNat := hd.1
  simp only [RS.does, e, hplace, hS, hR]
  by_cases hs : σ.S x.dst.toNat = false
  ·simp only [hs, if_true]
   exact ⟨R, S, rfl, fun h' => by cases h'⟩
  ·have hs1 : σ.S x.dst.toNat = true := by simpa using hs
   simp only [show ¬ ((2 : Int) = 1) by decide, if_false, if_true, hs1, Bool.true_eq_false]
   obtain ⟨R', S', h1, h2⟩ := set_agr (B := B) h x.dst.toNat (swapN k.wide (8 * k.size) (σ.R x.dst.toNat)) hA
   exact ⟨R', S', by rw [h1], fun _ => h2⟩
 ·-- a number
  have hA : ∀ e', B e' → e' ≠ x.dst.toNat → A e' := fun e' hB hne => hw e' hB (by rw [if_pos (.inr (.inr (.inl e)))]; exact bit_off hne)
  simp only [RS.does, e, hplace, show ¬ ((3 : Int) = 1) by decide, show ¬ ((3 : Int) = 2) by decide, if_false, if_true]
  cases hy : σ.L[σ.place.toNat + 1]? with
  | none => obtain ⟨y, hy'⟩ := hl e; rw [hy] at hy'; cases hy'
  | some y =>
   obtain ⟨R', S', h1, h2⟩ := set_agr (B := B) h x.dst.toNat (longN x y) hA
   exact ⟨R', S', by simp only [h1], fun _ => h2⟩
 ·-- a map
  have hA : ∀ e', B e' → e' ≠ x.dst.toNat → A e' := fun e' hB hne => hw e' hB (by rw [if_pos (.inr (.inr (.inr (.inl e))))]; exact bit_off hne)
  simp only [RS.does, e, hplace, show ¬ ((4 : Int) = 1) by decide, show ¬ ((4 : Int) = 2) by decide, show ¬ ((4 : Int) = 3) by decide, if_false, if_true]
  by_cases hs : (σ.D.length : Int) ≤ x.imm
  ·simp only [hs, if_true]
   exact ⟨R, S, rfl, fun h' => by cases h'⟩
  ·simp only [hs, if_false]
   obtain ⟨R', S', h1, h2⟩ := set_agr (B := B) h x.dst.toNat (12884901888 + x.imm) hA
   exact ⟨R', S', by rw [h1], fun _ => h2⟩
 ·-- load
  have hd := h _ (hr x.src.toNat (by rw [readsK, if_neg (by omega), if_neg (by omega), if_pos e, bit_self]))
  have hA : ∀ e', B e' → e' ≠ x.dst.toNat → A e' := fun e' hB hne => hw e' hB (by rw [if_pos (.inr (.inr (.inr (.inr e))))]; exact bit_off hne)
  have hS : (σ.rs R S).S x.src.toNat = σ.S x.src.toNat := hd.2
  have hR : (σ.rs R S).R x.src.toNat = σ.R x.src.toNat := hd.1
  have hV : (σ.rs R S).V = σ.V := rfl
  simp only [RS.does, e, hplace, show ¬ ((5 : Int) = 1) by decide, show ¬ ((5 : Int) = 2) by decide, show ¬ ((5 : Int) = 3) by decide, show ¬ ((5 : Int) = 4) by decide, if_false, if_true]
  have ha : (σ.rs R S).addr x.src x = σ.addr x.src x := by unfold RS.addr; rw [hR]
  unfold RS.load
  rw [ha, hS, hV]
  split
  ·exact ⟨R, S, rfl, fun h' => by cases h'⟩
  ·split
   ·rename_i h3
    exact ⟨R, S, rfl, fun h' => absurd h' h3⟩
   ·obtain ⟨R', S', h1, h2⟩ := set_agr (B := B) h x.dst.toNat (if k.signed then signN (mload σ.V.1 (σ.addr x.src x) k.size).1 (8 * k.size) else (mload σ.V.1 (σ.addr x.src x) k.size).1) hA
    exact ⟨R', S', by rw [h1], fun _ => h2⟩
 ·-- store
  have hbits : readsK k.kind k.op k.reg x = regS k.reg x ||| bitS x.dst := by rw [readsK, if_neg (by omega), if_pos (by omega)]
  rw [hbits] at hr
  have hd := h _ (hr x.dst.toNat (by rw [Nat.testBit_or, bit_self, Bool.or_true]))
  have hs2 : (σ.rs R S).second x k = σ.second x k := second_agr h (fun e' => hr _ (by rw [Nat.testBit_or, hsrc e']; rfl))
  have hA : ∀ e', B e' → A e' := fun e' hB => hw e' hB (by rw [if_neg (by omega), if_neg (by omega)]; exact Nat.zero_testBit _)
  have hS : (σ.rs R S).S x.dst.toNat = σ.S x.dst.toNat := hd.2
  have hR : (σ.rs R S).R x.dst.toNat = σ.R x.dst.toNat := hd.1
  have hV : (σ.rs R S).V = σ.V := rfl
  have ha : (σ.rs R S).addr x.dst x = σ.addr x.dst x := by unfold RS.addr; rw [hR]
  have he : k.kind ≠ 1 ∧ k.kind ≠ 2 ∧ k.kind ≠ 3 ∧ k.kind ≠ 4 ∧ k.kind ≠ 5 := by omega
  simp only [RS.does, he.1, he.2.1, he.2.2.1, he.2.2.2.1, he.2.2.2.2, if_false, e, if_true, hplace]
  have hput : ∀ a s n : Int, (σ.rs R S).putM a s n = ((σ.putM a s n).1.rs R S, (σ.putM a s n).2) := fun a s n => rfl
  have hag : ∀ M, Agr B (σ.setM M) R S := fun M e' he' => h e' (hA e' he')
  unfold RS.store
  rw [hs2, hS, ha, hV]
  split
  ·exact ⟨R, S, rfl, fun h' => by cases h'⟩
  ·split
   ·split
    ·rename_i h3
     exact ⟨R, S, rfl, fun h' => absurd h' h3⟩
    ·exact ⟨R, S, by rw [hput], fun _ => hag _⟩
   ·exact ⟨R, S, by rw [hput], fun _ => hag _⟩
 ·-- jump
  have hA : ∀ e', B e' → A e' := fun e' hB => hw e' hB (by rw [if_neg (by omega), if_neg (by omega)]; exact Nat.zero_testBit _)
  refine ⟨R, S, ?_, fun _ => ?_⟩
  ·simp [RS.does, e, hplace]
  ·simp only [RS.does, e]
   simp
   exact fun e' he' => h e' (hA e' he')
 ·-- branch
  have hbits : readsK k.kind k.op k.reg x = regS k.reg x ||| bitS x.dst := by rw [readsK, if_neg (by omega), if_pos (by omega)]
  rw [hbits] at hr
  have hd := h _ (hr x.dst.toNat (by rw [Nat.testBit_or, bit_self, Bool.or_true]))
  have hs2 : (σ.rs R S).second x k = σ.second x k := second_agr h (fun e' => hr _ (by rw [Nat.testBit_or, hsrc e']; rfl))
  have hA : ∀ e', B e' → A e' := fun e' hB => hw e' hB (by rw [if_neg (by omega), if_neg (by omega)]; exact Nat.zero_testBit _)
  have hS : (σ.rs R S).S x.dst.toNat = σ.S x.dst.toNat := hd.2
  have hR : (σ.rs R S).R x.dst.toNat = σ.R x.dst.toNat := hd.1
  simp only [RS.does, e, hplace, show ¬ ((10 : Int) = 1) by decide, show ¬ ((10 : Int) = 2) by decide, show ¬ ((10 : Int) = 3) by decide, show ¬ ((10 : Int) = 4) by decide, show ¬ ((10 : Int) = 5) by decide, show ¬ ((10 : Int) = 6 ∨ (10 : Int) = 7 ∨ (10 : Int) = 8) by decide, show ¬ ((10 : Int) = 9) by decide, if_false, if_true, hs2, hS, hR]
  split
  ·exact ⟨R, S, rfl, fun h' => by cases h'⟩
  ·exact ⟨R, S, rfl, fun _ e' he' => h e' (hA e' he')⟩
 ·-- call
  have hbits : readsK k.kind k.op k.reg x = 2 ^ (1 + (tolds x.imm).length) - 2 := by rw [readsK, if_neg (by omega), if_neg (by omega), if_neg (by omega), if_neg (by omega), if_pos e]
  rw [hbits] at hr
  have ht : (σ.rs R S).told x.imm = σ.told x.imm := told_agr h x.imm (fun j h1 h2 => hr j (told_bit (tolds_len x.imm) h1 h2))
  have hB5 : ∀ e', B e' → 5 < e' → A e' := fun e' hB h5 => hw e' hB (by rw [if_neg (by omega), if_pos e]; exact not63 h5)
  have hac : ∀ c, (σ.rs R S).acts c = σ.acts c := fun c => rfl
  simp only [RS.does, e, hplace, show ¬ ((11 : Int) = 1) by decide, show ¬ ((11 : Int) = 2) by decide, show ¬ ((11 : Int) = 3) by decide, show ¬ ((11 : Int) = 4) by decide, show ¬ ((11 : Int) = 5) by decide, show ¬ ((11 : Int) = 6 ∨ (11 : Int) = 7 ∨ (11 : Int) = 8) by decide, show ¬ ((11 : Int) = 9) by decide, show ¬ ((11 : Int) = 10) by decide, if_false, if_true]
  unfold RS.call
  rw [ht, hac]
  have hdr : (σ.rs R S).dr = σ.dr := rfl
  rw [hdr]
  split
  ·exact ⟨R, S, rfl, fun h' => by cases h'⟩
  ·split
   ·rename_i h3
    exact ⟨R, S, rfl, fun h' => absurd h' h3⟩
   ·split
    ·split
     ·rename_i h3
      exact ⟨R, S, rfl, fun h' => absurd h' h3⟩
     ·obtain ⟨R', S', h1, h2⟩ := done_agr (B := B) h { σ with dr := drawnRest x.imm σ.dr } rfl rfl { (σ.told x.imm).1 with ret := drawn x.imm σ.dr } hB5
      exact ⟨R', S', Prod.ext h1 rfl, fun _ => h2⟩
    ·split
     ·rename_i h3
      exact ⟨R, S, rfl, fun h' => absurd h' h3⟩
     ·obtain ⟨R', S', h1, h2⟩ := done_agr (B := B) h { σ with V := (σ.acts (σ.told x.imm).1).1 } rfl rfl { (σ.told x.imm).1 with ret := (σ.acts (σ.told x.imm).1).2.1 } hB5
      exact ⟨R', S', Prod.ext h1 rfl, fun _ => h2⟩
 ·-- exit
  have hd := h _ (hr 0 (by rw [readsK, if_neg (by omega), if_neg (by omega), if_neg (by omega), if_pos e]; decide))
  have hA : ∀ e', B e' → A e' := fun e' hB => hw e' hB (by rw [if_neg (by omega), if_neg (by omega)]; exact Nat.zero_testBit _)
  have hS : (σ.rs R S).S 0 = σ.S 0 := hd.2
  simp only [RS.does, e, hplace, show ¬ ((12 : Int) = 1) by decide, show ¬ ((12 : Int) = 2) by decide, show ¬ ((12 : Int) = 3) by decide, show ¬ ((12 : Int) = 4) by decide, show ¬ ((12 : Int) = 5) by decide, show ¬ ((12 : Int) = 6 ∨ (12 : Int) = 7 ∨ (12 : Int) = 8) by decide, show ¬ ((12 : Int) = 9) by decide, show ¬ ((12 : Int) = 10) by decide, show ¬ ((12 : Int) = 11) by decide, if_false, if_true, hS]
  split
  ·exact ⟨R, S, rfl, fun h' => by cases h'⟩
  ·exact ⟨R, S, rfl, fun _ e' he' => h e' (hA e' he')⟩
end
def Nd (L : List Ins) (p : Nat) : Nat → Prop := fun d => Need (rdN L) (wrN L) (ahN L) d p
section
variable {σ : RS} {R : Nat → Int} {S : Nat → Bool}
theorem does_exit {x : Ins} (hk : (whatZ x).kind = 12) (hS : σ.S 0 = true) : σ.does x (whatZ x) = ({ σ with over := true }, σ.place, 0) := by
 simp [RS.does, hk, hS]
theorem step_agr (hi : σ.Inv) (hov : σ.over = false) (h : Agr (Nd σ.L σ.place.toNat) σ R S) :
  ∃ R' S', (σ.rs R S).step = (σ.step.1.rs R' S', σ.step.2) ∧ (σ.step.1.over = false → Agr (Nd σ.L σ.step.1.place.toNat) σ.step.1 R' S') ∧ (σ.step.1.over = true → σ.step.2 = 0 → R' 0 = σ.step.1.R 0) := by
 obtain ⟨x, hon⟩ := hi.on
 have hb : beginsS σ.L σ.place.toNat = true := begins_st hi.prog hi.place.2
 have hr : ∀ d, (readsS x).testBit d = true → Nd σ.L σ.place.toNat d := fun d hd => Need.read (by rw [rdN_at hb hon.code]; exact hd)
 have hw : ∀ d, NeedB (rdN σ.L) (wrN σ.L) (ahN σ.L) d σ.place.toNat → (writesS x).testBit d = false → Nd σ.L σ.place.toNat d := fun d hB hd => Need.on (by rw [wrN_at hb hon.code]; exact hd) hB
 obtain ⟨R', S', h1, h2⟩ := does_agr (B := fun d => NeedB (rdN σ.L) (wrN σ.L) (ahN σ.L) d σ.place.toNat) rfl hon.kind h hon.long hr hw
 have hcode : (σ.rs R S).L[(σ.rs R S).place.toNat]? = some x := hon.code
 have e1 : (σ.rs R S).over = false := hov
 unfold RS.step
 rw [if_neg (by rw [e1]; decide), if_neg (by rw [hov]; decide), hcode, hon.code]
 simp only [h1]
 by_cases he : (σ.does x (whatZ x)).2.2 ≠ 0
 ·rw [if_pos he, if_pos he]
  exact ⟨R', S', rfl, fun h => (by cases h), fun _ h => absurd h he⟩
 ·rw [if_neg he, if_neg he]
  have he0 : (σ.does x (whatZ x)).2.2 = 0 := by simpa using he
  refine ⟨R', S', rfl, fun hv d hd => ?_, fun hv _ => ?_⟩
  ·rcases does_next hi.prog hon hi.place.2 he0 with ⟨_, _, h5⟩ | ⟨h4, h5⟩
   ·have : (σ.does x (whatZ x)).1.over = false := hv
    rw [h5] at this
    cases this
   ·have hst := ahead_start (ProgF.of hi.prog) hi.place.2 hon.code h4
    have hd' : Need (rdN σ.L) (wrN σ.L) (ahN σ.L) d (σ.does x (whatZ x)).2.1.toNat := hd
    refine h2 he0 d ⟨(σ.does x (whatZ x)).2.1.toNat, ?_, hd'⟩
    rw [Int.toNat_of_nonneg hst.1]
    unfold ahN
    rw [aheadV_at hb]
    unfold aheadAt
    rw [hon.code]
    exact h4
  ·rcases does_next hi.prog hon hi.place.2 he0 with ⟨h3, _, h5⟩ | ⟨_, h5⟩
   ·have h0 : Nd σ.L σ.place.toNat 0 := hr 0 (by
     unfold readsS readsK
     rw [if_neg (by omega), if_neg (by omega), if_neg (by omega), if_pos h3]; decide)
    have ha := h 0 h0
    have hS : σ.S 0 = true := by
     cases hs : σ.S 0
     ·exfalso
      have : σ.does x (whatZ x) = (σ, 0, 110) := by simp [RS.does, h3, hs]
      rw [this] at he0
      cases he0
     ·rfl
    have hS2 : (σ.rs R S).S 0 = true := by show S 0 = true; rw [ha.2]; exact hS
    have e2 := does_exit (σ := σ.rs R S) h3 hS2
    rw [h1, does_exit h3 hS] at e2
    have e3 := congrArg (fun z : RS × Int × Int => z.1.R 0) e2
    have e4 : R' 0 = R 0 := e3
    rw [does_exit h3 hS]
    rw [e4]
    exact ha.1
   ·have : (σ.does x (whatZ x)).1.over = true := hv
    rw [h5, hov] at this
    cases this
end
end Go.Proofs.YtppefchjoodgnaaGreat
