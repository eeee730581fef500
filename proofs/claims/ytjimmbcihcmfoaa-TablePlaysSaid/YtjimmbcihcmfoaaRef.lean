/- The document's memory (reference 08): how it lies in the heap; find, where. -/
import Derived.Test.YtjimmbcihcmfoaaMemG
import Derived.Test.YtjimmbcihcmfoaaApp
namespace Go.Proofs.Ytjimmbcihcmfoaa
open Go.RowKit
set_option linter.unusedVariables false
set_option linter.unusedSimpArgs false

/-- An area of the document's: its number, its two slices (where they begin, how much they may hold), what they hold. -/
structure RR where
  n : Int
  ba : Option Addr
  bc : Nat
  pa : Option Addr
  pc : Nat
  A : Ar
def RR.bv (x : RR) : Value := .slice x.ba x.A.bytes.length x.bc
def RR.pv (x : RR) : Value := .slice x.pa x.A.put.length x.pc
def RR.enc (x : RR) : List Value := [.int .i64 x.n, x.bv, x.pv, .bool x.A.fixed]
theorem enc_rr : Enc 4 RR.enc := ⟨fun _ => rfl, fun x u hu => by
  simp only [RR.enc, List.mem_cons, List.not_mem_nil, or_false] at hu
  rcases hu with rfl | rfl | rfl | rfl <;> rfl⟩
def RR.blocks (x : RR) : List Nat := x.bv.ownBlock.toList ++ x.pv.ownBlock.toList
abbrev encB : Int → List Value := fun x => [Value.int .u8 x]
abbrev encP : Bool → List Value := fun x => [Value.bool (!x)]
theorem enc_p : Enc 1 encP := ⟨fun _ => rfl, fun x u hu => by simp at hu; subst hu; rfl⟩
/-- The document's memory that a pointer to block b is: the slice of its areas. -/
structure RefAt (w : World) (base b : Nat) (lv : Value) (L : List RR) : Prop where
  head : w.heap[b]? = some (.cells #[lv] 30 (0, 0))
  hb : base ≤ b
  list : Own w base 102 4 RR.enc lv L
  bytes : ∀ x ∈ L, Own w base 5 1 encB x.bv x.A.bytes
  put : ∀ x ∈ L, Own w base 4 1 encP x.pv x.A.put
  apart : (b :: (lv.ownBlock.toList ++ L.flatMap RR.blocks)).Nodup
  ok : ∀ x ∈ L, x.A.put.length = x.A.bytes.length ∧ x.A.bytes.length ≤ 1024 ∧ (∀ q ∈ x.A.bytes, 0 ≤ q ∧ q ≤ 255) ∧ 1 ≤ x.n ∧ x.n ≤ 2147483647
  uniq : (L.map (·.n)).Nodup
def rfoot (b : Nat) (lv : Value) (L : List RR) : List Nat := b :: (lv.ownBlock.toList ++ L.flatMap RR.blocks)
def viewR (L : List RR) : Areas := L.map fun x => (x.n, x.A)

theorem RefAt.keep {F : List Nat} {w w' : World} {base b : Nat} {lv : Value} {L : List RR} (h : RefAt w base b lv L) (k : Keep F w w') (hF : ∀ x ∈ rfoot b lv L, x ∉ F) : RefAt w' base b lv L := by
  refine ⟨k.obj h.head (hF _ (by simp [rfoot])), h.hb, h.list.keep k (fun j hj => hF j (by simp [rfoot, hj])), fun x hx => (h.bytes x hx).keep k (fun j hj => hF j ?_), fun x hx => (h.put x hx).keep k (fun j hj => hF j ?_), h.apart, h.ok, h.uniq⟩
  all_goals
    simp only [rfoot, List.mem_cons, List.mem_append, List.mem_flatMap]
    exact .inr (.inr ⟨x, hx, by simp [RR.blocks, hj]⟩)
theorem RefAt.ext {w w' : World} {base b : Nat} {lv : Value} {L : List RR} (h : RefAt w base b lv L) (k : Ext w w') : RefAt w' base b lv L :=
  h.keep (F := []) (Keep.of_ext k) (fun _ _ => by simp)
theorem RefAt.lt {w : World} {base b : Nat} {lv : Value} {L : List RR} (h : RefAt w base b lv L) : ∀ x ∈ rfoot b lv L, base ≤ x ∧ x < w.heap.size := by
  intro x hx
  simp only [rfoot, List.mem_cons, List.mem_append, List.mem_flatMap, Option.mem_toList] at hx
  rcases hx with rfl | hx | ⟨y, hy, hx⟩
  · exact ⟨h.hb, heap_lt h.head⟩
  · exact h.list.lt hx
  · simp only [RR.blocks, List.mem_append, Option.mem_toList] at hx
    rcases hx with hx | hx
    · exact (h.bytes y hy).lt hx
    · exact (h.put y hy).lt hx

theorem lookup_viewR (L : List RR) (n : Int) : ((viewR L).lookup n = none ∧ ∀ x ∈ L, (x.n == n) = false) ∨
    ∃ (i : Nat) (x : RR), L[i]? = some x ∧ x.n = n ∧ (viewR L).lookup n = some x.A ∧ ∀ (j : Nat) (y : RR), j < i → L[j]? = some y → (y.n == n) = false := by
  induction L with
  | nil => left; simp [viewR]
  | cons y L ih =>
    by_cases h : n = y.n
    · right
      exact ⟨0, y, rfl, h.symm, by simp [viewR, List.lookup, h], fun j _ hj => by omega⟩
    · have hb : (n == y.n) = false := by simpa using h
      have hb' : (y.n == n) = false := by simpa using fun e => h e.symm
      rcases ih with ⟨h1, h2⟩ | ⟨i, x, hx, h1, h2, h3⟩
      · left
        refine ⟨by simpa [viewR, List.lookup, hb] using h1, fun x hx => ?_⟩
        rcases List.mem_cons.1 hx with rfl | hx
        · exact hb'
        · exact h2 x hx
      · right
        refine ⟨i + 1, x, by simpa using hx, h1, by simpa [viewR, List.lookup, hb] using h2, fun j z hj hz => ?_⟩
        cases j with
        | zero => simp at hz; subst hz; exact hb'
        | succ j => exact h3 j z (by omega) (by simpa using hz)

theorem el_area : El Try.prog 28 102 4 64 (.agg #[.int .i64 0, .slice none 0 0, .slice none 0 0, .bool false]) := ⟨Try.underlying28, by kernel_rfl, rfl, by decide, fun _ => by kernel_rfl⟩

theorem ref_at (a o : Int) (w : World) : Calls Try.prog 53 #[.int .i64 a, .int .i64 o] w fun e w' => e = .returned (.int .u64 (mat a o)) ∧ w' = w := by
  go_enter Try.func53, Try.ntmps53
  go_wp2
  go_returns
  exact ⟨ret_u64 (by simp only [IntKind.wrap_u64, mat]; omega), rfl⟩
theorem ref_fits (n : Int) (w : World) : Calls Try.prog 55 #[.int .i64 n] w fun e w' => e = .returned (.bool (sized n)) ∧ w' = w := by
  rcases sized_cases n with rfl | rfl | rfl | rfl | ⟨h1, h2, h3, h4⟩
  all_goals
    go_enter Try.func55, Try.ntmps55
    go_wp2
    go_returns
    exact ⟨ret_bool (by simp [sized, *]), rfl⟩

/-- An area's cells, at its place in the list. -/
theorem area_cells {w : World} {v : Value} {L : List RR} (R : Rd w 4 RR.enc v L) {i : Nat} {x : RR} (hx : L[i]? = some x) :
    w.cell? (elt v (i * 4)) = some (.int .i64 x.n) ∧ w.cell? ⟨(elt v (i * 4)).block, (elt v (i * 4)).off + 1, none⟩ = some x.bv ∧ w.cell? ⟨(elt v (i * 4)).block, (elt v (i * 4)).off + 2, none⟩ = some x.pv ∧ w.cell? ⟨(elt v (i * 4)).block, (elt v (i * 4)).off + 3, none⟩ = some (.bool x.A.fixed) := by
  have E := R.elt_add hx
  have F : ∀ (p : Addr) (j : Nat), j ≠ 0 → (⟨p.block, p.off + j, none⟩ : Addr) = p.add j := fun p j h => by simp [Addr.add, h]
  rw [F _ 1 (by decide), F _ 2 (by decide), F _ 3 (by decide), E, E, E]
  exact ⟨R.cell hx (j := 0) rfl, R.cell hx (j := 1) rfl, R.cell hx (j := 2) rfl, R.cell hx (j := 3) rfl⟩
theorem RefAt.cells {w : World} {base b : Nat} {v : Value} {L : List RR} (h : RefAt w base b v L) {i : Nat} {x : RR} (hx : L[i]? = some x) :
    w.cell? (elt v (i * 4)) = some (.int .i64 x.n) ∧ w.cell? ⟨(elt v (i * 4)).block, (elt v (i * 4)).off + 1, none⟩ = some x.bv ∧ w.cell? ⟨(elt v (i * 4)).block, (elt v (i * 4)).off + 2, none⟩ = some x.pv ∧ w.cell? ⟨(elt v (i * 4)).block, (elt v (i * 4)).off + 3, none⟩ = some (.bool x.A.fixed) := area_cells (h.list.rd enc_rr) hx
theorem RefAt.rec_apart {w : World} {base b : Nat} {lv : Value} {L : List RR} (h : RefAt w base b lv L) {x : RR} (hx : x ∈ L) : b ∉ RR.blocks x ∧ (∀ j, lv.ownBlock = some j → j ∉ RR.blocks x) ∧ (RR.blocks x).Nodup := by
  have h0 := List.nodup_cons.1 h.apart
  have h1 := List.nodup_append.1 h0.2
  have hm : ∀ j ∈ RR.blocks x, j ∈ L.flatMap RR.blocks := fun j hj => List.mem_flatMap.2 ⟨x, hx, hj⟩
  exact ⟨fun hb => h0.1 (List.mem_append_right _ (hm _ hb)), fun j hj hb => h1.2.2 j (by simpa using hj) j (hm _ hb) rfl, (List.pairwise_flatMap.1 h1.2.1).1 x hx⟩
theorem RefAt.other {w : World} {base b : Nat} {lv : Value} {L : List RR} (h : RefAt w base b lv L) {x y : RR} (hx : x ∈ L) (hy : y ∈ L) (hne : x ≠ y) {k : Nat} (hk : k ∈ RR.blocks x) : k ∉ RR.blocks y := by
  intro hk'
  have h2 := (List.pairwise_flatMap.1 (List.nodup_append.1 (List.nodup_cons.1 h.apart).2).2.1).2
  exact pw_of (R := fun a b => ∀ x ∈ RR.blocks a, ∀ y ∈ RR.blocks b, x ≠ y) (fun a b hab u hu v hv e => hab v hv u hu e.symm) h2 hx hy hne k hk k hk' rfl
theorem uniqR_eq {L : List RR} (h : (L.map (·.n)).Nodup) {x y : RR} (hx : x ∈ L) (hy : y ∈ L) (e : x.n = y.n) : x = y := by
  induction L with
  | nil => cases hx
  | cons z L ih =>
    simp only [List.map_cons, List.nodup_cons, List.mem_map, not_exists, not_and] at h
    cases hx with
    | head => cases hy with
      | head => rfl
      | tail _ hy => exact absurd e.symm (h.1 y hy)
    | tail _ hx => cases hy with
      | head => exact absurd e (h.1 x hx)
      | tail _ hy => exact ih h.2 hx hy
theorem fm_congr {α β : Type} {f g : α → List β} : ∀ {l : List α}, (∀ x ∈ l, f x = g x) → l.flatMap f = l.flatMap g
  | [], _ => rfl
  | x :: l, h => by rw [List.flatMap_cons, List.flatMap_cons, h x List.mem_cons_self, fm_congr fun y hy => h y (List.mem_cons_of_mem _ hy)]
/-- One area with other bytes and marks. -/
def updRR (L : List RR) (x : RR) (A : Ar) : List RR := L.map fun y => if y.n == x.n then { y with A := A } else y
theorem viewR_upd (L : List RR) (x : RR) (A : Ar) : viewR (updRR L x A) = setKey (viewR L) x.n A := by
  simp only [viewR, updRR, setKey, List.map_map]
  apply List.map_congr_left
  intro y _
  by_cases hn : y.n = x.n
  · simp [hn]
  · simp [hn]
theorem RefAt.upd {w w' : World} {base b : Nat} {lv : Value} {L : List RR} (h : RefAt w base b lv L) {x : RR} (hx : x ∈ L) (A : Ar) (hf : A.fixed = x.A.fixed) (hl : A.bytes.length = x.A.bytes.length) (hp : A.put.length = x.A.put.length) (hu : ∀ q ∈ A.bytes, 0 ≤ q ∧ q ≤ 255)
    (k : Keep (RR.blocks x) w w') (HG : Own w' base 5 1 encB x.bv A.bytes) (HP : Own w' base 4 1 encP x.pv A.put) :
    RefAt w' base b lv (updRR L x A) ∧ rfoot b lv (updRR L x A) = rfoot b lv L := by
  have hE : ∀ y ∈ L, RR.enc (if y.n == x.n then { y with A := A } else y) = RR.enc y ∧ RR.blocks (if y.n == x.n then { y with A := A } else y) = RR.blocks y ∧ (if y.n == x.n then { y with A := A } else y).n = y.n := by
    intro y hy
    by_cases hn : y.n == x.n
    · have e : y = x := uniqR_eq h.uniq hy hx (by simpa using hn)
      subst e
      simp only [hn, if_true, and_true]
      refine ⟨?_, ?_⟩
      · simp only [RR.enc, RR.bv, RR.pv, hf, hl, hp]
      · simp only [RR.blocks, RR.bv, RR.pv, hl, hp]
    · simp only [hn, Bool.false_eq_true, if_false, and_self]
  have e1 : (updRR L x A).flatMap RR.enc = L.flatMap RR.enc := by
    rw [updRR, List.flatMap_map]
    exact fm_congr fun y hy => (hE y hy).1
  have e2 : (updRR L x A).flatMap RR.blocks = L.flatMap RR.blocks := by
    rw [updRR, List.flatMap_map]
    exact fm_congr fun y hy => (hE y hy).2.1
  have e3 : (updRR L x A).map (·.n) = L.map (·.n) := by
    rw [updRR, List.map_map]
    exact List.map_congr_left fun y hy => (hE y hy).2.2
  have e4 : (updRR L x A).length = L.length := by simp [updRR]
  have ha := h.rec_apart hx
  refine ⟨⟨k.obj h.head ha.1, h.hb, ?_, ?_, ?_, by rw [e2]; exact h.apart, ?_, by rw [e3]; exact h.uniq⟩, by simp only [rfoot, e2]⟩
  · show World.ownsRow _ _ _ _ _ _ _
    rw [e1, e4]
    exact h.list.keep k ha.2.1
  · intro y' hy'
    obtain ⟨y, hy, rfl⟩ := List.mem_map.1 hy'
    by_cases hn : y.n == x.n
    · have e : y = x := uniqR_eq h.uniq hy hx (by simpa using hn)
      subst e
      simp only [hn, if_true]
      simp only [RR.bv, hl] at HG ⊢
      exact HG
    · have hne : y ≠ x := fun e => hn (by rw [e]; simp)
      simp only [hn, Bool.false_eq_true, if_false]
      exact (h.bytes y hy).keep k (fun j hj => h.other hy hx hne (by simp [RR.blocks, hj]))
  · intro y' hy'
    obtain ⟨y, hy, rfl⟩ := List.mem_map.1 hy'
    by_cases hn : y.n == x.n
    · have e : y = x := uniqR_eq h.uniq hy hx (by simpa using hn)
      subst e
      simp only [hn, if_true]
      simp only [RR.pv, hp] at HP ⊢
      exact HP
    · have hne : y ≠ x := fun e => hn (by rw [e]; simp)
      simp only [hn, Bool.false_eq_true, if_false]
      exact (h.put y hy).keep k (fun j hj => h.other hy hx hne (by simp [RR.blocks, hj]))
  · intro y' hy'
    obtain ⟨y, hy, rfl⟩ := List.mem_map.1 hy'
    have := h.ok y hy
    by_cases hn : y.n == x.n
    · have e : y = x := uniqR_eq h.uniq hy hx (by simpa using hn)
      subst e
      simp only [hn, if_true]
      exact ⟨by rw [hl, hp]; exact this.1, by rw [hl]; exact this.2.1, hu, this.2.2.2⟩
    · simpa only [hn, Bool.false_eq_true, if_false] using this
def FindAns (L : List RR) (n : Int) (w : World) (e : Ending) (w' : World) : Prop :=
  w' = w ∧ (((viewR L).lookup n = none ∧ e = .returned (.int .i64 (-1))) ∨ ∃ (i : Nat) (x : RR), L[i]? = some x ∧ x.n = n ∧ (viewR L).lookup n = some x.A ∧ e = .returned (.int .i64 (i : Nat)))
set_option maxHeartbeats 400000 in
theorem ref_find (base b : Nat) (lv : Value) (L : List RR) (k : Int) (w : World) (h : RefAt w base b lv L) :
    Calls Try.prog 42 #[.pointer (some ⟨b, 0, none⟩), .int .i64 k] w (FindAns L k w) := by
  obtain ⟨a, n, c, rfl, hn, hN⟩ := (h.list.rd enc_rr).val
  have RL := Lib.hid (h.list.rd enc_rr)
  have hb := cell_obj (i := 0) h.head
  simp only [List.getElem?_toArray, List.getElem?_cons_zero] at hb
  have HC := Lib.hid (lookup_viewR L k)
  have HR := Lib.hid h
  clear h
  go_enter Try.func42, Try.ntmps42
  go_wp2_with fail
  go_loopw [5] (fun i wr => ∃ j : Nat, j ≤ n ∧ i = .int .i64 j ∧ wr = w ∧ Hid (∀ (q : Nat) (y : RR), q < j → L[q]? = some y → (y.n == k) = false)) (fun i _ => n - (intOf i).toNat)
  case atStart => exact ⟨0, Nat.zero_le _, rfl, rfl, Lib.hid fun q y hq => absurd hq (Nat.not_lt_zero _)⟩
  case round =>
    obtain ⟨j, hj, rfl, rfl, HJ⟩ := hrel
    by_cases hlt : (j : Int) < n
    · obtain ⟨x, hx⟩ := at_of_lt (xs := L) (k := j) (by have := hN.out; omega)
      have c0 := (HR.out.cells hx).1
      have ix := fun W => RL.out.run_at (P := Try.prog) el_area.under el_area.size .i64 (j : Int) (by omega) (by omega) W
      simp only [Int.toNat_natCast] at ix
      have HX := Lib.hid hx
      clear hx
      cases hk : (x.n == k) with
      | true =>
        have hk' : x.n = k := by simpa using hk
        go_wp2_with fail
        go_returns
        refine ⟨rfl, .inr ?_⟩
        rcases HC.out with ⟨h1, h2⟩ | ⟨i, y, hy, h1, h2, h3⟩
        · rw [h2 x (List.mem_of_getElem? HX.out)] at hk; cases hk
        · have e : i = j := by
            rcases Nat.lt_trichotomy i j with h | h | h
            · have := HJ.out i y h hy
              rw [h1] at this; simp at this
            · exact h
            · have := h3 j x h HX.out
              rw [hk'] at this; simp at this
          subst e
          exact ⟨i, y, hy, h1, h2, rfl⟩
      | false =>
        have HK := Lib.hid hk
        go_wp2_with fail
        go_roundw
        case rel =>
          refine ⟨j + 1, by omega, by go_num, trivial, Lib.hid fun q y hq hy => ?_⟩
          rcases Nat.lt_succ_iff_lt_or_eq.1 hq with hq | rfl
          · exact HJ.out q y hq hy
          · rw [HX.out] at hy; injection hy with e; subst e; exact HK.out
        case measure => simp [intOf]; omega
    · have hjn : j = L.length := by have := hN.out; omega
      have HJN := Lib.hid hjn
      clear hjn
      go_wp2_with fail
      go_returns
      refine ⟨rfl, .inl ⟨?_, rfl⟩⟩
      rcases HC.out with ⟨h1, h2⟩ | ⟨i, y, hy, h1, h2, h3⟩
      · exact h1
      · have := HJ.out i y (by rw [HJN.out]; exact (List.getElem?_eq_some_iff.1 hy).1) hy
        rw [h1] at this; simp at this

def WhereAns (L : List RR) (p s : Int) (w : World) (e : Ending) (w' : World) : Prop :=
  w' = w ∧ ((mfind (viewR L) p s = none ∧ e = .returned (.tuple #[.int .i64 (-1), .int .i64 0])) ∨
    ∃ (i : Nat) (x : RR), L[i]? = some x ∧ x.n = p / 4294967296 ∧ mfind (viewR L) p s = some (x.A, (p % 4294967296).toNat) ∧ e = .returned (.tuple #[.int .i64 (i : Nat), .int .i64 (p % 4294967296)]))
set_option maxHeartbeats 1000000 in
theorem ref_where (base b : Nat) (lv : Value) (L : List RR) (p s : Int) (w : World) (h : RefAt w base b lv L) (hp : 0 ≤ p) (hs : 0 ≤ s) (hs1 : s ≤ 1024) (H : Hid (p ≤ 18446744073709551615)) :
    Calls Try.prog 56 #[.pointer (some ⟨b, 0, none⟩), .int .u64 p, .int .i64 s] w (WhereAns L p s w) := by
  have hq0 : 0 ≤ p / 4294967296 := by omega
  have hq1 : p / 4294967296 ≤ 4294967295 := by have := H.out; omega
  have ho0 : 0 ≤ p % 4294967296 := by omega
  have ho1 : p % 4294967296 ≤ 4294967295 := by omega
  obtain ⟨a, n, c, rfl, hn, hN⟩ := (h.list.rd enc_rr).val
  have RL := Lib.hid (h.list.rd enc_rr)
  have hb := cell_obj (i := 0) h.head
  simp only [List.getElem?_toArray, List.getElem?_cons_zero] at hb
  have HR := Lib.hid h
  clear h
  go_enter Try.func56, Try.ntmps56
  go_wp2_with fail
  refine (ref_find base b _ L (p / 4294967296) _ HR.out).mono ?_
  rintro e w1 ⟨rfl, ⟨hf, rfl⟩ | ⟨i, x, hx, hxn, hf, rfl⟩⟩
  · have HF := Lib.hid hf
    clear hf
    go_wp2_with fail
    go_returns
    exact ⟨rfl, .inl ⟨by simp [mfind, HF.out], rfl⟩⟩
  · have c1 := (HR.out.cells hx).2.1
    have hlt : i < n := by rw [hN.out]; exact (List.getElem?_eq_some_iff.1 hx).1
    have ix := fun W => RL.out.run_at (P := Try.prog) el_area.under el_area.size .i64 (i : Int) (by omega) (by omega) W
    simp only [Int.toNat_natCast] at ix
    have HX := Lib.hid hx
    have HXN := Lib.hid hxn
    have HF := Lib.hid hf
    have hsm := (HR.out.ok x (List.mem_of_getElem? hx)).2.1
    rw [RR.bv] at c1
    clear hx hxn hf
    have hi0 : decide ((i : Int) < 0) = false := by simp
    by_cases hA : (x.A.bytes.length : Int) < p % 4294967296
    · go_wp2_with fail
      go_returns
      exact ⟨rfl, .inl ⟨by simp only [mfind, HF.out]; rw [if_pos (.inl hA)], rfl⟩⟩
    · have hA' : decide ((x.A.bytes.length : Int) < p % 4294967296) = false := by simpa using hA
      by_cases hB : (x.A.bytes.length : Int) - p % 4294967296 < s
      · go_wp2_with fail
        go_returns
        exact ⟨rfl, .inl ⟨by simp only [mfind, HF.out]; rw [if_pos (.inr hB)], rfl⟩⟩
      · go_wp2_with fail
        go_returns
        exact ⟨rfl, .inr ⟨i, x, HX.out, HXN.out, by simp only [mfind, HF.out]; rw [if_neg (fun h => by omega)], rfl⟩⟩
end Go.Proofs.Ytjimmbcihcmfoaa
