/- What the claim leans on: Ref · RefA · RefC. -/
import Derived.Test.YtppefchjoodgnaaGreatPN03
namespace Go.Proofs.YtppefchjoodgnaaGreat
open Go.RowKit
set_option linter.unusedVariables false
set_option linter.unusedSimpArgs false
structure RR where
 n : Int
 ba : Option Addr
 bc : Nat
 pa : Option Addr
 pc : Nat
 A : Ar
def RR.bv (x : RR) : Value := .slice x.ba x.A.bytes.length x.bc
def RR.pv (x : RR) : Value := .slice x.pa x.A.put.length x.pc
def RR.enc (x : RR) : List Value := [.int .i64 x.n, x.bv, x.pv, .bool x.A.fixed]
theorem enc_rr : Enc 4 RR.enc := ⟨fun _ => rfl, fun x u hu => by
 simp only [RR.enc, List.mem_cons, List.not_mem_nil, or_false] at hu
 rcases hu with rfl | rfl | rfl | rfl <;> rfl⟩
def RR.blocks (x : RR) : List Nat := x.bv.ownBlock.toList ++ x.pv.ownBlock.toList
abbrev encB : Int → List Value := fun x => [Value.int .u8 x]
abbrev encP : Bool → List Value := fun x => [Value.bool (!x)]
theorem enc_p : Enc 1 encP := ⟨fun _ => rfl, fun x u hu => by simp at hu; subst hu; rfl⟩
structure RefAt (w : World) (base b : Nat) (lv : Value) (L : List RR) : Prop where
 head : w.heap[b]? = some (.cells #[lv] 83 (0, 0))
 hb : base ≤ b
 list : Own w base 119 4 RR.enc lv L
 bytes : ∀ x ∈ L, Own w base 5 1 encB x.bv x.A.bytes
 put : ∀ x ∈ L, Own w base 4 1 encP x.pv x.A.put
 apart : (b :: (lv.ownBlock.toList ++ L.flatMap RR.blocks)).Nodup
 ok : ∀ x ∈ L, x.A.put.length = x.A.bytes.length ∧ x.A.bytes.length ≤ 1024 ∧ (∀ q ∈ x.A.bytes, 0 ≤ q ∧ q ≤ 255) ∧ 1 ≤ x.n ∧ x.n ≤ 2147483647
 uniq : (L.map (·.n)).Nodup
def rfoot (b : Nat) (lv : Value) (L : List RR) : List Nat := b :: (lv.ownBlock.toList ++ L.flatMap RR.blocks)
def viewR (L : List RR) : Areas := L.map fun x => (x.n, x.A)
theorem RefAt.keep {F : List Nat} {w w' : World} {base b : Nat} {lv : Value} {L : List RR} (h : RefAt w base b lv L) (k : Keep F w w') (hF : ∀ x ∈ rfoot b lv L, x ∉ F) : RefAt w' base b lv L := by
 refine ⟨k.obj h.head (hF _ (by simp [rfoot])), h.hb, h.list.keep k (fun j hj => hF j (by simp [rfoot, hj])), fun x hx => (h.bytes x hx).keep k (fun j hj => hF j ?_), fun x hx => (h.put x hx).keep k (fun j hj => hF j ?_), h.apart, h.ok, h.uniq⟩
 all_goals
  simp only [rfoot, List.mem_cons, List.mem_append, List.mem_flatMap]
  exact .inr (.inr ⟨x, hx, by simp [RR.blocks, hj]⟩)
theorem RefAt.ext {w w' : World} {base b : Nat} {lv : Value} {L : List RR} (h : RefAt w base b lv L) (k : Ext w w') : RefAt w' base b lv L :=
 h.keep (F := []) (Keep.of_ext k) (fun _ _ => by simp)
theorem RefAt.lt {w : World} {base b : Nat} {lv : Value} {L : List RR} (h : RefAt w base b lv L) : ∀ x ∈ rfoot b lv L, base ≤ x ∧ x < w.heap.size := by
 intro x hx
 simp only [rfoot, List.mem_cons, List.mem_append, List.mem_flatMap, Option.mem_toList] at hx
 rcases hx with rfl | hx | ⟨y, hy, hx⟩
 ·exact ⟨h.hb, heap_lt h.head⟩
 ·exact h.list.lt hx
 ·simp only [RR.blocks, List.mem_append, Option.mem_toList] at hx
  rcases hx with hx | hx
  ·exact (h.bytes y hy).lt hx
  ·exact (h.put y hy).lt hx
theorem lookup_viewR (L : List RR) (n : Int) : ((viewR L).lookup n = none ∧ ∀ x ∈ L, (x.n == n) = false) ∨
  ∃ (i : Nat) (x : RR), L[i]? = some x ∧ x.n = n ∧ (viewR L).lookup n = some x.A ∧ ∀ (j : Nat) (y : RR), j < i → L[j]? = some y → (y.n == n) = false := by
 induction L with
 | nil => left; simp [viewR]
 | cons y L ih =>
  by_cases h : n = y.n
  ·right
   exact ⟨0, y, rfl, h.symm, by simp [viewR, List.lookup, h], fun j _ hj => by omega⟩
  ·have hb : (n == y.n) = false := by simpa using h
   have hb' : (y.n == n) = false := by simpa using fun e => h e.symm
   rcases ih with ⟨h1, h2⟩ | ⟨i, x, hx, h1, h2, h3⟩
   ·left
    refine ⟨by simpa [viewR, List.lookup, hb] using h1, fun x hx => ?_⟩
    rcases List.mem_cons.1 hx with rfl | hx
    ·exact hb'
    ·exact h2 x hx
   ·right
    refine ⟨i + 1, x, by simpa using hx, h1, by simpa [viewR, List.lookup, hb] using h2, fun j z hj hz => ?_⟩
    cases j with
    | zero => simp at hz; subst hz; exact hb'
    | succ j => exact h3 j z (by omega) (by simpa using hz)
theorem el_area : El Tryz.prog 81 119 4 64 (.agg #[.int .i64 0, .slice none 0 0, .slice none 0 0, .bool false]) := ⟨Tryz.underlying81, by kernel_rfl, rfl, by decide, fun _ => by kernel_rfl⟩
theorem ref_at (a o : Int) (w : World) : Calls Tryz.prog 37 #[.int .i64 a, .int .i64 o] w fun e w' => e = .returned (.int .u64 (mat a o)) ∧ w' = w := by
 go_enter Tryz.func37, Tryz.ntmps37
 go_wp2
 go_returns
 exact ⟨ret_u64 (by simp only [IntKind.wrap_u64, mat]; omega), rfl⟩
theorem ref_fits (n : Int) (w : World) : Calls Tryz.prog 149 #[.int .i64 n] w fun e w' => e = .returned (.bool (sized n)) ∧ w' = w := by
 rcases sized_cases n with rfl | rfl | rfl | rfl | ⟨h1, h2, h3, h4⟩
 all_goals
  go_enter Tryz.func149, Tryz.ntmps149
  go_wp2
  go_returns
  exact ⟨ret_bool (by simp [sized, *]), rfl⟩
theorem area_cells {w : World} {v : Value} {L : List RR} (R : Rd w 4 RR.enc v L) {i : Nat} {x : RR} (hx : L[i]? = some x) :
  w.cell? (elt v (i * 4)) = some (.int .i64 x.n) ∧ w.cell? ⟨(elt v (i * 4)).block, (elt v (i * 4)).off + 1, none⟩ = some x.bv ∧ w.cell? ⟨(elt v (i * 4)).block, (elt v (i * 4)).off + 2, none⟩ = some x.pv ∧ w.cell? ⟨(elt v (i * 4)).block, (elt v (i * 4)).off + 3, none⟩ = some (.bool x.A.fixed) := by
 have E := R.elt_add hx
 have F : ∀ (p : Addr) (j : Nat), j ≠ 0 → (⟨p.block, p.off + j, none⟩ : Addr) = p.add j := fun p j h => by simp [Addr.add, h]
 rw [F _ 1 (by decide), F _ 2 (by decide), F _ 3 (by decide), E, E, E]
 exact ⟨R.cell hx (j := 0) rfl, R.cell hx (j := 1) rfl, R.cell hx (j := 2) rfl, R.cell hx (j := 3) rfl⟩
theorem RefAt.cells {w : World} {base b : Nat} {v : Value} {L : List RR} (h : RefAt w base b v L) {i : Nat} {x : RR} (hx : L[i]? = some x) :
  w.cell? (elt v (i * 4)) = some (.int .i64 x.n) ∧ w.cell? ⟨(elt v (i * 4)).block, (elt v (i * 4)).off + 1, none⟩ = some x.bv ∧ w.cell? ⟨(elt v (i * 4)).block, (elt v (i * 4)).off + 2, none⟩ = some x.pv ∧ w.cell? ⟨(elt v (i * 4)).block, (elt v (i * 4)).off + 3, none⟩ = some (.bool x.A.fixed) := area_cells (h.list.rd enc_rr) hx
theorem RefAt.rec_apart {w : World} {base b : Nat} {lv : Value} {L : List RR} (h : RefAt w base b lv L) {x : RR} (hx : x ∈ L) : b ∉ RR.blocks x ∧ (∀ j, lv.ownBlock = some j → j ∉ RR.blocks x) ∧ (RR.blocks x).Nodup := by
 have h0 := List.nodup_cons.1 h.apart
 have h1 := List.nodup_append.1 h0.2
 have hm : ∀ j ∈ RR.blocks x, j ∈ L.flatMap RR.blocks := fun j hj => List.mem_flatMap.2 ⟨x, hx, hj⟩
 exact ⟨fun hb => h0.1 (List.mem_append_right _ (hm _ hb)), fun j hj hb => h1.2.2 j (by simpa using hj) j (hm _ hb) rfl, (List.pairwise_flatMap.1 h1.2.1).1 x hx⟩
theorem RefAt.other {w : World} {base b : Nat} {lv : Value} {L : List RR} (h : RefAt w base b lv L) {x y : RR} (hx : x ∈ L) (hy : y ∈ L) (hne : x ≠ y) {k : Nat} (hk : k ∈ RR.blocks x) : k ∉ RR.blocks y := by
 intro hk'
 have h2 := (List.pairwise_flatMap.1 (List.nodup_append.1 (List.nodup_cons.1 h.apart).2).2.1).2
 exact pw_of (R := fun a b => ∀ x ∈ RR.blocks a, ∀ y ∈ RR.blocks b, x ≠ y) (fun a b hab u hu v hv e => hab v hv u hu e.symm) h2 hx hy hne k hk k hk' rfl
theorem uniqR_eq {L : List RR} (h : (L.map (·.n)).Nodup) {x y : RR} (hx : x ∈ L) (hy : y ∈ L) (e : x.n = y.n) : x = y := by
 induction L with
 | nil => cases hx
 | cons z L ih =>
  simp only [List.map_cons, List.nodup_cons, List.mem_map, not_exists, not_and] at h
  cases hx with
  | head => cases hy with
   | head => rfl
   | tail _ hy => exact absurd e.symm (h.1 y hy)
  | tail _ hx => cases hy with
   | head => exact absurd e (h.1 x hx)
   | tail _ hy => exact ih h.2 hx hy
theorem fm_congr {α β : Type} {f g : α → List β} : ∀ {l : List α}, (∀ x ∈ l, f x = g x) → l.flatMap f = l.flatMap g
 | [], _ => rfl
 | x :: l, h => by rw [List.flatMap_cons, List.flatMap_cons, h x List.mem_cons_self, fm_congr fun y hy => h y (List.mem_cons_of_mem _ hy)]
def updRR (L : List RR) (x : RR) (A : Ar) : List RR := L.map fun y => if y.n == x.n then { y with A := A } else y
theorem viewR_upd (L : List RR) (x : RR) (A : Ar) : viewR (updRR L x A) = setKey (viewR L) x.n A := by
 simp only [viewR, updRR, setKey, List.map_map]
 apply List.map_congr_left
 intro y _
 by_cases hn : y.n = x.n
 ·simp [hn]
 ·simp [hn]
theorem RefAt.upd {w w' : World} {base b : Nat} {lv : Value} {L : List RR} (h : RefAt w base b lv L) {x : RR} (hx : x ∈ L) (A : Ar) (hf : A.fixed = x.A.fixed) (hl : A.bytes.length = x.A.bytes.length) (hp : A.put.length = x.A.put.length) (hu : ∀ q ∈ A.bytes, 0 ≤ q ∧ q ≤ 255)
  (k : Keep (RR.blocks x) w w') (HG : Own w' base 5 1 encB x.bv A.bytes) (HP : Own w' base 4 1 encP x.pv A.put) :
  RefAt w' base b lv (updRR L x A) ∧ rfoot b lv (updRR L x A) = rfoot b lv L := by
 have hE : ∀ y ∈ L, RR.enc (if y.n == x.n then { y with A := A } else y) = RR.enc y ∧ RR.blocks (if y.n == x.n then { y with A := A } else y) = RR.blocks y ∧ (if y.n == x.n then { y with A := A } else y).n = y.n := by
  intro y hy
  by_cases hn : y.n == x.n
  ·have e : y = x := uniqR_eq h.uniq hy hx (by simpa using hn)
   subst e
   simp only [hn, if_true, and_true]
   refine ⟨?_, ?_⟩
   ·simp only [RR.enc, RR.bv, RR.pv, hf, hl, hp]
   ·simp only [RR.blocks, RR.bv, RR.pv, hl, hp]
  ·simp only [hn, Bool.false_eq_true, if_false, and_self]
 have e1 : (updRR L x A).flatMap RR.enc = L.flatMap RR.enc := by
  rw [updRR, List.flatMap_map]
  exact fm_congr fun y hy => (hE y hy).1
 have e2 : (updRR L x A).flatMap RR.blocks = L.flatMap RR.blocks := by
  rw [updRR, List.flatMap_map]
  exact fm_congr fun y hy => (hE y hy).2.1
 have e3 : (updRR L x A).map (·.n) = L.map (·.n) := by
  rw [updRR, List.map_map]
  exact List.map_congr_left fun y hy => (hE y hy).2.2
 have e4 : (updRR L x A).length = L.length := by simp [updRR]
 have ha := h.rec_apart hx
 refine ⟨⟨k.obj h.head ha.1, h.hb, ?_, ?_, ?_, by rw [e2]; exact h.apart, ?_, by rw [e3]; exact h.uniq⟩, by simp only [rfoot, e2]⟩
 ·show World.ownsRow _ _ _ _ _ _ _
  rw [e1, e4]
  exact h.list.keep k ha.2.1
 ·intro y' hy'
  obtain ⟨y, hy, rfl⟩ := List.mem_map.1 hy'
  by_cases hn : y.n == x.n
  ·have e : y = x := uniqR_eq h.uniq hy hx (by simpa using hn)
   subst e
   simp only [hn, if_true]
   simp only [RR.bv, hl] at HG ⊢
   exact HG
  ·have hne : y ≠ x := fun e => hn (by rw [e]; simp)
   simp only [hn, Bool.false_eq_true, if_false]
   exact (h.bytes y hy).keep k (fun j hj => h.other hy hx hne (by simp [RR.blocks, hj]))
 ·intro y' hy'
  obtain ⟨y, hy, rfl⟩ := List.mem_map.1 hy'
  by_cases hn : y.n == x.n
  ·have e : y = x := uniqR_eq h.uniq hy hx (by simpa using hn)
   subst e
   simp only [hn, if_true]
   simp only [RR.pv, hp] at HP ⊢
   exact HP
  ·have hne : y ≠ x := fun e => hn (by rw [e]; simp)
   simp only [hn, Bool.false_eq_true, if_false]
   exact (h.put y hy).keep k (fun j hj => h.other hy hx hne (by simp [RR.blocks, hj]))
 ·intro y' hy'
  obtain ⟨y, hy, rfl⟩ := List.mem_map.1 hy'
  have := h.ok y hy
  by_cases hn : y.n == x.n
  ·have e : y = x := uniqR_eq h.uniq hy hx (by simpa using hn)
   subst e
   simp only [hn, if_true]
   exact ⟨by rw [hl, hp]; exact this.1, by rw [hl]; exact this.2.1, hu, this.2.2.2⟩
  ·simpa only [hn, Bool.false_eq_true, if_false] using this
def FindAns (L : List RR) (n : Int) (w : World) (e : Ending) (w' : World) : Prop :=
 w' = w ∧ (((viewR L).lookup n = none ∧ e = .returned (.int .i64 (-1))) ∨ ∃ (i : Nat) (x : RR), L[i]? = some x ∧ x.n = n ∧ (viewR L).lookup n = some x.A ∧ e = .returned (.int .i64 (i : Nat)))
set_option maxHeartbeats 400000 in
theorem ref_find (base b : Nat) (lv : Value) (L : List RR) (k : Int) (w : World) (h : RefAt w base b lv L) :
  Calls Tryz.prog 61 #[.pointer (some ⟨b, 0, none⟩), .int .i64 k] w (FindAns L k w) := by
 obtain ⟨a, n, c, rfl, hn, hN⟩ := (h.list.rd enc_rr).val
 have RL := η (h.list.rd enc_rr)
 have hb := cO (i := 0) h.head
 simp only [List.getElem?_toArray, List.getElem?_cons_zero] at hb
 have HC := η (lookup_viewR L k)
 have HR := η h
 clear h
 go_enter Tryz.func61, Tryz.ntmps61
 go_wp2_with fail
 go_loopw [5] (fun i wr => ∃ j : Nat, j ≤ n ∧ i = .int .i64 j ∧ wr = w ∧ Hid (∀ (q : Nat) (y : RR), q < j → L[q]? = some y → (y.n == k) = false)) (fun i _ => n - (intOf i).toNat)
 case atStart => exact ⟨0, Nat.zero_le _, rfl, rfl, η fun q y hq => absurd hq (Nat.not_lt_zero _)⟩
 case round =>
  obtain ⟨j, hj, rfl, rfl, HJ⟩ := hrel
  by_cases hlt : (j : Int) < n
  ·obtain ⟨x, hx⟩ := at_of_lt (xs := L) (k := j) (by have := hN.out; omega)
   have c0 := (HR.out.cells hx).1
   have ix := fun W => RL.out.run_at (P := Tryz.prog) el_area.under el_area.size .i64 (j : Int) (by omega) (by omega) W
   simp only [Int.toNat_natCast] at ix
   have HX := η hx
   clear hx
   cases hk : (x.n == k) with
   | true =>
    have hk' : x.n = k := by simpa using hk
    go_wp2_with fail
    go_returns
    refine ⟨rfl, .inr ?_⟩
    rcases HC.out with ⟨h1, h2⟩ | ⟨i, y, hy, h1, h2, h3⟩
    ·rw [h2 x (List.mem_of_getElem? HX.out)] at hk; cases hk
    ·have e : i = j := by
      rcases Nat.lt_trichotomy i j with h | h | h
      ·have := HJ.out i y h hy
       rw [h1] at this; simp at this
      ·exact h
      ·have := h3 j x h HX.out
       rw [hk'] at this; simp at this
     subst e
     exact ⟨i, y, hy, h1, h2, rfl⟩
   | false =>
    have HK := η hk
    go_wp2_with fail
    go_roundw
    case rel =>
     refine ⟨j + 1, by omega, by go_num, trivial, η fun q y hq hy => ?_⟩
     rcases Nat.lt_succ_iff_lt_or_eq.1 hq with hq | rfl
     ·exact HJ.out q y hq hy
     ·rw [HX.out] at hy; injection hy with e; subst e; exact HK.out
    case measure => simp [intOf]; omega
  ·have hjn : j = L.length := by have := hN.out; omega
   have HJN := η hjn
   clear hjn
   go_wp2_with fail
   go_returns
   refine ⟨rfl, .inl ⟨?_, rfl⟩⟩
   rcases HC.out with ⟨h1, h2⟩ | ⟨i, y, hy, h1, h2, h3⟩
   ·exact h1
   ·have := HJ.out i y (by rw [HJN.out]; exact (List.getElem?_eq_some_iff.1 hy).1) hy
    rw [h1] at this; simp at this
def WhereAns (L : List RR) (p s : Int) (w : World) (e : Ending) (w' : World) : Prop :=
 w' = w ∧ ((mfind (viewR L) p s = none ∧ e = .returned (.tuple #[.int .i64 (-1), .int .i64 0])) ∨
  ∃ (i : Nat) (x : RR), L[i]? = some x ∧ x.n = p / 4294967296 ∧ mfind (viewR L) p s = some (x.A, (p % 4294967296).toNat) ∧ e = .returned (.tuple #[.int .i64 (i : Nat), .int .i64 (p % 4294967296)]))
set_option maxHeartbeats 1000000 in
theorem ref_where (base b : Nat) (lv : Value) (L : List RR) (p s : Int) (w : World) (h : RefAt w base b lv L) (hp : 0 ≤ p) (hs : 0 ≤ s) (hs1 : s ≤ 1024) (H : Hid (p ≤ 18446744073709551615)) :
  Calls Tryz.prog 150 #[.pointer (some ⟨b, 0, none⟩), .int .u64 p, .int .i64 s] w (WhereAns L p s w) := by
 have hq0 : 0 ≤ p / 4294967296 := by omega
 have hq1 : p / 4294967296 ≤ 4294967295 := by have := H.out; omega
 have ho0 : 0 ≤ p % 4294967296 := by omega
 have ho1 : p % 4294967296 ≤ 4294967295 := by omega
 obtain ⟨a, n, c, rfl, hn, hN⟩ := (h.list.rd enc_rr).val
 have RL := η (h.list.rd enc_rr)
 have hb := cO (i := 0) h.head
 simp only [List.getElem?_toArray, List.getElem?_cons_zero] at hb
 have HR := η h
 clear h
 go_enter Tryz.func150, Tryz.ntmps150
 go_wp2_with fail
 refine (ref_find base b _ L (p / 4294967296) _ HR.out).mono ?_
 rintro e w1 ⟨rfl, ⟨hf, rfl⟩ | ⟨i, x, hx, hxn, hf, rfl⟩⟩
 ·have HF := η hf
  clear hf
  go_wp2_with fail
  go_returns
  exact ⟨rfl, .inl ⟨by simp [mfind, HF.out], rfl⟩⟩
 ·have c1 := (HR.out.cells hx).2.1
  have hlt : i < n := by rw [hN.out]; exact (List.getElem?_eq_some_iff.1 hx).1
  have ix := fun W => RL.out.run_at (P := Tryz.prog) el_area.under el_area.size .i64 (i : Int) (by omega) (by omega) W
  simp only [Int.toNat_natCast] at ix
  have HX := η hx
  have HXN := η hxn
  have HF := η hf
  have hsm := (HR.out.ok x (List.mem_of_getElem? hx)).2.1
  rw [RR.bv] at c1
  clear hx hxn hf
  have hi0 : decide ((i : Int) < 0) = false := by simp
  by_cases hA : (x.A.bytes.length : Int) < p % 4294967296
  ·go_wp2_with fail
   go_returns
   exact ⟨rfl, .inl ⟨by simp only [mfind, HF.out]; rw [if_pos (.inl hA)], rfl⟩⟩
  ·have hA' : decide ((x.A.bytes.length : Int) < p % 4294967296) = false := by simpa using hA
   by_cases hB : (x.A.bytes.length : Int) - p % 4294967296 < s
   ·go_wp2_with fail
    go_returns
    exact ⟨rfl, .inl ⟨by simp only [mfind, HF.out]; rw [if_pos (.inr hB)], rfl⟩⟩
   ·go_wp2_with fail
    go_returns
    exact ⟨rfl, .inr ⟨i, x, HX.out, HXN.out, by simp only [mfind, HF.out]; rw [if_neg (fun h => by omega)], rfl⟩⟩
theorem RefAt.open {w : World} {base b : Nat} {lv : Value} {L : List RR} (h : RefAt w base b lv L) : ∃ a n c, lv = .slice a n c ∧ n ≤ 9223372036854775807 ∧ Hid (n = L.length) ∧ Hid (Rd w 4 RR.enc (.slice a n c) L) ∧ w.cell? ⟨b, 0, none⟩ = some (.slice a n c) := by
 have R := h.list.rd enc_rr
 obtain ⟨a, n, c, rfl, hn, hN⟩ := R.val
 exact ⟨a, n, c, rfl, hn, hN, η R, cO h.head⟩
theorem RefAt.u8 {w : World} {base b : Nat} {lv : Value} {L : List RR} (h : RefAt w base b lv L) : ∀ q ∈ viewR L, ∀ x ∈ q.2.bytes, 0 ≤ x ∧ x ≤ 255 := by
 intro q hq x hx
 obtain ⟨y, hy, rfl⟩ := List.mem_map.1 hq
 exact (h.ok y hy).2.2.1 x hx
def RAreaAns (M : Areas) (n : Int) (w : World) (e : Ending) (w' : World) : Prop :=
 ∃ v, e = .returned (.tuple #[v, .bool (marea M n).2]) ∧ Rd w 1 encB v (marea M n).1 ∧ w' = w
set_option maxHeartbeats 400000 in
theorem ref_area (base b : Nat) (lv : Value) (L : List RR) (k : Int) (w : World) (h : RefAt w base b lv L) :
  Calls Tryz.prog 72 #[.pointer (some ⟨b, 0, none⟩), .int .i64 k] w (RAreaAns (viewR L) k w) := by
 obtain ⟨a, n, c, rfl, hn, hN, RL, hb⟩ := h.open
 have HR := η h
 clear h
 go_enter Tryz.func72, Tryz.ntmps72
 go_wp2_with fail
 refine (ref_find base b _ L k _ HR.out).mono ?_
 rintro e w1 ⟨rfl, ⟨hf, rfl⟩ | ⟨i, x, hx, hxn, hf, rfl⟩⟩
 ·have HF := η hf
  clear hf
  go_wp2_with fail
  go_returns
  exact ⟨.slice none 0 0, by simp [marea, HF.out], by simp only [marea, HF.out]; exact Rd.nil _ _ _, rfl⟩
 ·have c1 := (HR.out.cells hx).2.1
  have hlt : i < n := by rw [hN.out]; exact (List.getElem?_eq_some_iff.1 hx).1
  have ix := fun W => RL.out.run_at (P := Tryz.prog) el_area.under el_area.size .i64 (i : Int) (by omega) (by omega) W
  simp only [Int.toNat_natCast] at ix
  have HX := η hx
  have HF := η hf
  rw [RR.bv] at c1
  clear hx hxn hf
  have hi0 : decide ((i : Int) < 0) = false := by simp
  go_wp2_with fail
  go_returns
  refine ⟨x.bv, by simp [marea, HF.out, RR.bv], by simp only [marea, HF.out]; exact (HR.out.bytes x (List.mem_of_getElem? HX.out)).rd (enc_int _), rfl⟩
def RStoreAns (base b : Nat) (lv : Value) (L : List RR) (p s n : Int) (w : World) (e : Ending) (w' : World) : Prop :=
 e = .returned (.int .i64 (mstore (viewR L) p s n).2) ∧ Keep (rfoot b lv L) w w' ∧ ∃ L', RefAt w' base b lv L' ∧ viewR L' = (mstore (viewR L) p s n).1 ∧ rfoot b lv L' = rfoot b lv L
theorem rstore_step {wr : World} {base : Nat} {x : RR} {o k : Nat} {N : Int} (hk : o + k < x.A.bytes.length) (hpl : x.A.put.length = x.A.bytes.length) (hnd : (RR.blocks x).Nodup)
  (HG : Own wr base 5 1 encB x.bv (over x.A.bytes o (bytesOf N k))) (HP : Own wr base 4 1 encP x.pv (over x.A.put o ((bytesOf N k).map fun _ => true))) :
  ∃ y z, wr.cell? (elt x.bv (o + k)) = some (.int .u8 y) ∧ wr.frozen? (elt x.bv (o + k)) = false ∧ (∀ u, (wr.setCell (elt x.bv (o + k)) u).cell? (elt x.pv (o + k)) = some (.bool z)) ∧ (∀ u, (wr.setCell (elt x.bv (o + k)) u).frozen? (elt x.pv (o + k)) = false) ∧
   (elt x.bv (o + k)).block ∈ RR.blocks x ∧ (elt x.pv (o + k)).block ∈ RR.blocks x ∧
   Own ((wr.setCell (elt x.bv (o + k)) (.int .u8 (N / 256 ^ k % 256))).setCell (elt x.pv (o + k)) (.bool false)) base 5 1 encB x.bv (over x.A.bytes o (bytesOf N (k + 1))) ∧
   Own ((wr.setCell (elt x.bv (o + k)) (.int .u8 (N / 256 ^ k % 256))).setCell (elt x.pv (o + k)) (.bool false)) base 4 1 encP x.pv (over x.A.put o ((bytesOf N (k + 1)).map fun _ => true)) := by
 have hl := bytesOf_len N k
 obtain ⟨y, hy⟩ := at_of_lt (xs := over x.A.bytes o (bytesOf N k)) (k := o + k) (by rw [over_len _ _ _ (by omega)]; exact hk)
 obtain ⟨z, hz⟩ := at_of_lt (xs := over x.A.put o ((bytesOf N k).map fun _ => true)) (k := o + k) (by rw [over_len _ _ _ (by rw [List.length_map]; omega)]; omega)
 obtain ⟨a1, a2, a3, a4, a5⟩ := HG.at hy
 obtain ⟨b1, b2, b3, b4, b5⟩ := HP.at hz
 have m1 : (elt x.bv (o + k)).block ∈ RR.blocks x := by simp [RR.blocks, a3]
 have m2 : (elt x.pv (o + k)).block ∈ RR.blocks x := by simp [RR.blocks, b3]
 have hne : (elt x.bv (o + k)).block ≠ (elt x.pv (o + k)).block := by
  simp only [RR.blocks, a3, b3] at hnd
  simpa using hnd
 have hP1 : ∀ u, Own (wr.setCell (elt x.bv (o + k)) u) base 4 1 encP x.pv (over x.A.put o ((bytesOf N k).map fun _ => true)) := fun u => HP.keep ((Keep.rfl' [(elt x.bv (o + k)).block] wr).setCell (by simp) u) (fun j hj => by
  rw [b3] at hj; injection hj with hj; subst hj; simpa using fun e => hne e.symm)
 refine ⟨y, !z, a1, a2, fun u => ((hP1 u).at hz).1, fun u => ((hP1 u).at hz).2.1, m1, m2, ?_, ?_⟩
 ·have h1 := (a5 (N / 256 ^ k % 256)).1
  rw [bytesOf_succ, over_snoc _ _ _ _ (by omega), hl]
  exact h1.keep ((Keep.rfl' [(elt x.pv (o + k)).block] _).setCell (by simp) _) (fun j hj => by
   rw [a3] at hj; injection hj with hj; subst hj; simpa using hne)
 ·have h1 := (((hP1 (.int .u8 (N / 256 ^ k % 256))).at hz).2.2.2.2 true).1
  rw [bytesOf_succ, List.map_append, List.map_singleton, over_snoc _ _ _ _ (by rw [List.length_map]; omega), List.length_map, hl]
  exact h1
set_option maxHeartbeats 1000000 in
theorem ref_store (base b : Nat) (lv : Value) (L : List RR) (p s n : Int) (w : World) (h : RefAt w base b lv L) (hp : 0 ≤ p) (H : Hid (p ≤ 18446744073709551615)) (hn : 0 ≤ n) (HN : Hid (n ≤ 18446744073709551615)) :
  Calls Tryz.prog 109 #[.pointer (some ⟨b, 0, none⟩), .int .u64 p, .int .i64 s, .int .u64 n] w (RStoreAns base b lv L p s n w) := by
 obtain ⟨a, m, c, rfl, hm, hM, RL, hb⟩ := h.open
 have HM := η h
 clear h
 cases hz : sized s with
 | false =>
  have HZ := η hz
  clear hz
  go_enter Tryz.func109, Tryz.ntmps109
  go_wp2_with fail
  refine (ref_fits s _).mono ?_
  rintro e w1 ⟨rfl, rfl⟩
  rw [HZ.out]
  go_wp2_with fail
  go_returns
  exact ⟨by simp [mstore, HZ.out], Keep.rfl' _ _, L, HM.out, by simp [mstore, HZ.out], rfl⟩
 | true =>
  have HZ := η hz
  have hs8 : 0 ≤ s ∧ s ≤ 8 := by
   have := hz
   simp only [sized, Bool.or_eq_true, beq_iff_eq] at this
   omega
  have hs0 := hs8.1
  have hs1 := hs8.2
  clear hz
  go_enter Tryz.func109, Tryz.ntmps109
  go_wp2_with fail
  refine (ref_fits s _).mono ?_
  rintro e w1 ⟨rfl, rfl⟩
  rw [HZ.out]
  go_wp2_with fail
  refine (ref_where base b _ L p s _ HM.out hp hs8.1 (by omega) H).mono ?_
  rintro e w1 ⟨rfl, ⟨hf, rfl⟩ | ⟨i, x, hx, hxn, hf, rfl⟩⟩
  ·have HF := η hf
   clear hf
   go_wp2_with fail
   go_returns
   exact ⟨by simp [mstore, HZ.out, HF.out], Keep.rfl' _ _, L, HM.out, by simp [mstore, HZ.out, HF.out], rfl⟩
  ·have HF := η hf
   have c3 := (HM.out.cells hx).2.2.2
   have hlt : i < m := by rw [hM.out]; exact (List.getElem?_eq_some_iff.1 hx).1
   have ix := fun W => RL.out.run_at (P := Tryz.prog) el_area.under el_area.size .i64 (i : Int) (by omega) (by omega) W
   simp only [Int.toNat_natCast] at ix
   obtain ⟨hle, hoo⟩ := find_le hp hs8.1 hf
   obtain ⟨o, ho⟩ : ∃ o : Nat, (p % 4294967296).toNat = o := ⟨_, rfl⟩
   rw [ho] at hle hoo HF
   rw [← hoo]
   have hmem := List.mem_of_getElem? hx
   obtain ⟨hpl, hsm, hu8, _⟩ := HM.out.ok x hmem
   have ha := HM.out.rec_apart hmem
   have HX := η hx
   have HXN := η hxn
   have HPL := η hpl
   have HA := η ha
   clear ho hoo hf hx hxn hpl ha
   have hi0 : decide ((i : Int) < 0) = false := by simp
   cases hfx : x.A.fixed with
   | true =>
    have HFX := η hfx
    rw [hfx] at c3
    clear hfx
    go_wp2_with fail
    go_returns
    exact ⟨by simp [mstore, HZ.out, HF.out, HFX.out], Keep.rfl' _ _, L, HM.out, by simp [mstore, HZ.out, HF.out, HFX.out], rfl⟩
   | false =>
    have HFX := η hfx
    rw [hfx] at c3
    clear hfx
    go_wp2_with fail
    go_loopw [11, 3] (fun t v wr => ∃ k : Nat, k ≤ s.toNat ∧ t = .int .i64 k ∧ v = .int .u64 (n / 256 ^ k) ∧ Keep (RR.blocks x) w1 wr ∧ Hid (Own wr base 5 1 encB x.bv (over x.A.bytes o (bytesOf n k))) ∧ Hid (Own wr base 4 1 encP x.pv (over x.A.put o ((bytesOf n k).map fun _ => true)))) (fun t _ _ => s.toNat - (intOf t).toNat)
    case atStart => exact ⟨0, Nat.zero_le _, rfl, by simp, Keep.rfl' _ _, by simp only [bytesOf, over_nil]; exact η (HM.out.bytes x hmem), by simp only [bytesOf, List.map_nil, over_nil]; exact η (HM.out.put x hmem)⟩
    case round =>
     obtain ⟨k, hk, rfl, rfl, hK, HG, HP⟩ := hrel
     have hbk := cO (i := 0) (hK.obj HM.out.head HA.out.1)
     have hLk := HM.out.list.keep hK HA.out.2.1
     simp only [List.getElem?_toArray, List.getElem?_cons_zero] at hbk
     obtain ⟨-, e1, e2, -⟩ := area_cells (hLk.rd enc_rr) HX.out
     by_cases hlt' : (k : Int) < s
     ·obtain ⟨y, z, f1, f2, f3, f4, g1, g2, H1, H2⟩ := rstore_step (base := base) (o := o) (k := k) (N := n) (by omega) HPL.out HA.out.2.2 HG.out HP.out
      have f5 : ∀ u, (wr.setCell (elt x.bv (o + k)) u).cell? ⟨b, 0, none⟩ = some (.slice a m c) := fun u => by
       have := cO (i := 0) ((hK.setCell g1 u).obj HM.out.head HA.out.1)
       simpa only [List.getElem?_toArray, List.getElem?_cons_zero] using this
      have f6 : ∀ u, (wr.setCell (elt x.bv (o + k)) u).cell? ⟨(elt (.slice a m c) (i * 4)).block, (elt (.slice a m c) (i * 4)).off + 2, none⟩ = some x.pv := fun u =>
       (area_cells ((HM.out.list.keep (hK.setCell g1 u) HA.out.2.1).rd enc_rr) HX.out).2.2.1
      have hK2 := (hK.setCell g1 (.int .u8 (n / 256 ^ k % 256))).setCell g2 (.bool false)
      have RB := HG.out.rd (enc_int _)
      have RP := HP.out.rd enc_p
      obtain ⟨t, ht⟩ : ∃ t, n / 256 ^ k = t := ⟨_, rfl⟩
      have hp0 : (0 : Int) < 256 ^ k := Int.pow_pos (by decide)
      have ht0 : 0 ≤ t := by rw [← ht]; exact Int.ediv_nonneg hn (Int.le_of_lt hp0)
      have ht1 : t ≤ 18446744073709551615 := by
       rw [← ht]
       exact Int.le_trans (Int.ediv_le_self _ hn) HN.out
      have hts : n / 256 ^ (k + 1) = t / 256 := by rw [← ht, Int.ediv_ediv_of_nonneg (Int.le_of_lt hp0), Int.pow_succ]
      rw [ht] at H1 H2 hK2 ⊢
      have HTS := η hts
      have H1' := η H1
      have H2' := η H2
      have HK2 := η hK2
      clear H1 H2 c3 hb hLk hK hK2 HN hts ht hp0 HG HP g1 g2
      rw [RR.bv] at e1 f1 f2 f3 f4 f5 f6 H1' H2' HK2 RB
      rw [RR.pv] at e2 f3 f4 f6 H1' H2' HK2 RP
      rw [HPL.out] at e2 f3 f4 f6 H1' H2' HK2 RP
      have ib := fun W => RB.run_at (P := Tryz.prog) el_u8.under el_u8.size .i64 ((o : Int) + k) (by omega) (by omega) W
      have ip := fun W => RP.run_at (P := Tryz.prog) el_bool.under el_bool.size .i64 ((o : Int) + k) (by omega) (by omega) W
      simp only [Nat.mul_one, Nat.add_zero, show ((o : Int) + k).toNat = o + k from by omega] at ib ip
      clear RB RP
      go_wp2_with fail
      go_roundw
      case rel =>
       exact ⟨k + 1, by omega, by go_num, by rw [HTS.out], HK2.out, H1', by rw [RR.pv, HPL.out]; exact H2'⟩
      case measure => simp [intOf]; omega
     ·have hks : k = s.toNat := by omega
      have HKS := η hks
      have HKK := η hK
      clear hks c3 hLk hK
      go_wp2_with fail
      go_returns
      have eN := HKS.out
      subst eN
      have hlb := bytesOf_len n s.toNat
      have hu : ∀ q ∈ over x.A.bytes o (bytesOf n s.toNat), 0 ≤ q ∧ q ≤ 255 := by
       intro q hq
       simp only [over, List.mem_append] at hq
       rcases hq with (hq | hq) | hq
       ·exact hu8 q (List.mem_of_mem_take hq)
       ·exact bytesOf_u8 _ _ q hq
       ·exact hu8 q (List.mem_of_mem_drop hq)
      have hup := HM.out.upd hmem (x.A.write o (bytesOf n s.toNat)) rfl (over_len _ _ _ (by omega)) (over_len _ _ _ (by rw [List.length_map, HPL.out]; omega)) hu HKK.out HG.out HP.out
      refine ⟨by simp [mstore, HZ.out, HF.out, HFX.out], HKK.out.mono (fun j hj => .inl ?_), updRR L x (x.A.write o (bytesOf n s.toNat)), hup.1, ?_, hup.2⟩
      ·simp only [rfoot, List.mem_cons, List.mem_append, List.mem_flatMap]
       exact .inr (.inr ⟨x, hmem, hj⟩)
      ·rw [viewR_upd]; simp [mstore, HZ.out, HF.out, HFX.out, HXN.out]
end Go.Proofs.YtppefchjoodgnaaGreat
