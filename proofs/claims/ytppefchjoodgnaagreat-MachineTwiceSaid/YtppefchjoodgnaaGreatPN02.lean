/- What the claim leans on: Mem · MemA · MemB · MemC. -/
import Derived.Test.YtppefchjoodgnaaGreatRows
import Derived.Test.YtppefchjoodgnaaGreatPN01
namespace Go.Proofs.YtppefchjoodgnaaGreat
open Go.RowKit
set_option linter.unusedVariables false
set_option linter.unusedSimpArgs false
structure Ar where
 bytes : List Int
 put : List Bool
 fixed : Bool
abbrev Areas := List (Int × Ar)
def mfind (M : Areas) (at_ size : Int) : Option (Ar × Nat) :=
 match M.lookup (at_ / 4294967296) with
 | none => none
 | some A => if (A.bytes.length : Int) < at_ % 4294967296 ∨ (A.bytes.length : Int) - at_ % 4294967296 < size then none else some (A, (at_ % 4294967296).toNat)
def cutL {α : Type} (l : List α) (o n : Nat) : List α := (l.drop o).take n
def mread (M : Areas) (at_ size : Int) : List Int × Int :=
 if size < 0 ∨ 1024 < size then ([], 1) else
 match mfind M at_ size with
 | none => ([], 80)
 | some (A, o) => if (cutL A.put o size.toNat).contains false then ([], 81) else (cutL A.bytes o size.toNat, 0)
def sized (n : Int) : Bool := n == 1 || n == 2 || n == 4 || n == 8
def le : List Int → Int
 | [] => 0
 | b :: bs => b + 256 * le bs
def bytesOf (n : Int) : Nat → List Int
 | 0 => []
 | k + 1 => n % 256 :: bytesOf (n / 256) k
def mload (M : Areas) (at_ size : Int) : Int × Int :=
 if sized size = true then (le (mread M at_ size).1, (mread M at_ size).2) else (0, 1)
def over {α : Type} (l : List α) (o : Nat) (s : List α) : List α := l.take o ++ s ++ l.drop (o + s.length)
def Ar.write (A : Ar) (o : Nat) (s : List Int) : Ar := { A with bytes := over A.bytes o s, put := over A.put o (s.map fun _ => true) }
def mstore (M : Areas) (at_ size n : Int) : Areas × Int :=
 if sized size = true then
  match mfind M at_ size with
  | none => (M, 80)
  | some (A, o) => if A.fixed = true then (M, 82) else (setKey M (at_ / 4294967296) (A.write o (bytesOf n size.toNat)), 0)
 else (M, 1)
def mmake (M : Areas) (n : Int) (b : List Int) (blank fixed : Bool) : Areas × Int :=
 if (M.lookup n).isSome = true ∨ n < 1 ∨ 2147483647 < n then (M, 1)
 else if 1024 < b.length then (M, 3)
 else (M ++ [(n, ⟨b, b.map fun _ => !blank, fixed⟩)], 0)
def mat (area off : Int) : Int := (area * 4294967296 + off) % 18446744073709551616
structure Rec where
 n : Int
 a : Nat
 g : Nat
 p : Nat
 A : Ar
def Rec.blocks (r : Rec) : List Nat := [r.a, r.g, r.p]
def Rec.pair (r : Rec) : Int × Value := (r.n, .pointer (some ⟨r.a, 0, none⟩))
structure RecAt (w : World) (r : Rec) : Prop where
 area : w.heap[r.a]? = some (.cells #[.slice (some ⟨r.g, 0, none⟩) r.A.bytes.length r.A.bytes.length, .slice (some ⟨r.p, 0, none⟩) r.A.bytes.length r.A.bytes.length, .bool r.A.fixed] 151 (0, 0))
 bytes : w.heap[r.g]? = some (.cells (r.A.bytes.flatMap fun x => [Value.int .u8 x]).toArray 5 (0, 0))
 put : w.heap[r.p]? = some (.cells (r.A.put.flatMap fun x => [Value.bool x]).toArray 4 (0, 0))
 len : r.A.put.length = r.A.bytes.length
 small : r.A.bytes.length ≤ 1024
 u8 : ∀ x ∈ r.A.bytes, 0 ≤ x ∧ x ≤ 255
structure MemAt (w : World) (b r : Nat) (L : List Rec) : Prop where
 head : w.heap[b]? = some (.cells #[.map (some r)] 147 (0, 0))
 map : MapObj w r (ints .i64 (L.map Rec.pair))
 recs : ∀ x ∈ L, RecAt w x
 apart : (b :: r :: L.flatMap Rec.blocks).Nodup
 keys : ∀ x ∈ L, 1 ≤ x.n ∧ x.n ≤ 2147483647
 uniq : (L.map (·.n)).Nodup
def foot (b r : Nat) (L : List Rec) : List Nat := b :: r :: L.flatMap Rec.blocks
def view (L : List Rec) : Areas := L.map fun x => (x.n, x.A)
theorem RecAt.keep {F : List Nat} {w w' : World} {r : Rec} (h : RecAt w r) (k : Keep F w w') (ha : r.a ∉ F) (hg : r.g ∉ F) (hp : r.p ∉ F) : RecAt w' r :=
 ⟨k.obj h.area ha, k.obj h.bytes hg, k.obj h.put hp, h.len, h.small, h.u8⟩
theorem MemAt.keep {F : List Nat} {w w' : World} {b r : Nat} {L : List Rec} (h : MemAt w b r L) (k : Keep F w w') (hF : ∀ x ∈ foot b r L, x ∉ F) : MemAt w' b r L := by
 refine ⟨k.obj h.head (hF _ (by simp [foot])), h.map.keep k (hF _ (by simp [foot])), fun x hx => ?_, h.apart, h.keys, h.uniq⟩
 have hb : ∀ y ∈ Rec.blocks x, y ∉ F := fun y hy => hF y (by simp only [foot, List.mem_cons]; exact .inr (.inr (List.mem_flatMap.2 ⟨x, hx, hy⟩)))
 exact (h.recs x hx).keep k (hb _ (by simp [Rec.blocks])) (hb _ (by simp [Rec.blocks])) (hb _ (by simp [Rec.blocks]))
theorem MemAt.ext {w w' : World} {b r : Nat} {L : List Rec} (h : MemAt w b r L) (k : Ext w w') : MemAt w' b r L :=
 h.keep (F := []) (Keep.of_ext k) (fun _ _ => by simp)
theorem MemAt.lt {w : World} {b r : Nat} {L : List Rec} (h : MemAt w b r L) : ∀ x ∈ foot b r L, x < w.heap.size := by
 intro x hx
 simp only [foot, List.mem_cons, List.mem_flatMap] at hx
 rcases hx with rfl | rfl | ⟨y, hy, hx⟩
 ·exact heap_lt h.head
 ·exact h.map.lt
 ·simp only [Rec.blocks, List.mem_cons, List.not_mem_nil, or_false] at hx
  rcases hx with rfl | rfl | rfl
  ·exact heap_lt (h.recs y hy).area
  ·exact heap_lt (h.recs y hy).bytes
  ·exact heap_lt (h.recs y hy).put
theorem pw_of {α : Type} {R : α → α → Prop} (hs : ∀ a b, R a b → R b a) {L : List α} (h : L.Pairwise R) {x y : α} (hx : x ∈ L) (hy : y ∈ L) (hne : x ≠ y) : R x y := by
 induction h with
 | nil => cases hx
 | cons h1 _ ih =>
  cases hx with
  | head => cases hy with
   | head => exact absurd rfl hne
   | tail _ hy => exact h1 _ hy
  | tail _ hx => cases hy with
   | head => exact hs _ _ (h1 _ hx)
   | tail _ hy => exact ih hx hy
theorem MemAt.rec_apart {w : World} {b r : Nat} {L : List Rec} (h : MemAt w b r L) {x : Rec} (hx : x ∈ L) : x.a ∉ [x.g, x.p] ∧ x.g ≠ x.p := by
 have h1 := (List.nodup_cons.1 (List.nodup_cons.1 h.apart).2).2
 have h2 : (Rec.blocks x).Nodup := (List.pairwise_flatMap.1 h1).1 x hx
 simp only [Rec.blocks, List.nodup_cons, List.mem_cons, List.not_mem_nil, or_false, not_or] at h2 ⊢
 exact ⟨h2.1, h2.2.1⟩
theorem MemAt.other {w : World} {b r : Nat} {L : List Rec} (h : MemAt w b r L) {x y : Rec} (hx : x ∈ L) (hy : y ∈ L) (hne : x ≠ y) {k : Nat} (hk : k ∈ Rec.blocks x) : k ∉ Rec.blocks y ∧ k ≠ b ∧ k ≠ r := by
 have h0 := List.nodup_cons.1 h.apart
 have h1 := List.nodup_cons.1 h0.2
 have hm : k ∈ L.flatMap Rec.blocks := List.mem_flatMap.2 ⟨x, hx, hk⟩
 refine ⟨fun hk' => ?_, fun e => h0.1 (by subst e; exact List.mem_cons_of_mem _ hm), fun e => h1.1 (by subst e; exact hm)⟩
 have h2 := (List.pairwise_flatMap.1 h1.2).2
 exact pw_of (R := fun a b => ∀ x ∈ Rec.blocks a, ∀ y ∈ Rec.blocks b, x ≠ y) (fun a b hab u hu v hv e => hab v hv u hu e.symm) h2 hx hy hne k hk k hk' rfl
theorem uniq_eq {L : List Rec} (h : (L.map (·.n)).Nodup) {x y : Rec} (hx : x ∈ L) (hy : y ∈ L) (e : x.n = y.n) : x = y := by
 induction L with
 | nil => cases hx
 | cons z L ih =>
  simp only [List.map_cons, List.nodup_cons, List.mem_map, not_exists, not_and] at h
  cases hx with
  | head => cases hy with
   | head => rfl
   | tail _ hy => exact absurd e.symm (h.1 y hy)
  | tail _ hx => cases hy with
   | head => exact absurd e (h.1 x hx)
   | tail _ hy => exact ih h.2 hx hy
theorem lookup_view (L : List Rec) (n : Int) : ((L.map Rec.pair).lookup n = none ∧ (view L).lookup n = none) ∨
  ∃ x ∈ L, x.n = n ∧ (L.map Rec.pair).lookup n = some (.pointer (some ⟨x.a, 0, none⟩)) ∧ (view L).lookup n = some x.A := by
 induction L with
 | nil => left; simp [view]
 | cons y L ih =>
  by_cases h : n = y.n
  ·right
   exact ⟨y, List.mem_cons_self, h.symm, by simp [List.lookup, Rec.pair, h], by simp [view, List.lookup, h]⟩
  ·have hb : (n == y.n) = false := by simpa using h
   rcases ih with ⟨h1, h2⟩ | ⟨x, hx, h1, h2, h3⟩
   ·left; exact ⟨by simpa [List.lookup, Rec.pair, hb] using h1, by simpa [view, List.lookup, hb] using h2⟩
   ·right; exact ⟨x, List.mem_cons_of_mem _ hx, h1, by simpa [List.lookup, Rec.pair, hb] using h2, by simpa [view, List.lookup, hb] using h3⟩
def updRec (L : List Rec) (x : Rec) (A : Ar) : List Rec := L.map fun y => if y.n == x.n then { y with A := A } else y
theorem updRec_same (L : List Rec) (x : Rec) (A : Ar) : (updRec L x A).map Rec.pair = L.map Rec.pair ∧ (updRec L x A).flatMap Rec.blocks = L.flatMap Rec.blocks ∧ (updRec L x A).map (·.n) = L.map (·.n) := by
 induction L with
 | nil => exact ⟨rfl, rfl, rfl⟩
 | cons y L ih =>
  obtain ⟨h1, h2, h3⟩ := ih
  have e : updRec (y :: L) x A = (if y.n == x.n then { y with A := A } else y) :: updRec L x A := rfl
  rw [e]
  simp only [List.map_cons, List.flatMap_cons, h1, h2, h3]
  by_cases hn : y.n == x.n <;> simp [hn, Rec.pair, Rec.blocks]
theorem view_upd (L : List Rec) (x : Rec) (A : Ar) : view (updRec L x A) = setKey (view L) x.n A := by
 simp only [view, updRec, setKey, List.map_map]
 apply List.map_congr_left
 intro y _
 by_cases hn : y.n = x.n
 ·simp [hn]
 ·simp [hn]
theorem foot_upd (b r : Nat) (L : List Rec) (x : Rec) (A : Ar) : foot b r (updRec L x A) = foot b r L := by
 simp only [foot, (updRec_same L x A).2.1]
theorem MemAt.upd {w w' : World} {b r : Nat} {L : List Rec} (h : MemAt w b r L) {x : Rec} (hx : x ∈ L) (A : Ar) (hf : A.fixed = x.A.fixed) (hl : A.bytes.length = x.A.bytes.length) (hp : A.put.length = A.bytes.length) (hu : ∀ q ∈ A.bytes, 0 ≤ q ∧ q ≤ 255)
  (k : Keep [x.g, x.p] w w') (HG : w'.heap[x.g]? = some (.cells (A.bytes.flatMap fun x => [Value.int .u8 x]).toArray 5 (0, 0))) (HP : w'.heap[x.p]? = some (.cells (A.put.flatMap fun x => [Value.bool x]).toArray 4 (0, 0))) :
  MemAt w' b r (updRec L x A) := by
 obtain ⟨s1, s2, s3⟩ := updRec_same L x A
 have h0 := List.nodup_cons.1 h.apart
 have h1 := List.nodup_cons.1 h0.2
 have hmem : ∀ j ∈ Rec.blocks x, j ∈ L.flatMap Rec.blocks := fun j hj => List.mem_flatMap.2 ⟨x, hx, hj⟩
 have hbF : b ∉ [x.g, x.p] := by
  intro hb
  simp only [List.mem_cons, List.not_mem_nil, or_false] at hb
  exact h0.1 (List.mem_cons_of_mem _ (hmem b (by simp only [Rec.blocks, List.mem_cons, List.not_mem_nil, or_false]; exact .inr hb)))
 have hrF : r ∉ [x.g, x.p] := by
  intro hb
  simp only [List.mem_cons, List.not_mem_nil, or_false] at hb
  exact h1.1 (hmem r (by simp only [Rec.blocks, List.mem_cons, List.not_mem_nil, or_false]; exact .inr hb))
 refine ⟨k.obj h.head hbF, by rw [s1]; exact h.map.keep k hrF, ?_, by rw [s2]; exact h.apart, ?_, by rw [s3]; exact h.uniq⟩
 ·intro y' hy'
  obtain ⟨y, hy, rfl⟩ := List.mem_map.1 hy'
  by_cases hn : y.n == x.n
  ·have e : y = x := uniq_eq h.uniq hy hx (by simpa using hn)
   subst e
   have hR := h.recs y hy
   simp only [hn, if_true]
   refine ⟨?_, HG, HP, hp, by rw [hl]; exact hR.small, hu⟩
   have := k.obj hR.area (h.rec_apart hy).1
   simp only [hl, hf]
   exact this
  ·have hne : y ≠ x := fun e => hn (by rw [e]; simp)
   simp only [hn, Bool.false_eq_true, if_false]
   have ho : ∀ j ∈ Rec.blocks y, j ∉ [x.g, x.p] := by
    intro j hj hj'
    refine (h.other hy hx hne hj).1 ?_
    simp only [List.mem_cons, List.not_mem_nil, or_false] at hj'
    simp only [Rec.blocks, List.mem_cons, List.not_mem_nil, or_false]
    exact .inr hj'
   exact (h.recs y hy).keep k (ho _ (by simp [Rec.blocks])) (ho _ (by simp [Rec.blocks])) (ho _ (by simp [Rec.blocks]))
 ·intro y' hy'
  obtain ⟨y, hy, rfl⟩ := List.mem_map.1 hy'
  have := h.keys y hy
  by_cases hn : y.n == x.n <;> simpa [hn] using this
theorem lookup_none {α : Type} {L : List (Int × α)} {n : Int} (h : L.lookup n = none) : ∀ q ∈ L, q.1 ≠ n := by
 induction L with
 | nil => simp
 | cons y L ih =>
  by_cases e : n == y.1
  ·simp [List.lookup, e] at h
  ·have e' : (n == y.1) = false := by simpa using e
   simp only [List.lookup, e'] at h
   intro q hq
   rcases List.mem_cons.1 hq with rfl | hq
   ·exact fun e' => e (by simp [e'])
   ·exact ih h q hq
theorem MemAt.push {w w' : World} {b r : Nat} {L : List Rec} (h : MemAt w b r L) {x : Rec} (hl : (view L).lookup x.n = none) (hn : 1 ≤ x.n ∧ x.n ≤ 2147483647) (k : Keep [r] w w') (hm : MapObj w' r (ints .i64 (L.map Rec.pair ++ [x.pair])))
  (hx : RecAt w' x) {B : Nat} (hB : ∀ j ∈ foot b r L, j < B) (hfr : B ≤ x.a ∧ B ≤ x.g ∧ B ≤ x.p) (hap : x.a ≠ x.g ∧ x.a ≠ x.p ∧ x.g ≠ x.p) :
  MemAt w' b r (L ++ [x]) := by
 have h0 := List.nodup_cons.1 h.apart
 have h1 := List.nodup_cons.1 h0.2
 refine ⟨k.obj h.head (by simp only [List.mem_singleton]; intro e; exact h0.1 (by rw [e]; exact List.mem_cons_self)), by rw [List.map_append]; exact hm, ?_, ?_, ?_, ?_⟩
 ·intro y hy
  rcases List.mem_append.1 hy with hy | hy
  ·have hb : ∀ j ∈ Rec.blocks y, j ∉ [r] := by
    intro j hj hj'
    rw [List.mem_singleton] at hj'
    subst hj'
    exact h1.1 (List.mem_flatMap.2 ⟨y, hy, hj⟩)
   exact (h.recs y hy).keep k (hb _ (by simp [Rec.blocks])) (hb _ (by simp [Rec.blocks])) (hb _ (by simp [Rec.blocks]))
  ·rw [List.mem_singleton] at hy
   subst hy
   exact hx
 ·have e : b :: r :: (L ++ [x]).flatMap Rec.blocks = (b :: r :: L.flatMap Rec.blocks) ++ Rec.blocks x := by simp
  rw [e, List.nodup_append]
  refine ⟨h.apart, by simp [Rec.blocks, hap], ?_⟩
  intro j hj j' hj' e'
  have := hB j hj
  simp only [Rec.blocks, List.mem_cons, List.not_mem_nil, or_false] at hj'
  rcases hj' with rfl | rfl | rfl <;> omega
 ·intro y hy
  rcases List.mem_append.1 hy with hy | hy
  ·exact h.keys y hy
  ·rw [List.mem_singleton] at hy
   subst hy
   exact hn
 ·rw [List.map_append, List.nodup_append]
  refine ⟨h.uniq, by simp, ?_⟩
  intro j hj j' hj' e'
  obtain ⟨y, hy, rfl⟩ := List.mem_map.1 hj
  simp only [List.map_cons, List.map_nil, List.mem_singleton] at hj'
  subst hj'
  exact lookup_none hl (y.n, y.A) (List.mem_map.2 ⟨y, hy, rfl⟩) e'
theorem foot_push (b r : Nat) (L : List Rec) (x : Rec) : ∀ k ∈ foot b r (L ++ [x]), k ∈ foot b r L ∨ k ∈ Rec.blocks x := by
 intro k hk
 simp only [foot, List.flatMap_append, List.flatMap_cons, List.flatMap_nil, List.append_nil, List.mem_cons, List.mem_append] at hk ⊢
 rcases hk with h | h | h | h
 ·exact .inl (.inl h)
 ·exact .inl (.inr (.inl h))
 ·exact .inl (.inr (.inr h))
 ·exact .inr h
theorem el_u8 : El Tryz.prog 23 5 1 1 (.int .u8 0) := ⟨Tryz.underlying23, by kernel_rfl, rfl, by decide, fun _ => by kernel_rfl⟩
theorem el_bool : El Tryz.prog 54 4 1 1 (.bool false) := ⟨Tryz.underlying54, by kernel_rfl, rfl, by decide, fun _ => by kernel_rfl⟩
theorem zero_area (W : World) : (zeroValue 148).run Tryz.prog W = .ok (.pointer none) W := by kernel_rfl
theorem ret_int {k : IntKind} {a b : Int} (h : a = b) : Ending.returned (.int k a) = .returned (.int k b) := by rw [h]
theorem ret_u64 {a b : Int} (h : a = b) : Ending.returned (.int .u64 a) = .returned (.int .u64 b) := by rw [h]
theorem ret_bool {x y : Bool} (h : x = y) : Ending.returned (.bool x) = .returned (.bool y) := by rw [h]
def NewAns (w : World) (e : Ending) (w' : World) : Prop := ∃ b r, e = .returned (.pointer (some ⟨b, 0, none⟩)) ∧ MemAt w' b r [] ∧ w.heap.size ≤ b ∧ w.heap.size ≤ r ∧ Ext w w'
set_option maxHeartbeats 400000 in
theorem mem_new (w : World) : Calls Tryz.prog 49 #[] w (NewAns w) := by
 have hmm := @run_makeMap Tryz.prog
 go_enter Tryz.func49, Tryz.ntmps49
 go_wp2
 go_returns
 refine ⟨w.heap.size + 1, w.heap.size, rfl, ⟨?_, ⟨#[], 0, ?_, rfl⟩, fun x hx => by simp at hx, by simp, fun x hx => by simp at hx, by simp⟩, by omega, Nat.le_refl _, by (repeat (first|exact xE0 _|assumption|refine xE1 ?_ _|refine xE2 ?_|refine xE3 ?_ _|refine xE4 ?_ (by assumption)))⟩
 ·exact obj_top _ _ (by simp)
 ·exact obj_old _ (obj_top _ _ rfl)
set_option maxHeartbeats 400000 in
theorem mem_at (a o : Int) (w : World) : Calls Tryz.prog 29 #[.int .i64 a, .int .i64 o] w fun e w' => e = .returned (.int .u64 (mat a o)) ∧ w' = w := by
 go_enter Tryz.func29, Tryz.ntmps29
 go_wp2
 go_returns
 exact ⟨ret_u64 (by simp only [IntKind.wrap_u64, mat]; omega), rfl⟩
set_option maxHeartbeats 400000 in
theorem mem_find (b r : Nat) (L : List Rec) (p s : Int) (w : World) (h : MemAt w b r L) (hp : 0 ≤ p) (hs : 0 ≤ s) (hs1 : s ≤ 1024) (H : Hid (p ≤ 18446744073709551615)) :
  Calls Tryz.prog 125 #[.pointer (some ⟨b, 0, none⟩), .int .u64 p, .int .i64 s] w fun e w' => w' = w ∧
   ((mfind (view L) p s = none ∧ e = .returned (.tuple #[.pointer none, .int .i64 0])) ∨ ∃ x ∈ L, x.n = p / 4294967296 ∧ mfind (view L) p s = some (x.A, (p % 4294967296).toNat) ∧ e = .returned (.tuple #[.pointer (some ⟨x.a, 0, none⟩), .int .i64 (p % 4294967296)])) := by
 have hq0 : 0 ≤ p / 4294967296 := by omega
 have hq1 : p / 4294967296 ≤ 4294967295 := by have := H.out; omega
 have hb := cO (i := 0) h.head
 have HM := η h
 have hlk := (run_lookup_int (P := Tryz.prog) Tryz.underlying145 Tryz.underlying3 zero_area h.map (p / 4294967296)).1
 rcases lookup_view L (p / 4294967296) with ⟨h1, h2⟩ | ⟨x, hx, hxn, h1, h2⟩
 ·rw [h1] at hlk
  simp only [Option.getD_none] at hlk
  have H2 := η h2
  clear h h1 h2
  go_enter Tryz.func125, Tryz.ntmps125
  go_wp2_with fail
  go_returns
  exact ⟨rfl, .inl ⟨by simp [mfind, H2.out], rfl⟩⟩
 ·rw [h1] at hlk
  simp only [Option.getD_some] at hlk
  have H2 := η h2
  have HX := η hx
  have HXN := η hxn
  have hR := h.recs x hx
  have hsm := hR.small
  have c0 := cO (i := 0) hR.area
  have c1 := cO (i := 1) hR.area
  clear h h1 h2 hx hxn hR
  have ho0 : 0 ≤ p % 4294967296 := by omega
  have ho1 : p % 4294967296 ≤ 4294967295 := by omega
  by_cases hA : (x.A.bytes.length : Int) < p % 4294967296
  ·go_enter Tryz.func125, Tryz.ntmps125
   go_wp2_with fail
   go_returns
   exact ⟨rfl, .inl ⟨by simp only [mfind, H2.out]; rw [if_pos (.inl hA)], rfl⟩⟩
  ·have hA' : decide ((x.A.bytes.length : Int) < p % 4294967296) = false := by simpa using hA
   by_cases hB : (x.A.bytes.length : Int) - p % 4294967296 < s
   ·go_enter Tryz.func125, Tryz.ntmps125
    go_wp2_with fail
    go_returns
    exact ⟨rfl, .inl ⟨by simp only [mfind, H2.out]; rw [if_pos (.inr hB)], rfl⟩⟩
   ·go_enter Tryz.func125, Tryz.ntmps125
    go_wp2_with fail
    go_returns
    exact ⟨rfl, .inr ⟨x, HX.out, HXN.out, by simp only [mfind, H2.out]; rw [if_neg (fun h => by omega)], rfl⟩⟩
theorem at_of_lt {α : Type} {xs : List α} {k : Nat} (h : k < xs.length) : ∃ x, xs[k]? = some x := ⟨xs[k], List.getElem?_eq_getElem h⟩
theorem sized_cases (n : Int) : n = 1 ∨ n = 2 ∨ n = 4 ∨ n = 8 ∨ ((n == 1) = false ∧ (n == 2) = false ∧ (n == 4) = false ∧ (n == 8) = false) := by
 simp only [beq_eq_false_iff_ne, ne_eq]; omega
set_option maxHeartbeats 400000 in
theorem mem_number (n : Int) (w : World) : Calls Tryz.prog 124 #[.int .i64 n] w fun e w' => e = .returned (.bool (sized n)) ∧ w' = w := by
 rcases sized_cases n with rfl | rfl | rfl | rfl | ⟨h1, h2, h4, h8⟩
 all_goals
  go_enter Tryz.func124, Tryz.ntmps124
  go_wp2
  go_returns
  exact ⟨ret_bool (by simp [sized, *]), rfl⟩
def IdxAns (xs : List Bool) (w : World) (e : Ending) (w' : World) : Prop := ∃ i : Int, e = .returned (.int .i64 i) ∧ w' = w ∧ (decide (0 ≤ i) = xs.contains false)
set_option maxHeartbeats 400000 in
theorem index_bool (v : Value) (xs : List Bool) (w : World) (h : Rd w 1 (fun x => [Value.bool x]) v xs) :
  Calls Tryz.prog 213 #[v, .bool false] w (IdxAns xs w) := by
 obtain ⟨a, n, c, rfl, hn, hN⟩ := h.val
 have HV := η h
 clear h
 go_enter Tryz.func213, Tryz.ntmps213
 go_wp2
 go_loop [8] (fun i => ∃ k : Nat, k ≤ n ∧ i = .int .i64 k ∧ Hid ((xs.take k).contains false = false)) (fun i => n - (intOf i).toNat)
 case atStart => exact ⟨0, Nat.zero_le _, rfl, η rfl⟩
 case round =>
  obtain ⟨k, hk, rfl, HK⟩ := hrel
  by_cases hlt : k < n
  ·obtain ⟨x, hx⟩ := at_of_lt (xs := xs) (k := k) (by have := hN.out; omega)
   have ia := fun W => HV.out.run_at (P := Tryz.prog) el_bool.under el_bool.size .i64 (k : Int) (by omega) (by omega) W
   have ca := HV.out.cell hx (j := 0) rfl
   simp only [Nat.mul_one, Nat.add_zero, Int.toNat_natCast] at ia ca
   have HX := η hx
   clear hx
   cases x with
   | false =>
    go_wp2
    go_returns
    refine ⟨k, rfl, rfl, ?_⟩
    have : false ∈ xs := List.mem_of_getElem? HX.out
    simp [this]
   | true =>
    go_wp2
    go_round
    case rel => exact ⟨k + 1, by omega, by go_num, η (by rw [List.take_add_one, HX.out]; have := HK.out; simp_all)⟩
    case measure => simp [intOf]; omega
  ·go_wp2
   go_returns
   refine ⟨-1, rfl, rfl, ?_⟩
   have h := HK.out
   rw [List.take_of_length_le (by have := hN.out; omega)] at h
   rw [h]; rfl
set_option maxHeartbeats 400000 in
theorem contains_bool (v : Value) (xs : List Bool) (w : World) (h : Rd w 1 (fun x => [Value.bool x]) v xs) :
  Calls Tryz.prog 195 #[v, .bool false] w fun e w' => e = .returned (.bool (xs.contains false)) ∧ w' = w := by
 have HV := η h
 clear h
 go_enter Tryz.func195, Tryz.ntmps195
 go_wp2_with fail
 refine (index_bool v xs _ HV.out).mono ?_
 rintro e w' ⟨i, rfl, rfl, hi⟩
 have HI := η hi
 clear hi
 go_wp2_with fail
 go_returns
 exact ⟨ret_bool HI.out, rfl⟩
def CloneAns {α : Type} (e : TypeId) (sz : Nat) (enc : α → List Value) (xs : List α) (w : World) (r : Ending) (w' : World) : Prop :=
 ∃ v', r = .returned v' ∧ Own w' w.heap.size e sz enc v' xs ∧ Ext w w'
set_option maxHeartbeats 400000 in
theorem clone_u8 (v : Value) (xs : List Int) (w : World) (h : Rd w 1 (fun x => [Value.int .u8 x]) v xs) (hb : xs.length * 1 ≤ 140737488355328) :
  Calls Tryz.prog 55 #[v] w (CloneAns 5 1 (fun x => [Value.int .u8 x]) xs w) := by
 obtain ⟨a, n, c, rfl, hn, hN⟩ := h.val
 have hnil := fun W => h.run_nil (P := Tryz.prog) Tryz.underlying23 W
 have HS := η h
 cases a with
 | none =>
  obtain ⟨rfl, rfl, rfl⟩ := h.of_isNil
  clear h
  go_enter Tryz.func55, Tryz.ntmps55
  go_wp2
  go_ret
  exact ⟨_, rfl, Own.nil _ _ _ _ _, Below.refl _ _⟩
 | some a =>
  clear h
  simp only [isNilV] at hnil
  go_enter Tryz.func55, Tryz.ntmps55
  go_wp2_with (at_builtin; refine app_own el_u8 (enc_int .u8) rfl _ _ rfl rfl (Own.made w w.heap.size _ _ _ rfl (Nat.le_refl _)) rfl (ys := xs) ?q1 ?q2 ?q3 ?q4)
  case q1 => exact HS.out.ext (by go_grown)
  case q2 => exact ⟨by simpa using hb, by simp; omega⟩
  case q3 => simp
  intro v' w1 hown hgrow hbel
  go_wp2
  go_ret
  exact ⟨v', rfl, by simpa using hown, hbel _ _ (by go_grown) (Nat.le_refl _)⟩
def ReadAns (M : Areas) (p s : Int) (w : World) (e : Ending) (w' : World) : Prop :=
 ∃ v, e = .returned (.tuple #[v, .int .i64 (mread M p s).2]) ∧ Own w' w.heap.size 5 1 (fun x => [Value.int .u8 x]) v (mread M p s).1 ∧ Ext w w'
theorem read_bad {M : Areas} {p s : Int} (h : s < 0 ∨ 1024 < s) : mread M p s = ([], 1) := by rw [mread, if_pos h]
theorem read_none {M : Areas} {p s : Int} (h : ¬ (s < 0 ∨ 1024 < s)) (hf : mfind M p s = none) : mread M p s = ([], 80) := by rw [mread, if_neg h, hf]
theorem read_blank {M : Areas} {p s : Int} {A : Ar} {o : Nat} (h : ¬ (s < 0 ∨ 1024 < s)) (hf : mfind M p s = some (A, o)) (hc : (cutL A.put o s.toNat).contains false = true) : mread M p s = ([], 81) := by
 rw [mread, if_neg h, hf]; simp only [hc, if_true]
theorem read_ok {M : Areas} {p s : Int} {A : Ar} {o : Nat} (h : ¬ (s < 0 ∨ 1024 < s)) (hf : mfind M p s = some (A, o)) (hc : (cutL A.put o s.toNat).contains false = false) : mread M p s = (cutL A.bytes o s.toNat, 0) := by
 rw [mread, if_neg h, hf]; simp only [hc, Bool.false_eq_true, if_false]
theorem find_le {M : Areas} {p s : Int} {A : Ar} {o : Nat} (hp : 0 ≤ p) (hs : 0 ≤ s) (hf : mfind M p s = some (A, o)) : o + s.toNat ≤ A.bytes.length ∧ (o : Int) = p % 4294967296 := by
 unfold mfind at hf
 split at hf
 ·cases hf
 ·rename_i B hB
  split at hf
  ·cases hf
  ·rename_i hlt
   simp only [Option.some.injEq, Prod.mk.injEq] at hf
   obtain ⟨rfl, rfl⟩ := hf
   omega
set_option maxHeartbeats 1000000 in
theorem mem_read (b r : Nat) (L : List Rec) (p s : Int) (w : World) (h : MemAt w b r L) (hp : 0 ≤ p) (H : Hid (p ≤ 18446744073709551615)) :
  Calls Tryz.prog 170 #[.pointer (some ⟨b, 0, none⟩), .int .u64 p, .int .i64 s] w (ReadAns (view L) p s w) := by
 have HM := η h
 clear h
 by_cases hbad : s < 0 ∨ 1024 < s
 ·have e1 := read_bad (M := view L) (p := p) hbad
  have E1 := η e1
  clear e1
  rcases hbad with hs | hs
  all_goals
   go_enter Tryz.func170, Tryz.ntmps170
   go_wp2_with fail
   go_returns
   exact ⟨.slice none 0 0, by rw [E1.out]; rfl, by rw [E1.out]; exact Own.nil _ _ _ _ _, by (repeat (first|exact xE0 _|assumption|refine xE1 ?_ _|refine xE2 ?_|refine xE3 ?_ _|refine xE4 ?_ (by assumption)))⟩
 ·have HB := η hbad
  have hs0 : 0 ≤ s := by omega
  have hs1 : s ≤ 1024 := by omega
  clear hbad
  go_enter Tryz.func170, Tryz.ntmps170
  go_wp2_with fail
  refine (mem_find b r L p s _ HM.out hp hs0 hs1 H).mono ?_
  rintro e w1 ⟨rfl, ⟨hf, rfl⟩ | ⟨x, hx, hxn, hf, rfl⟩⟩
  ·have HF := η hf
   clear hf
   go_wp2_with fail
   go_returns
   exact ⟨.slice none 0 0, by rw [read_none HB.out HF.out]; rfl, by rw [read_none HB.out HF.out]; exact Own.nil _ _ _ _ _, by (repeat (first|exact xE0 _|assumption|refine xE1 ?_ _|refine xE2 ?_|refine xE3 ?_ _|refine xE4 ?_ (by assumption)))⟩
  ·have HF := η hf
   have hR := HM.out.recs x hx
   have c0 := cO (i := 0) hR.area
   have c1 := cO (i := 1) hR.area
   obtain ⟨hle, hoo⟩ := find_le hp hs0 hf
   have hsm := hR.small
   have OB : Hid (Own w1 0 5 1 (fun x => [Value.int .u8 x]) (.slice (some ⟨x.g, 0, none⟩) x.A.bytes.length x.A.bytes.length) x.A.bytes) := η (own_obj (enc_int .u8) hR.bytes (Nat.zero_le _) rfl (by simp only [maxLen]; omega))
   have OP : Hid (Own w1 0 4 1 (fun x => [Value.bool x]) (.slice (some ⟨x.p, 0, none⟩) x.A.bytes.length x.A.bytes.length) x.A.put) := η (own_obj enc_bool hR.put (Nat.zero_le _) hR.len.symm (by have := hR.len; simp only [maxLen]; omega))
   have RB := η (OB.out.rd (enc_int _))
   have RP := η (OP.out.rd enc_bool)
   have HL := η hR.len
   clear hf hx hxn hR OB OP
   obtain ⟨o, ho⟩ : ∃ o : Nat, (p % 4294967296).toNat = o := ⟨_, rfl⟩
   rw [ho] at hle hoo HF
   rw [← hoo]
   clear ho hoo
   have kb := fun W => RB.out.run_cut_lh (P := Tryz.prog) el_u8.under el_u8.size .i64 .i64 (o : Int) ((o : Int) + s) (by omega) (by omega) (by omega) W
   have kp := fun W => RP.out.run_cut_lh (P := Tryz.prog) el_bool.under el_bool.size .i64 .i64 (o : Int) ((o : Int) + s) (by omega) (by omega) (by omega) W
   have CB := η (RB.out.cut (l := o) (m := o + s.toNat) (by omega) hle)
   have CP := η (RP.out.cut (l := o) (m := o + s.toNat) (by omega) (by rw [HL.out]; exact hle))
   simp only [Int.toNat_natCast, show ((o : Int) + s).toNat = o + s.toNat from by omega] at kb kp
   simp only [show o + s.toNat - o = s.toNat from by omega] at CB CP
   go_wp2_with fail
   refine (contains_bool _ (cutL x.A.put o s.toNat) _ CP.out).mono ?_
   rintro e w2 ⟨rfl, rfl⟩
   cases hc : (cutL x.A.put o s.toNat).contains false with
   | true =>
    have HC := η hc
    clear hc
    go_wp2_with fail
    go_returns
    exact ⟨.slice none 0 0, by rw [read_blank HB.out HF.out HC.out]; rfl, by rw [read_blank HB.out HF.out HC.out]; exact Own.nil _ _ _ _ _, by (repeat (first|exact xE0 _|assumption|refine xE1 ?_ _|refine xE2 ?_|refine xE3 ?_ _|refine xE4 ?_ (by assumption)))⟩
   | false =>
    have HC := η hc
    clear hc
    go_wp2_with fail
    refine (clone_u8 _ (cutL x.A.bytes o s.toNat) _ CB.out (by simp only [cutL, List.length_take, List.length_drop]; omega)).mono ?_
    rintro e w3 ⟨v, rfl, hv, he⟩
    have HV := η hv
    clear hv
    go_wp2_with fail
    go_returns
    exact ⟨v, by rw [read_ok HB.out HF.out HC.out]; rfl, by rw [read_ok HB.out HF.out HC.out]; exact HV.out, by (repeat (first|exact xE0 _|assumption|refine xE1 ?_ _|refine xE2 ?_|refine xE3 ?_ _|refine xE4 ?_ (by assumption)))⟩
theorem lookup_mem {α : Type} {L : List (Int × α)} {k : Int} {x : α} (h : L.lookup k = some x) : ∃ n, (n, x) ∈ L := by
 induction L with
 | nil => simp at h
 | cons y L ih =>
  by_cases e : k == y.1
  ·simp [List.lookup, e] at h
   exact ⟨y.1, by rw [← h]; exact List.mem_cons_self⟩
  ·simp [List.lookup, e] at h
   obtain ⟨n, hn⟩ := ih h
   exact ⟨n, List.mem_cons_of_mem _ hn⟩
theorem le_snoc (l : List Int) (x : Int) : le (l ++ [x]) = le l + 256 ^ l.length * x := by
 induction l with
 | nil => simp [le]
 | cons y l ih => simp only [List.cons_append, le, ih, List.length_cons, Int.pow_succ]; rw [Int.mul_add, Int.add_assoc]; congr 2; rw [Int.mul_comm (256 ^ l.length) 256, Int.mul_assoc]
theorem le_step {l : List Int} {k : Nat} {x : Int} (hx : l[k]? = some x) : le (l.take (k + 1)) = le (l.take k) + 256 ^ k * x := by
 have hk : k < l.length := (List.getElem?_eq_some_iff.1 hx).1
 rw [List.take_add_one, hx]
 simp only [Option.toList_some]
 rw [le_snoc, List.length_take, Nat.min_eq_left (by omega)]
theorem le_lt (l : List Int) (h : ∀ x ∈ l, 0 ≤ x ∧ x ≤ 255) : 0 ≤ le l ∧ le l < 256 ^ l.length := by
 induction l with
 | nil => simp [le]
 | cons y l ih =>
  have h1 := h y List.mem_cons_self
  have h2 := ih (fun x hx => h x (List.mem_cons_of_mem _ hx))
  simp only [le, List.length_cons, Int.pow_succ]
  omega
theorem or_high (n x : Int) (k : Nat) (hk : k ≤ 7) (hn : 0 ≤ n ∧ n < 256 ^ k) (hx : 0 ≤ x ∧ x ≤ 255) : bits .or .u64 n (IntKind.u64.wrap (x * 2 ^ (8 * k))) = n + 256 ^ k * x := by
 obtain ⟨a, rfl⟩ := Int.eq_ofNat_of_zero_le hn.1
 obtain ⟨c, rfl⟩ := Int.eq_ofNat_of_zero_le hx.1
 have hp : (2 : Nat) ^ (8 * k) = 256 ^ k := by rw [Nat.pow_mul]
 have ha : a < 2 ^ (8 * k) := by rw [hp]; have h := hn.2; have e : ((256 ^ k : Nat) : Int) = (256 : Int) ^ k := Int.natCast_pow 256 k; rw [← e] at h; exact Int.ofNat_lt.1 h
 have hc : c ≤ 255 := by omega
 have hP : 2 ^ (8 * k) ≤ 72057594037927936 := by
  calc 2 ^ (8 * k) ≤ 2 ^ 56 := Nat.pow_le_pow_right (by decide) (by omega)
   _ = 72057594037927936 := by decide
 have hb : 2 ^ (8 * k) * c ≤ 72057594037927936 * 255 := Nat.mul_le_mul hP hc
 have e1 : IntKind.u64.wrap ((c : Int) * 2 ^ (8 * k)) = ((2 ^ (8 * k) * c : Nat) : Int) := by
  rw [IntKind.wrap_u64]
  have : (c : Int) * 2 ^ (8 * k) = ((2 ^ (8 * k) * c : Nat) : Int) := by rw [Int.natCast_mul, Int.natCast_pow, Int.mul_comm]; rfl
  rw [this]; omega
 rw [e1, bits_or_u64_nat a _ (by omega) (by omega), Nat.or_comm, ← Nat.two_pow_add_eq_or_of_lt ha c, hp]
 rw [Int.natCast_add, Int.natCast_mul, Int.natCast_pow, Int.add_comm]
 rfl
theorem mread_u8 {M : Areas} (hM : ∀ q ∈ M, ∀ x ∈ q.2.bytes, 0 ≤ x ∧ x ≤ 255) (p s : Int) : (∀ x ∈ (mread M p s).1, 0 ≤ x ∧ x ≤ 255) ∧ (mread M p s).1.length ≤ s.toNat := by
 unfold mread
 split
 ·simp
 ·split
  ·simp
  ·rename_i A o hf
   split
   ·simp
   ·have hA : ∃ n, (n, A) ∈ M := by
     unfold mfind at hf
     split at hf
     ·cases hf
     ·rename_i B hB
      split at hf
      ·cases hf
      ·simp only [Option.some.injEq, Prod.mk.injEq] at hf
       obtain ⟨rfl, _⟩ := hf
       exact lookup_mem hB
    obtain ⟨n, hn⟩ := hA
    refine ⟨fun x hx => hM _ hn x (List.mem_of_mem_drop (List.mem_of_mem_take hx)), ?_⟩
    simp only [cutL, List.length_take]; omega
theorem MemAt.u8 {w : World} {b r : Nat} {L : List Rec} (h : MemAt w b r L) : ∀ q ∈ view L, ∀ x ∈ q.2.bytes, 0 ≤ x ∧ x ≤ 255 := by
 intro q hq x hx
 obtain ⟨y, hy, rfl⟩ := List.mem_map.1 hq
 exact (h.recs y hy).u8 x hx
def LoadAns (M : Areas) (p s : Int) (w : World) (e : Ending) (w' : World) : Prop :=
 e = .returned (.tuple #[.int .u64 (mload M p s).1, .int .i64 (mload M p s).2]) ∧ Ext w w'
set_option maxHeartbeats 1000000 in
theorem mem_load (b r : Nat) (L : List Rec) (p s : Int) (w : World) (h : MemAt w b r L) (hp : 0 ≤ p) (H : Hid (p ≤ 18446744073709551615)) :
  Calls Tryz.prog 128 #[.pointer (some ⟨b, 0, none⟩), .int .u64 p, .int .i64 s] w (LoadAns (view L) p s w) := by
 have HM := η h
 clear h
 cases hz : sized s with
 | false =>
  have HZ := η hz
  clear hz
  go_enter Tryz.func128, Tryz.ntmps128
  go_wp2_with fail
  refine (mem_number s _).mono ?_
  rintro e w1 ⟨rfl, rfl⟩
  rw [HZ.out]
  go_wp2_with fail
  go_returns
  exact ⟨by simp [mload, HZ.out], by (repeat (first|exact xE0 _|assumption|refine xE1 ?_ _|refine xE2 ?_|refine xE3 ?_ _|refine xE4 ?_ (by assumption)))⟩
 | true =>
  have HZ := η hz
  clear hz
  go_enter Tryz.func128, Tryz.ntmps128
  go_wp2_with fail
  refine (mem_number s _).mono ?_
  rintro e w1 ⟨rfl, rfl⟩
  rw [HZ.out]
  go_wp2_with fail
  refine (mem_read b r L p s _ HM.out hp H).mono ?_
  rintro e w2 ⟨v, rfl, hv, he⟩
  have RV := η (hv.rd (enc_int _))
  have HU := η (mread_u8 HM.out.u8 p s)
  have HS : Hid (s.toNat ≤ 8) := by
   have := HZ.out
   simp only [sized, Bool.or_eq_true, beq_iff_eq] at this
   show _ ≤ _; omega
  clear hv
  obtain ⟨va, vn, vc, rfl, hvn, hVN⟩ := RV.out.val
  go_wp2_with fail
  go_loop [29, 10] (fun i n => ∃ k : Nat, k ≤ vn ∧ i = .int .i64 k ∧ n = .int .u64 (le ((mread (view L) p s).1.take k))) (fun i _ => vn - (intOf i).toNat)
  case atStart => exact ⟨0, Nat.zero_le _, rfl, rfl⟩
  case round =>
   obtain ⟨k, hk, rfl, rfl⟩ := hrel
   by_cases hlt : k < vn
   ·obtain ⟨x, hx⟩ := at_of_lt (xs := (mread (view L) p s).1) (k := k) (by have := hVN.out; omega)
    have ia := fun W => RV.out.run_at (P := Tryz.prog) el_u8.under el_u8.size .i64 (k : Int) (by omega) (by omega) W
    have ca := RV.out.cell hx (j := 0) rfl
    simp only [Nat.mul_one, Nat.add_zero, Int.toNat_natCast] at ia ca
    have HX := η hx
    clear hx
    have hx0 : 0 ≤ x := (HU.out.1 x (List.mem_of_getElem? HX.out)).1
    have hx1 : x ≤ 255 := (HU.out.1 x (List.mem_of_getElem? HX.out)).2
    have hk7 : k ≤ 7 := by have h1 := HU.out.2; have h2 := HS.out; have h3 := hVN.out; omega
    have hb := le_lt ((mread (view L) p s).1.take k) (fun x hx => HU.out.1 x (List.mem_of_mem_take hx))
    rw [List.length_take, Nat.min_eq_left (by have := hVN.out; omega)] at hb
    have HO := η (or_high _ x k hk7 hb ⟨hx0, hx1⟩)
    have hb0 := hb.1
    clear hb
    go_wp2
    go_round
    case rel => exact ⟨k + 1, by omega, by go_num, by rw [HO.out, le_step HX.out]⟩
    case measure => simp [intOf]; omega
   ·go_wp2
    go_returns
    refine ⟨?_, by (repeat (first|exact xE0 _|assumption|refine xE1 ?_ _|refine xE2 ?_|refine xE3 ?_ _|refine xE4 ?_ (by assumption)))⟩
    have e1 : (mread (view L) p s).1.take k = (mread (view L) p s).1 := List.take_of_length_le (by have := hVN.out; omega)
    simp only [mload, HZ.out, if_true]
    rw [← e1]; simp [e1]
end Go.Proofs.YtppefchjoodgnaaGreat
