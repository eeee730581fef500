/- Memory, in areas (layer 8): what it is, as plain data; how it lies in the heap. -/
import Derived.Test.YtlpeljpjgmapgaaGreatRows
import Derived.Test.YtlpeljpjgmapgaaGreatMap
namespace Go.Proofs.YtlpeljpjgmapgaaGreat
open Go.RowKit
set_option linter.unusedVariables false
set_option linter.unusedSimpArgs false

/-- An area: bytes, which of them something was put into, whether it must not be changed. -/
structure Ar where
  bytes : List Int
  put : List Bool
  fixed : Bool
/-- Areas by their numbers. -/
abbrev Areas := List (Int × Ar)
/-- The area, and where in it, of so many bytes from there on. -/
def mfind (M : Areas) (at_ size : Int) : Option (Ar × Nat) :=
  match M.lookup (at_ / 4294967296) with
  | none => none
  | some A => if (A.bytes.length : Int) < at_ % 4294967296 ∨ (A.bytes.length : Int) - at_ % 4294967296 < size then none else some (A, (at_ % 4294967296).toNat)
def cutL {α : Type} (l : List α) (o n : Nat) : List α := (l.drop o).take n
def mread (M : Areas) (at_ size : Int) : List Int × Int :=
  if size < 0 ∨ 1024 < size then ([], 1) else
  match mfind M at_ size with
  | none => ([], 80)
  | some (A, o) => if (cutL A.put o size.toNat).contains false then ([], 81) else (cutL A.bytes o size.toNat, 0)
def sized (n : Int) : Bool := n == 1 || n == 2 || n == 4 || n == 8
/-- A number of its bytes, the lowest first; and back. -/
def le : List Int → Int
  | [] => 0
  | b :: bs => b + 256 * le bs
def bytesOf (n : Int) : Nat → List Int
  | 0 => []
  | k + 1 => n % 256 :: bytesOf (n / 256) k
def mload (M : Areas) (at_ size : Int) : Int × Int :=
  if sized size = true then (le (mread M at_ size).1, (mread M at_ size).2) else (0, 1)
def over {α : Type} (l : List α) (o : Nat) (s : List α) : List α := l.take o ++ s ++ l.drop (o + s.length)
def Ar.write (A : Ar) (o : Nat) (s : List Int) : Ar := { A with bytes := over A.bytes o s, put := over A.put o (s.map fun _ => true) }
def mstore (M : Areas) (at_ size n : Int) : Areas × Int :=
  if sized size = true then
    match mfind M at_ size with
    | none => (M, 80)
    | some (A, o) => if A.fixed = true then (M, 82) else (setKey M (at_ / 4294967296) (A.write o (bytesOf n size.toNat)), 0)
  else (M, 1)
def mmake (M : Areas) (n : Int) (b : List Int) (blank fixed : Bool) : Areas × Int :=
  if (M.lookup n).isSome = true ∨ n < 1 ∨ 2147483647 < n then (M, 1)
  else if 1024 < b.length then (M, 3)
  else (M ++ [(n, ⟨b, b.map fun _ => !blank, fixed⟩)], 0)
def mat (area off : Int) : Int := (area * 4294967296 + off) % 18446744073709551616

/-- Where an area lies: its struct's block, its bytes', its marks'. -/
structure Rec where
  n : Int
  a : Nat
  g : Nat
  p : Nat
  A : Ar
def Rec.blocks (r : Rec) : List Nat := [r.a, r.g, r.p]
def Rec.pair (r : Rec) : Int × Value := (r.n, .pointer (some ⟨r.a, 0, none⟩))
/-- The area's three blocks. -/
structure RecAt (w : World) (r : Rec) : Prop where
  area : w.heap[r.a]? = some (.cells #[.slice (some ⟨r.g, 0, none⟩) r.A.bytes.length r.A.bytes.length, .slice (some ⟨r.p, 0, none⟩) r.A.bytes.length r.A.bytes.length, .bool r.A.fixed] 115 (0, 0))
  bytes : w.heap[r.g]? = some (.cells (r.A.bytes.flatMap fun x => [Value.int .u8 x]).toArray 5 (0, 0))
  put : w.heap[r.p]? = some (.cells (r.A.put.flatMap fun x => [Value.bool x]).toArray 4 (0, 0))
  len : r.A.put.length = r.A.bytes.length
  small : r.A.bytes.length ≤ 1024
  u8 : ∀ x ∈ r.A.bytes, 0 ≤ x ∧ x ≤ 255
/-- The memory that a pointer to block b is: its map in block r, its areas L. -/
structure MemAt (w : World) (b r : Nat) (L : List Rec) : Prop where
  head : w.heap[b]? = some (.cells #[.map (some r)] 111 (0, 0))
  map : MapObj w r (ints .i64 (L.map Rec.pair))
  recs : ∀ x ∈ L, RecAt w x
  apart : (b :: r :: L.flatMap Rec.blocks).Nodup
  keys : ∀ x ∈ L, 1 ≤ x.n ∧ x.n ≤ 2147483647
  uniq : (L.map (·.n)).Nodup
def foot (b r : Nat) (L : List Rec) : List Nat := b :: r :: L.flatMap Rec.blocks
def view (L : List Rec) : Areas := L.map fun x => (x.n, x.A)

theorem RecAt.keep {F : List Nat} {w w' : World} {r : Rec} (h : RecAt w r) (k : Keep F w w') (ha : r.a ∉ F) (hg : r.g ∉ F) (hp : r.p ∉ F) : RecAt w' r :=
  ⟨k.obj h.area ha, k.obj h.bytes hg, k.obj h.put hp, h.len, h.small, h.u8⟩
theorem MemAt.keep {F : List Nat} {w w' : World} {b r : Nat} {L : List Rec} (h : MemAt w b r L) (k : Keep F w w') (hF : ∀ x ∈ foot b r L, x ∉ F) : MemAt w' b r L := by
  refine ⟨k.obj h.head (hF _ (by simp [foot])), h.map.keep k (hF _ (by simp [foot])), fun x hx => ?_, h.apart, h.keys, h.uniq⟩
  have hb : ∀ y ∈ Rec.blocks x, y ∉ F := fun y hy => hF y (by simp only [foot, List.mem_cons]; exact .inr (.inr (List.mem_flatMap.2 ⟨x, hx, hy⟩)))
  exact (h.recs x hx).keep k (hb _ (by simp [Rec.blocks])) (hb _ (by simp [Rec.blocks])) (hb _ (by simp [Rec.blocks]))
theorem MemAt.ext {w w' : World} {b r : Nat} {L : List Rec} (h : MemAt w b r L) (k : Ext w w') : MemAt w' b r L :=
  h.keep (F := []) (Keep.of_ext k) (fun _ _ => by simp)
theorem MemAt.lt {w : World} {b r : Nat} {L : List Rec} (h : MemAt w b r L) : ∀ x ∈ foot b r L, x < w.heap.size := by
  intro x hx
  simp only [foot, List.mem_cons, List.mem_flatMap] at hx
  rcases hx with rfl | rfl | ⟨y, hy, hx⟩
  · exact heap_lt h.head
  · exact h.map.lt
  · simp only [Rec.blocks, List.mem_cons, List.not_mem_nil, or_false] at hx
    rcases hx with rfl | rfl | rfl
    · exact heap_lt (h.recs y hy).area
    · exact heap_lt (h.recs y hy).bytes
    · exact heap_lt (h.recs y hy).put

theorem pw_of {α : Type} {R : α → α → Prop} (hs : ∀ a b, R a b → R b a) {L : List α} (h : L.Pairwise R) {x y : α} (hx : x ∈ L) (hy : y ∈ L) (hne : x ≠ y) : R x y := by
  induction h with
  | nil => cases hx
  | cons h1 _ ih =>
    cases hx with
    | head => cases hy with
      | head => exact absurd rfl hne
      | tail _ hy => exact h1 _ hy
    | tail _ hx => cases hy with
      | head => exact hs _ _ (h1 _ hx)
      | tail _ hy => exact ih hx hy
theorem MemAt.rec_apart {w : World} {b r : Nat} {L : List Rec} (h : MemAt w b r L) {x : Rec} (hx : x ∈ L) : x.a ∉ [x.g, x.p] ∧ x.g ≠ x.p := by
  have h1 := (List.nodup_cons.1 (List.nodup_cons.1 h.apart).2).2
  have h2 : (Rec.blocks x).Nodup := (List.pairwise_flatMap.1 h1).1 x hx
  simp only [Rec.blocks, List.nodup_cons, List.mem_cons, List.not_mem_nil, or_false, not_or] at h2 ⊢
  exact ⟨h2.1, h2.2.1⟩
/-- What is in one area's blocks is in no other's, nor the head's, nor the map's. -/
theorem MemAt.other {w : World} {b r : Nat} {L : List Rec} (h : MemAt w b r L) {x y : Rec} (hx : x ∈ L) (hy : y ∈ L) (hne : x ≠ y) {k : Nat} (hk : k ∈ Rec.blocks x) : k ∉ Rec.blocks y ∧ k ≠ b ∧ k ≠ r := by
  have h0 := List.nodup_cons.1 h.apart
  have h1 := List.nodup_cons.1 h0.2
  have hm : k ∈ L.flatMap Rec.blocks := List.mem_flatMap.2 ⟨x, hx, hk⟩
  refine ⟨fun hk' => ?_, fun e => h0.1 (by subst e; exact List.mem_cons_of_mem _ hm), fun e => h1.1 (by subst e; exact hm)⟩
  have h2 := (List.pairwise_flatMap.1 h1.2).2
  exact pw_of (R := fun a b => ∀ x ∈ Rec.blocks a, ∀ y ∈ Rec.blocks b, x ≠ y) (fun a b hab u hu v hv e => hab v hv u hu e.symm) h2 hx hy hne k hk k hk' rfl
theorem uniq_eq {L : List Rec} (h : (L.map (·.n)).Nodup) {x y : Rec} (hx : x ∈ L) (hy : y ∈ L) (e : x.n = y.n) : x = y := by
  induction L with
  | nil => cases hx
  | cons z L ih =>
    simp only [List.map_cons, List.nodup_cons, List.mem_map, not_exists, not_and] at h
    cases hx with
    | head => cases hy with
      | head => rfl
      | tail _ hy => exact absurd e.symm (h.1 y hy)
    | tail _ hx => cases hy with
      | head => exact absurd e (h.1 x hx)
      | tail _ hy => exact ih h.2 hx hy
theorem lookup_view (L : List Rec) (n : Int) : ((L.map Rec.pair).lookup n = none ∧ (view L).lookup n = none) ∨
    ∃ x ∈ L, x.n = n ∧ (L.map Rec.pair).lookup n = some (.pointer (some ⟨x.a, 0, none⟩)) ∧ (view L).lookup n = some x.A := by
  induction L with
  | nil => left; simp [view]
  | cons y L ih =>
    by_cases h : n = y.n
    · right
      exact ⟨y, List.mem_cons_self, h.symm, by simp [List.lookup, Rec.pair, h], by simp [view, List.lookup, h]⟩
    · have hb : (n == y.n) = false := by simpa using h
      rcases ih with ⟨h1, h2⟩ | ⟨x, hx, h1, h2, h3⟩
      · left; exact ⟨by simpa [List.lookup, Rec.pair, hb] using h1, by simpa [view, List.lookup, hb] using h2⟩
      · right; exact ⟨x, List.mem_cons_of_mem _ hx, h1, by simpa [List.lookup, Rec.pair, hb] using h2, by simpa [view, List.lookup, hb] using h3⟩

/-- One area with other bytes and marks. -/
def updRec (L : List Rec) (x : Rec) (A : Ar) : List Rec := L.map fun y => if y.n == x.n then { y with A := A } else y
theorem updRec_same (L : List Rec) (x : Rec) (A : Ar) : (updRec L x A).map Rec.pair = L.map Rec.pair ∧ (updRec L x A).flatMap Rec.blocks = L.flatMap Rec.blocks ∧ (updRec L x A).map (·.n) = L.map (·.n) := by
  induction L with
  | nil => exact ⟨rfl, rfl, rfl⟩
  | cons y L ih =>
    obtain ⟨h1, h2, h3⟩ := ih
    have e : updRec (y :: L) x A = (if y.n == x.n then { y with A := A } else y) :: updRec L x A := rfl
    rw [e]
    simp only [List.map_cons, List.flatMap_cons, h1, h2, h3]
    by_cases hn : y.n == x.n <;> simp [hn, Rec.pair, Rec.blocks]
theorem view_upd (L : List Rec) (x : Rec) (A : Ar) : view (updRec L x A) = setKey (view L) x.n A := by
  simp only [view, updRec, setKey, List.map_map]
  apply List.map_congr_left
  intro y _
  by_cases hn : y.n = x.n
  · simp [hn]
  · simp [hn]
theorem foot_upd (b r : Nat) (L : List Rec) (x : Rec) (A : Ar) : foot b r (updRec L x A) = foot b r L := by
  simp only [foot, (updRec_same L x A).2.1]
theorem MemAt.upd {w w' : World} {b r : Nat} {L : List Rec} (h : MemAt w b r L) {x : Rec} (hx : x ∈ L) (A : Ar) (hf : A.fixed = x.A.fixed) (hl : A.bytes.length = x.A.bytes.length) (hp : A.put.length = A.bytes.length) (hu : ∀ q ∈ A.bytes, 0 ≤ q ∧ q ≤ 255)
    (k : Keep [x.g, x.p] w w') (HG : w'.heap[x.g]? = some (.cells (A.bytes.flatMap fun x => [Value.int .u8 x]).toArray 5 (0, 0))) (HP : w'.heap[x.p]? = some (.cells (A.put.flatMap fun x => [Value.bool x]).toArray 4 (0, 0))) :
    MemAt w' b r (updRec L x A) := by
  obtain ⟨s1, s2, s3⟩ := updRec_same L x A
  have h0 := List.nodup_cons.1 h.apart
  have h1 := List.nodup_cons.1 h0.2
  have hmem : ∀ j ∈ Rec.blocks x, j ∈ L.flatMap Rec.blocks := fun j hj => List.mem_flatMap.2 ⟨x, hx, hj⟩
  have hbF : b ∉ [x.g, x.p] := by
    intro hb
    simp only [List.mem_cons, List.not_mem_nil, or_false] at hb
    exact h0.1 (List.mem_cons_of_mem _ (hmem b (by simp only [Rec.blocks, List.mem_cons, List.not_mem_nil, or_false]; exact .inr hb)))
  have hrF : r ∉ [x.g, x.p] := by
    intro hb
    simp only [List.mem_cons, List.not_mem_nil, or_false] at hb
    exact h1.1 (hmem r (by simp only [Rec.blocks, List.mem_cons, List.not_mem_nil, or_false]; exact .inr hb))
  refine ⟨k.obj h.head hbF, by rw [s1]; exact h.map.keep k hrF, ?_, by rw [s2]; exact h.apart, ?_, by rw [s3]; exact h.uniq⟩
  · intro y' hy'
    obtain ⟨y, hy, rfl⟩ := List.mem_map.1 hy'
    by_cases hn : y.n == x.n
    · have e : y = x := uniq_eq h.uniq hy hx (by simpa using hn)
      subst e
      have hR := h.recs y hy
      simp only [hn, if_true]
      refine ⟨?_, HG, HP, hp, by rw [hl]; exact hR.small, hu⟩
      have := k.obj hR.area (h.rec_apart hy).1
      simp only [hl, hf]
      exact this
    · have hne : y ≠ x := fun e => hn (by rw [e]; simp)
      simp only [hn, Bool.false_eq_true, if_false]
      have ho : ∀ j ∈ Rec.blocks y, j ∉ [x.g, x.p] := by
        intro j hj hj'
        refine (h.other hy hx hne hj).1 ?_
        simp only [List.mem_cons, List.not_mem_nil, or_false] at hj'
        simp only [Rec.blocks, List.mem_cons, List.not_mem_nil, or_false]
        exact .inr hj'
      exact (h.recs y hy).keep k (ho _ (by simp [Rec.blocks])) (ho _ (by simp [Rec.blocks])) (ho _ (by simp [Rec.blocks]))
  · intro y' hy'
    obtain ⟨y, hy, rfl⟩ := List.mem_map.1 hy'
    have := h.keys y hy
    by_cases hn : y.n == x.n <;> simpa [hn] using this

theorem lookup_none {α : Type} {L : List (Int × α)} {n : Int} (h : L.lookup n = none) : ∀ q ∈ L, q.1 ≠ n := by
  induction L with
  | nil => simp
  | cons y L ih =>
    by_cases e : n == y.1
    · simp [List.lookup, e] at h
    · have e' : (n == y.1) = false := by simpa using e
      simp only [List.lookup, e'] at h
      intro q hq
      rcases List.mem_cons.1 hq with rfl | hq
      · exact fun e' => e (by simp [e'])
      · exact ih h q hq
/-- An area more. -/
theorem MemAt.push {w w' : World} {b r : Nat} {L : List Rec} (h : MemAt w b r L) {x : Rec} (hl : (view L).lookup x.n = none) (hn : 1 ≤ x.n ∧ x.n ≤ 2147483647) (k : Keep [r] w w') (hm : MapObj w' r (ints .i64 (L.map Rec.pair ++ [x.pair])))
    (hx : RecAt w' x) {B : Nat} (hB : ∀ j ∈ foot b r L, j < B) (hfr : B ≤ x.a ∧ B ≤ x.g ∧ B ≤ x.p) (hap : x.a ≠ x.g ∧ x.a ≠ x.p ∧ x.g ≠ x.p) :
    MemAt w' b r (L ++ [x]) := by
  have h0 := List.nodup_cons.1 h.apart
  have h1 := List.nodup_cons.1 h0.2
  refine ⟨k.obj h.head (by simp only [List.mem_singleton]; intro e; exact h0.1 (by rw [e]; exact List.mem_cons_self)), by rw [List.map_append]; exact hm, ?_, ?_, ?_, ?_⟩
  · intro y hy
    rcases List.mem_append.1 hy with hy | hy
    · have hb : ∀ j ∈ Rec.blocks y, j ∉ [r] := by
        intro j hj hj'
        rw [List.mem_singleton] at hj'
        subst hj'
        exact h1.1 (List.mem_flatMap.2 ⟨y, hy, hj⟩)
      exact (h.recs y hy).keep k (hb _ (by simp [Rec.blocks])) (hb _ (by simp [Rec.blocks])) (hb _ (by simp [Rec.blocks]))
    · rw [List.mem_singleton] at hy
      subst hy
      exact hx
  · have e : b :: r :: (L ++ [x]).flatMap Rec.blocks = (b :: r :: L.flatMap Rec.blocks) ++ Rec.blocks x := by simp
    rw [e, List.nodup_append]
    refine ⟨h.apart, by simp [Rec.blocks, hap], ?_⟩
    intro j hj j' hj' e'
    have := hB j hj
    simp only [Rec.blocks, List.mem_cons, List.not_mem_nil, or_false] at hj'
    rcases hj' with rfl | rfl | rfl <;> omega
  · intro y hy
    rcases List.mem_append.1 hy with hy | hy
    · exact h.keys y hy
    · rw [List.mem_singleton] at hy
      subst hy
      exact hn
  · rw [List.map_append, List.nodup_append]
    refine ⟨h.uniq, by simp, ?_⟩
    intro j hj j' hj' e'
    obtain ⟨y, hy, rfl⟩ := List.mem_map.1 hj
    simp only [List.map_cons, List.map_nil, List.mem_singleton] at hj'
    subst hj'
    exact lookup_none hl (y.n, y.A) (List.mem_map.2 ⟨y, hy, rfl⟩) e'
theorem foot_push (b r : Nat) (L : List Rec) (x : Rec) : ∀ k ∈ foot b r (L ++ [x]), k ∈ foot b r L ∨ k ∈ Rec.blocks x := by
  intro k hk
  simp only [foot, List.flatMap_append, List.flatMap_cons, List.flatMap_nil, List.append_nil, List.mem_cons, List.mem_append] at hk ⊢
  rcases hk with h | h | h | h
  · exact .inl (.inl h)
  · exact .inl (.inr (.inl h))
  · exact .inl (.inr (.inr h))
  · exact .inr h
end Go.Proofs.YtlpeljpjgmapgaaGreat
