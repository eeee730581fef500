/- Maps whose keys are integers (or strings), as lists of pairs; blocks of the heap one by one. Over any program. -/
import Derived.Test.YtlpeljpjgmapgaaGreatBase2
namespace Go.Proofs.YtlpeljpjgmapgaaGreat
open Go.RowKit
set_option linter.unusedVariables false
set_option linter.unusedSimpArgs false

/-- All but the blocks of F are as they were; nothing is gone. -/
structure Keep (F : List Nat) (w w' : World) : Prop where
  os : w'.os = w.os
  tape : w'.tape = w.tape
  output : w'.output = w.output
  size : w.heap.size ≤ w'.heap.size
  block : ∀ k, k < w.heap.size → k ∉ F → w'.heap[k]? = w.heap[k]?
theorem Keep.rfl' (F : List Nat) (w : World) : Keep F w w := ⟨rfl, rfl, rfl, Nat.le_refl _, fun _ _ _ => rfl⟩
theorem Keep.trans {F : List Nat} {a b c : World} (h : Keep F a b) (k : Keep F b c) : Keep F a c :=
  ⟨k.os.trans h.os, k.tape.trans h.tape, k.output.trans h.output, Nat.le_trans h.size k.size, fun i hi hF => (k.block i (Nat.lt_of_lt_of_le hi h.size) hF).trans (h.block i hi hF)⟩
theorem Keep.mono {F G : List Nat} {w w' : World} (h : Keep F w w') (hs : ∀ k ∈ F, k ∈ G ∨ w.heap.size ≤ k) : Keep G w w' :=
  ⟨h.os, h.tape, h.output, h.size, fun k hk hG => h.block k hk (fun hF => (hs k hF).elim hG (fun h' => by omega))⟩
theorem Keep.of_ext {F : List Nat} {w w' : World} (h : Ext w w') : Keep F w w' := ⟨h.os, h.tape, h.output, h.size, fun k hk _ => h.block k hk⟩
theorem Keep.ext {F : List Nat} {w w' : World} (h : Keep F w w') (hF : ∀ k ∈ F, w.heap.size ≤ k) : Ext w w' :=
  ⟨h.os, h.tape, h.output, h.size, fun k hk => h.block k hk (fun hk' => by have := hF k hk'; omega)⟩
theorem Keep.below {F : List Nat} {B : Nat} {W w w' : World} (h : Keep F w w') (hb : Below B W w) (hB : B ≤ w.heap.size) (hF : ∀ k ∈ F, B ≤ k) : Below B W w' :=
  ⟨h.os.trans hb.os, h.tape.trans hb.tape, h.output.trans hb.output, Nat.le_trans hb.size h.size, fun k hk => (h.block k (by omega) (fun hk' => by have := hF k hk'; omega)).trans (hb.block k hk)⟩

theorem Keep.setCell {F : List Nat} {w W : World} (h : Keep F w W) {a : Addr} (ha : a.block ∈ F) (v : Value) : Keep F w (W.setCell a v) :=
  ⟨h.os, h.tape, h.output, by simpa using h.size, fun k hk hF => (Below.heap_setCell _ _ _ _ (fun e => hF (by rw [e]; exact ha))).trans (h.block k hk hF)⟩
theorem Keep.drewN {F : List Nat} {w W : World} (h : Keep F w W) (n : Nat) : Keep F w (W.drewN n) := ⟨h.os, h.tape, h.output, h.size, h.block⟩
theorem Keep.drew {F : List Nat} {w W : World} (h : Keep F w W) : Keep F w W.drew := ⟨h.os, h.tape, h.output, h.size, h.block⟩
/-- A block holds this. -/
theorem heap_lt {w : World} {k : Nat} {o : Obj} (h : w.heap[k]? = some o) : k < w.heap.size := (Array.getElem?_eq_some_iff.1 h).1
theorem Keep.obj {F : List Nat} {w w' : World} (h : Keep F w w') {k : Nat} {o : Obj} (ho : w.heap[k]? = some o) (hF : k ∉ F) : w'.heap[k]? = some o :=
  (h.block k (heap_lt ho) hF).trans ho
theorem Ext.obj {w w' : World} (h : Ext w w') {k : Nat} {o : Obj} (ho : w.heap[k]? = some o) : w'.heap[k]? = some o := (h.block k (heap_lt ho)).trans ho
theorem cell_obj {w : World} {k i : Nat} {cs : Array Value} {t : TypeId} {fr : Nat × Nat} (h : w.heap[k]? = some (.cells cs t fr)) : w.cell? ⟨k, i, none⟩ = cs[i]? := by simp [World.cell?, h]
theorem frozen_obj {w : World} {k i : Nat} {cs : Array Value} {t : TypeId} (h : w.heap[k]? = some (.cells cs t (0, 0))) : w.frozen? ⟨k, i, none⟩ = false := by simp [World.frozen?, h]
theorem obj_top (w : World) (o : Obj) {k : Nat} (h : k = w.heap.size) : (w.alloc o).heap[k]? = some o := by subst h; exact heap_alloc_new w o
theorem obj_old {w : World} {k : Nat} {x : Obj} (o : Obj) (h : w.heap[k]? = some x) : (w.alloc o).heap[k]? = some x := (heap_alloc_old w o (heap_lt h)).trans h
/-- A block that holds the cells of a list is a slice's own row. -/
theorem own_obj {α : Type} {w : World} {base k n : Nat} {e : TypeId} {sz : Nat} {enc : α → List Value} {xs : List α} (E : Enc sz enc) (h : w.heap[k]? = some (.cells (xs.flatMap enc).toArray e (0, 0))) (hb : base ≤ k) (hn : n = xs.length) (hm : xs.length ≤ maxLen) :
    Own w base e sz enc (.slice (some ⟨k, 0, none⟩) n n) xs := by
  subst hn
  refine ⟨flat_len E.len xs, .inr ⟨k, xs.length, _, rfl, hb, h, Nat.le_refl _, hm, by simp [flat_len E.len], ?_⟩⟩
  simp only []
  exact List.take_of_length_le (by simp [flat_len E.len])

/-- Block r is a map that holds these pairs, in the order in which they came. -/
def MapObj (w : World) (r : Nat) (ps : List (Value × Value)) : Prop :=
  ∃ es clock, w.heap[r]? = some (.map es clock) ∧ es.toList.map (fun e => (e.key, e.val)) = ps
theorem MapObj.lt {w : World} {r : Nat} {ps : List (Value × Value)} (h : MapObj w r ps) : r < w.heap.size := by
  obtain ⟨es, c, h1, _⟩ := h
  exact heap_lt h1
theorem MapObj.keep {F : List Nat} {w w' : World} {r : Nat} {ps : List (Value × Value)} (h : MapObj w r ps) (k : Keep F w w') (hF : r ∉ F) : MapObj w' r ps := by
  obtain ⟨es, c, h1, h2⟩ := h
  exact ⟨es, c, k.obj h1 hF, h2⟩
theorem MapObj.ext {w w' : World} {r : Nat} {ps : List (Value × Value)} (h : MapObj w r ps) (k : Ext w w') : MapObj w' r ps := by
  obtain ⟨es, c, h1, h2⟩ := h
  exact ⟨es, c, k.obj h1, h2⟩
/-- Another object in a block's place. -/
def putObj (w : World) (r : Nat) (o : Obj) : World := { w with heap := w.heap.setIfInBounds r o }
theorem putObj_same {w : World} {r : Nat} {o : Obj} (h : r < w.heap.size) : (putObj w r o).heap[r]? = some o := by
  simp [putObj, h]
theorem putObj_keep (w : World) (r : Nat) (o : Obj) : Keep [r] w (putObj w r o) :=
  ⟨rfl, rfl, rfl, by simp [putObj], fun k hk hF => by simp only [putObj]; rw [Array.getElem?_setIfInBounds_ne (by simpa using fun e => hF (by simp [e]))]⟩

/-- Integers as keys. -/
abbrev ints (k : IntKind) (L : List (Int × Value)) : List (Value × Value) := L.map fun p => (Value.int k p.1, p.2)

theorem findNow_int (k : IntKind) (n : Int) : ∀ (es : List MapEntry) (i : Nat) (L : List (Int × Value)), es.map (fun e => (e.key, e.val)) = ints k L →
    (Instr.findNow (.int k) (.int k n) es i = some (match L.lookup n with | none => none | some v => some (i + L.findIdx (fun p => p.1 == n), v)))
  | [], i, L, h => by
    cases L with
    | nil => rfl
    | cons p L => simp at h
  | e :: es, i, L, h => by
    cases L with
    | nil => simp at h
    | cons p L =>
      simp only [List.map_cons, List.cons.injEq, Prod.mk.injEq] at h
      obtain ⟨⟨h1, h2⟩, h3⟩ := h
      obtain ⟨m, v⟩ := p
      simp only at h1 h2
      have hs : Instr.sameNow (.int k) (.int k n) e.key = some (n == m) := by rw [h1]; simp [Instr.sameNow]
      unfold Instr.findNow
      rw [hs]
      by_cases hnm : n = m
      · subst hnm
        simp [List.lookup, h2, List.findIdx_cons]
      · have hb : (n == m) = false := by simpa using hnm
        have hb' : (m == n) = false := by simpa using fun e => hnm e.symm
        simp only [hb]
        rw [findNow_int k n es (i + 1) L h3]
        simp only [List.lookup, hb, List.findIdx_cons, hb', cond_false]
        cases L.lookup n with
        | none => rfl
        | some u => simp; omega

section
variable {P : Program} {T K E : TypeId} {k : IntKind} {w : World} {r : Nat} {L : List (Int × Value)}
theorem run_lookup_int (hT : P.underlying T = some (.map K E)) (hK : P.underlying K = some (.int k)) {z : Value} (hz : ∀ W, (zeroValue E).run P W = .ok z W) (h : MapObj w r (ints k L)) (n : Int) :
    (Instr.lookup T (.map (some r)) (.int k n) false).run P w = .ok ((L.lookup n).getD z) w ∧
    (Instr.lookup T (.map (some r)) (.int k n) true).run P w = .ok (.tuple #[(L.lookup n).getD z, .bool (L.lookup n).isSome]) w := by
  obtain ⟨es, clock, hb, he⟩ := h
  have hf : ∀ e : Bool, (Instr.checkKey e 10000 K (.int k n)).run P w = .ok () w := fun e => by
    have : ∀ m : Nat, (Instr.checkKey e (m + 1) K (.int k n)).run P w = .ok () w := fun m => by simp [Instr.checkKey, run_underlying hK]
    exact this 9999
  have hfk : (Instr.findKey K (.int k n) es.toList).run P w = .ok (match L.lookup n with | none => none | some v => some (0 + L.findIdx (fun p => p.1 == n), v)) w := by
    simp only [Instr.findKey, Sem.run_bind, run_underlying hK, Result.andThen, findNow_int k n es.toList 0 L he]
    rfl
  have hg : ∀ {α : Type} (f : Obj → Sem α), (getObj r >>= f).run P w = (f (.map es clock)).run P w := fun f => by
    simp [getObj, Sem.run_bind, Sem.run, hb]
  constructor
  · unfold Instr.lookup
    simp only [Sem.run_bind, run_underlying hT, Result.andThen]
    simp [getObj, Sem.run, hb, hf, hfk, Result.andThen, hz]
    cases hl : L.lookup n with
    | none => simp [hz, Result.andThen]
    | some v => simp
  · unfold Instr.lookup
    simp only [Sem.run_bind, run_underlying hT, Result.andThen]
    simp [getObj, Sem.run, hb, hf, hfk, Result.andThen, hz]
    cases hl : L.lookup n with
    | none => simp [hz, Result.andThen]
    | some v => simp

theorem run_update_new (hT : P.underlying T = some (.map K E)) (hK : P.underlying K = some (.int k)) (h : MapObj w r (ints k L)) (n : Int) (x : Value) (hl : L.lookup n = none) :
    ∃ w', (Instr.mapUpdate T (.map (some r)) (.int k n) x).run P w = .ok () w' ∧ MapObj w' r (ints k (L ++ [(n, x)])) ∧ Keep [r] w w' := by
  obtain ⟨es, clock, hb, he⟩ := h
  have hf : ∀ e : Bool, (Instr.checkKey e 10000 K (.int k n)).run P w = .ok () w := fun e => by
    have : ∀ m : Nat, (Instr.checkKey e (m + 1) K (.int k n)).run P w = .ok () w := fun m => by simp [Instr.checkKey, run_underlying hK]
    exact this 9999
  have hfk : (Instr.findKey K (.int k n) es.toList).run P w = .ok none w := by
    simp only [Instr.findKey, Sem.run_bind, run_underlying hK, Result.andThen, findNow_int k n es.toList 0 L he, hl]
    rfl
  refine ⟨putObj w r (.map (es.push { key := .int k n, val := x, born := clock }) (clock + 1)), ?_, ⟨_, _, putObj_same (heap_lt hb), ?_⟩, putObj_keep _ _ _⟩
  · unfold Instr.mapUpdate
    simp only [Sem.run_bind, run_underlying hT, Result.andThen]
    simp [getObj, setObj, Sem.run, hb, hf, hfk, Result.andThen, putObj]
  · simp [he]
/-- The pairs, the one of this key with another value. -/
def setKey {α β : Type} [BEq α] (L : List (α × β)) (n : α) (x : β) : List (α × β) := L.map fun p => if p.1 == n then (p.1, x) else p
end
end Go.Proofs.YtlpeljpjgmapgaaGreat
