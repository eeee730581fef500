/- Memory, as one of the call's own: the contracts told once more. -/
import Derived.Test.YtlpeljpjgmapgaaGreatMemE
namespace Go.Proofs.YtlpeljpjgmapgaaGreat
open Go.RowKit
set_option linter.unusedVariables false
set_option linter.unusedSimpArgs false

/-- Pointer b, made since W, is memory that holds M; nothing of W has turned. -/
structure MemIn (W w : World) (b : Nat) (M : Areas) : Prop where
  ext : Ext W w
  mem : ∃ r L, MemAt w b r L ∧ view L = M ∧ ∀ k ∈ foot b r L, W.heap.size ≤ k
theorem MemIn.go {W w w' : World} {b : Nat} {M : Areas} (h : MemIn W w b M) (k : Ext w w') : MemIn W w' b M := by
  obtain ⟨he, r, L, h1, h2, h3⟩ := h
  exact ⟨he.trans' k, r, L, h1.ext k, h2, h3⟩
def InAns (W : World) (b : Nat) (M : Areas) (r : Value) (e : Ending) (w' : World) : Prop := e = .returned r ∧ MemIn W w' b M
def NewIn (W : World) (e : Ending) (w' : World) : Prop := ∃ b, e = .returned (.pointer (some ⟨b, 0, none⟩)) ∧ MemIn W w' b []
theorem in_new {W w : World} (h : Ext W w) : Calls Tryz.prog 23 #[] w (NewIn W) := by
  refine (mem_new w).mono ?_
  rintro e w' ⟨b, r, rfl, h1, h2, h3, h4⟩
  refine ⟨b, rfl, h.trans' h4, r, [], h1, rfl, ?_⟩
  intro k hk
  have := h.size
  simp only [foot, List.flatMap_nil, List.mem_cons, List.not_mem_nil, or_false] at hk
  rcases hk with rfl | rfl <;> omega
theorem in_make {W w : World} {b : Nat} {M : Areas} (h : MemIn W w b M) (n : Int) (v : Value) (xs : List Int) (blank fixed : Bool) (hv : Sl w .u8 v xs) (hu : ∀ x ∈ xs, 0 ≤ x ∧ x ≤ 255) :
    Calls Tryz.prog 26 #[.pointer (some ⟨b, 0, none⟩), .int .i64 n, v, .bool blank, .bool fixed] w (InAns W b (mmake M n xs blank fixed).1 (.int .i64 (mmake M n xs blank fixed).2)) := by
  obtain ⟨he, r, L, h1, rfl, h3⟩ := h
  refine (mem_make b r L n v xs blank fixed w h1 hv hu).mono ?_
  rintro e w' ⟨rfl, hk, L', hm, hl, hf⟩
  refine ⟨rfl, hk.below he he.size h3, r, L', hm, hl, fun k hk => ?_⟩
  have := he.size
  rcases hf k hk with h | h
  · exact h3 k h
  · omega
theorem in_store {W w : World} {b : Nat} {M : Areas} (h : MemIn W w b M) (p s n : Int) (hp : 0 ≤ p) (H : Hid (p ≤ 18446744073709551615)) (hn : 0 ≤ n) :
    Calls Tryz.prog 52 #[.pointer (some ⟨b, 0, none⟩), .int .u64 p, .int .i64 s, .int .u64 n] w (InAns W b (mstore M p s n).1 (.int .i64 (mstore M p s n).2)) := by
  obtain ⟨he, r, L, h1, rfl, h3⟩ := h
  refine (mem_store b r L p s n w h1 hp H hn).mono ?_
  rintro e w' ⟨rfl, hk, L', hm, hl, hf⟩
  exact ⟨rfl, hk.below he he.size h3, r, L', hm, hl, fun k hk => h3 k (hf ▸ hk)⟩
theorem in_load {W w : World} {b : Nat} {M : Areas} (h : MemIn W w b M) (p s : Int) (hp : 0 ≤ p) (H : Hid (p ≤ 18446744073709551615)) :
    Calls Tryz.prog 100 #[.pointer (some ⟨b, 0, none⟩), .int .u64 p, .int .i64 s] w (InAns W b M (.tuple #[.int .u64 (mload M p s).1, .int .i64 (mload M p s).2])) := by
  have h' := h
  obtain ⟨he, r, L, h1, rfl, h3⟩ := h
  refine (mem_load b r L p s w h1 hp H).mono ?_
  rintro e w' ⟨rfl, hk⟩
  exact ⟨rfl, h'.go hk⟩
/-- Bytes are told, of the call's own, and a second thing. -/
def BytesIn (W : World) (b : Nat) (M : Areas) (xs : List Int) (u : Value) (w : World) (e : Ending) (w' : World) : Prop :=
  ∃ v, e = .returned (.tuple #[v, u]) ∧ Own w' w.heap.size 5 1 (fun x => [Value.int .u8 x]) v xs ∧ MemIn W w' b M ∧ Ext w w'
theorem in_read {W w : World} {b : Nat} {M : Areas} (h : MemIn W w b M) (p s : Int) (hp : 0 ≤ p) (H : Hid (p ≤ 18446744073709551615)) :
    Calls Tryz.prog 143 #[.pointer (some ⟨b, 0, none⟩), .int .u64 p, .int .i64 s] w (BytesIn W b M (mread M p s).1 (.int .i64 (mread M p s).2) w) := by
  have h' := h
  obtain ⟨he, r, L, h1, rfl, h3⟩ := h
  refine (mem_read b r L p s w h1 hp H).mono ?_
  rintro e w' ⟨v, rfl, hv, hk⟩
  exact ⟨v, rfl, hv, h'.go hk, hk⟩
theorem in_area {W w : World} {b : Nat} {M : Areas} (h : MemIn W w b M) (n : Int) :
    Calls Tryz.prog 55 #[.pointer (some ⟨b, 0, none⟩), .int .i64 n] w (BytesIn W b M (marea M n).1 (.bool (marea M n).2) w) := by
  have h' := h
  obtain ⟨he, r, L, h1, rfl, h3⟩ := h
  refine (mem_area b r L n w h1).mono ?_
  rintro e w' ⟨v, rfl, hv, hk⟩
  exact ⟨v, rfl, hv, h'.go hk, hk⟩
theorem in_at (a o : Int) (w : World) : Calls Tryz.prog 17 #[.int .i64 a, .int .i64 o] w fun e w' => e = .returned (.int .u64 (mat a o)) ∧ w' = w := mem_at a o w
theorem mat_le (a o : Int) : 0 ≤ mat a o ∧ mat a o ≤ 18446744073709551615 := by simp only [mat]; omega

/-- make([]byte, n). -/
theorem run_make_u8 (n : Nat) (hn : n ≤ 1000000) (u : World) : (Instr.makeSlice 23 (.int .i64 (n : Int)) (.int .i64 (n : Int))).run Tryz.prog u = .ok (.slice (some ⟨u.heap.size, 0, none⟩) n n) (u.alloc (.cells (madeCells #[.int .u8 0] n) 5)) := by
  obtain ⟨i0, hi0, hz0, hz1, hz2⟩ := info_parts el_u8.info
  have h := run_make (P := Tryz.prog) u 23 5 i0 (.int .u8 0) el_u8.under hi0 hz0 .i64 .i64 (n : Int) (n : Int) (by omega) (Int.le_refl _) (by rw [hz2]; omega) (by omega)
  simpa [hz1, Value.cells] using h
theorem sl_made (u : World) (n : Nat) (hn : n ≤ 1000000) : Sl (u.alloc (.cells (madeCells #[.int .u8 0] n) 5)) .u8 (.slice (some ⟨u.heap.size, 0, none⟩) n n) (List.replicate n 0) := by
  have e : (madeCells #[.int .u8 0] n : Array Value) = ((List.replicate n (0 : Int)).flatMap fun x => [Value.int .u8 x]).toArray := by
    apply Array.toList_inj.1
    rw [toList_madeCells_one, flat1, List.map_replicate]
  rw [e]
  exact (own_obj (base := 0) (enc_int .u8) (obj_top _ _ rfl) (Nat.zero_le _) (by simp) (by simp [maxLen]; omega)).rd (enc_int _)
theorem rep_u8 (n : Nat) : ∀ x ∈ List.replicate n (0 : Int), 0 ≤ x ∧ x ≤ 255 := by
  intro x hx
  rw [List.eq_of_mem_replicate hx]; omega
end Go.Proofs.YtlpeljpjgmapgaaGreat
