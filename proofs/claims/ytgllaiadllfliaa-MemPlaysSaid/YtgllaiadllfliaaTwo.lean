/- Both memories in one heap: the program's and the document's. -/
import Derived.Test.YtgllaiadllfliaaRefD
namespace Go.Proofs.Ytgllaiadllfliaa
open Go.RowKit
set_option linter.unusedVariables false
set_option linter.unusedSimpArgs false

theorem Keep.through {F0 F : List Nat} {wf w w' : World} (h : Keep F0 wf w) (k : Keep F w w') (hF : ∀ j ∈ F, j ∈ F0 ∨ wf.heap.size ≤ j) : Keep F0 wf w' :=
  ⟨k.os.trans h.os, k.tape.trans h.tape, k.output.trans h.output, Nat.le_trans h.size k.size, fun i hi hF0 => (k.block i (Nat.lt_of_lt_of_le hi h.size) (fun hj => (hF i hj).elim hF0 (fun h' => by omega))).trans (h.block i hi hF0)⟩
/-- The program's memory holds M1, the document's M2; in other blocks; of what was there when w was wf, but the blocks F0, nothing has turned. -/
structure Two (F0 : List Nat) (wf : World) (base : Nat) (w : World) (b rb : Nat) (M1 M2 : Areas) : Prop where
  keep : Keep F0 wf w
  low : base ≤ wf.heap.size
  mem : ∃ r L lv R, MemAt w b r L ∧ view L = M1 ∧ RefAt w base rb lv R ∧ viewR R = M2 ∧ (∀ k ∈ foot b r L, k ∉ rfoot rb lv R) ∧ (∀ k ∈ foot b r L, k ∈ F0 ∨ wf.heap.size ≤ k) ∧ (∀ k ∈ rfoot rb lv R, k ∈ F0 ∨ wf.heap.size ≤ k)
section
variable {F0 : List Nat} {wf w w' : World} {base b rb : Nat} {M1 M2 : Areas}
theorem Two.go (h : Two F0 wf base w b rb M1 M2) (k : Ext w w') : Two F0 wf base w' b rb M1 M2 := by
  obtain ⟨h0, hl, r, L, lv, R, h1, h2, h3, h4, h5, h6, h7⟩ := h
  exact ⟨h0.through (F := []) (Keep.of_ext k) (fun _ hj => by cases hj), hl, r, L, lv, R, h1.ext k, h2, h3.ext k, h4, h5, h6, h7⟩
/-- One goes on from here; what comes of it is one of the elder world's too. -/
theorem Two.step (h : Two F0 wf base w b rb M1 M2) (k : Ext w w') : ∃ F1, (∀ j ∈ F1, j < w.heap.size) ∧ Two F1 w' base w' b rb M1 M2 ∧ ∀ w'' N1 N2, Two F1 w' base w'' b rb N1 N2 → Two F0 wf base w'' b rb N1 N2 := by
  have hg := h.go k
  obtain ⟨h0, hl, r, L, lv, R, h1, h2, h3, h4, h5, h6, h7⟩ := h
  have hF : ∀ j ∈ foot b r L ++ rfoot rb lv R, j ∈ F0 ∨ wf.heap.size ≤ j := fun j hj => (List.mem_append.1 hj).elim (h6 j) (h7 j)
  refine ⟨foot b r L ++ rfoot rb lv R, fun j hj => (List.mem_append.1 hj).elim (h1.lt j) (fun hj => (h3.lt j hj).2), ⟨Keep.rfl' _ _, by have := h0.size; have := k.size; omega, r, L, lv, R, h1.ext k, h2, h3.ext k, h4, h5, fun j hj => .inl (List.mem_append_left _ hj), fun j hj => .inl (List.mem_append_right _ hj)⟩, ?_⟩
  rintro w'' N1 N2 ⟨k0, kl, r', L', lv', R', k1, k2, k3, k4, k5, k6, k7⟩
  have hs := hg.keep.size
  exact ⟨hg.keep.through k0 hF, hl, r', L', lv', R', k1, k2, k3, k4, k5, fun j hj => (k6 j hj).elim (hF j) (fun h => .inr (by omega)), fun j hj => (k7 j hj).elim (hF j) (fun h => .inr (by omega))⟩
def TwoAns (F0 : List Nat) (wf : World) (base b rb : Nat) (M1 M2 : Areas) (r : Value) (e : Ending) (w' : World) : Prop := e = .returned r ∧ Two F0 wf base w' b rb M1 M2
theorem two_store (h : Two F0 wf base w b rb M1 M2) (p s n : Int) (hp : 0 ≤ p) (H : Hid (p ≤ 18446744073709551615)) (hn : 0 ≤ n) :
    Calls Try.prog 12 #[.pointer (some ⟨b, 0, none⟩), .int .u64 p, .int .i64 s, .int .u64 n] w (TwoAns F0 wf base b rb (mstore M1 p s n).1 M2 (.int .i64 (mstore M1 p s n).2)) := by
  obtain ⟨h0, hl, r, L, lv, R, h1, rfl, h3, h4, h5, h6, h7⟩ := h
  refine (mem_store b r L p s n w h1 hp H hn).mono ?_
  rintro e w' ⟨rfl, hk, L', k1, k2, k3⟩
  exact ⟨rfl, h0.through hk h6, hl, r, L', lv, R, k1, k2, h3.keep hk (fun j hj hj' => h5 j hj' hj), h4, by rw [k3]; exact h5, by rw [k3]; exact h6, h7⟩
theorem two_make (h : Two F0 wf base w b rb M1 M2) (n : Int) (v : Value) (xs : List Int) (blank fixed : Bool) (hv : Sl w .u8 v xs) (hu : ∀ x ∈ xs, 0 ≤ x ∧ x ≤ 255) :
    Calls Try.prog 11 #[.pointer (some ⟨b, 0, none⟩), .int .i64 n, v, .bool blank, .bool fixed] w (TwoAns F0 wf base b rb (mmake M1 n xs blank fixed).1 M2 (.int .i64 (mmake M1 n xs blank fixed).2)) := by
  obtain ⟨h0, hl, r, L, lv, R, h1, rfl, h3, h4, h5, h6, h7⟩ := h
  refine (mem_make b r L n v xs blank fixed w h1 hv hu).mono ?_
  rintro e w' ⟨rfl, hk, L', k1, k2, k3⟩
  have hs := h0.size
  exact ⟨rfl, h0.through hk h6, hl, r, L', lv, R, k1, k2, h3.keep hk (fun j hj hj' => h5 j hj' hj), h4, fun j hj hj' => (k3 j hj).elim (fun h => h5 j h hj') (fun h => by have := (h3.lt j hj').2; omega), fun j hj => (k3 j hj).elim (h6 j) (fun h => .inr (by omega)), h7⟩
theorem two_load (h : Two F0 wf base w b rb M1 M2) (p s : Int) (hp : 0 ≤ p) (H : Hid (p ≤ 18446744073709551615)) :
    Calls Try.prog 14 #[.pointer (some ⟨b, 0, none⟩), .int .u64 p, .int .i64 s] w (TwoAns F0 wf base b rb M1 M2 (.tuple #[.int .u64 (mload M1 p s).1, .int .i64 (mload M1 p s).2])) := by
  have h' := h
  obtain ⟨h0, hl, r, L, lv, R, h1, rfl, h3, h4, h5, h6, h7⟩ := h
  refine (mem_load b r L p s w h1 hp H).mono ?_
  rintro e w' ⟨rfl, hk⟩
  exact ⟨rfl, h'.go hk⟩
/-- Bytes are told, and a second thing. -/
def TwoBytes (F0 : List Nat) (wf : World) (base b rb : Nat) (M1 M2 : Areas) (xs : List Int) (u : Value) (w : World) (e : Ending) (w' : World) : Prop :=
  ∃ v, e = .returned (.tuple #[v, u]) ∧ Sl w' .u8 v xs ∧ Two F0 wf base w' b rb M1 M2 ∧ Ext w w'
theorem two_read (h : Two F0 wf base w b rb M1 M2) (p s : Int) (hp : 0 ≤ p) (H : Hid (p ≤ 18446744073709551615)) :
    Calls Try.prog 15 #[.pointer (some ⟨b, 0, none⟩), .int .u64 p, .int .i64 s] w (TwoBytes F0 wf base b rb M1 M2 (mread M1 p s).1 (.int .i64 (mread M1 p s).2) w) := by
  have h' := h
  obtain ⟨h0, hl, r, L, lv, R, h1, rfl, h3, h4, h5, h6, h7⟩ := h
  refine (mem_read b r L p s w h1 hp H).mono ?_
  rintro e w' ⟨v, rfl, hv, hk⟩
  exact ⟨v, rfl, hv.rd (enc_int _), h'.go hk, hk⟩
theorem two_area (h : Two F0 wf base w b rb M1 M2) (n : Int) :
    Calls Try.prog 22 #[.pointer (some ⟨b, 0, none⟩), .int .i64 n] w (TwoBytes F0 wf base b rb M1 M2 (marea M1 n).1 (.bool (marea M1 n).2) w) := by
  have h' := h
  obtain ⟨h0, hl, r, L, lv, R, h1, rfl, h3, h4, h5, h6, h7⟩ := h
  refine (mem_area b r L n w h1).mono ?_
  rintro e w' ⟨v, rfl, hv, hk⟩
  exact ⟨v, rfl, hv.rd (enc_int _), h'.go hk, hk⟩
theorem two_rstore (h : Two F0 wf base w b rb M1 M2) (p s n : Int) (hp : 0 ≤ p) (H : Hid (p ≤ 18446744073709551615)) (hn : 0 ≤ n) (HN : Hid (n ≤ 18446744073709551615)) :
    Calls Try.prog 21 #[.pointer (some ⟨rb, 0, none⟩), .int .u64 p, .int .i64 s, .int .u64 n] w (TwoAns F0 wf base b rb M1 (mstore M2 p s n).1 (.int .i64 (mstore M2 p s n).2)) := by
  obtain ⟨h0, hl, r, L, lv, R, h1, h2, h3, rfl, h5, h6, h7⟩ := h
  refine (ref_store base rb lv R p s n w h3 hp H hn HN).mono ?_
  rintro e w' ⟨rfl, hk, L', k1, k2, k3⟩
  exact ⟨rfl, h0.through hk h7, hl, r, L, lv, L', h1.keep hk (fun j hj hj' => h5 j hj hj'), h2, k1, k2, by rw [k3]; exact h5, h6, by rw [k3]; exact h7⟩
theorem two_rmake (h : Two F0 wf base w b rb M1 M2) (n : Int) (v : Value) (xs : List Int) (blank fixed : Bool) (hv : Sl w .u8 v xs) (hu : ∀ x ∈ xs, 0 ≤ x ∧ x ≤ 255) :
    Calls Try.prog 18 #[.pointer (some ⟨rb, 0, none⟩), .int .i64 n, v, .bool blank, .bool fixed] w (TwoAns F0 wf base b rb M1 (mmake M2 n xs blank fixed).1 (.int .i64 (mmake M2 n xs blank fixed).2)) := by
  obtain ⟨h0, hl, r, L, lv, R, h1, h2, h3, rfl, h5, h6, h7⟩ := h
  have hs := h0.size
  refine (ref_make base rb lv R n v xs blank fixed w h3 (by omega) hv hu).mono ?_
  rintro e w' ⟨rfl, hk, lv', L', k1, k2, k3⟩
  exact ⟨rfl, h0.through hk h7, hl, r, L, lv', L', h1.keep hk (fun j hj hj' => h5 j hj hj'), h2, k1, k2, fun j hj hj' => (k3 j hj').elim (fun h => h5 j hj h) (fun h => by have := h1.lt j hj; omega), h6, fun j hj => (k3 j hj).elim (h7 j) (fun h => .inr (by omega))⟩
theorem two_rload (h : Two F0 wf base w b rb M1 M2) (p s : Int) (hp : 0 ≤ p) (H : Hid (p ≤ 18446744073709551615)) :
    Calls Try.prog 19 #[.pointer (some ⟨rb, 0, none⟩), .int .u64 p, .int .i64 s] w (TwoAns F0 wf base b rb M1 M2 (.tuple #[.int .u64 (mload M2 p s).1, .int .i64 (mload M2 p s).2])) := by
  have h' := h
  obtain ⟨h0, hl, r, L, lv, R, h1, h2, h3, rfl, h5, h6, h7⟩ := h
  refine (ref_load base rb lv R p s w h3 hp H).mono ?_
  rintro e w' ⟨rfl, hk⟩
  exact ⟨rfl, h'.go hk⟩
theorem two_rread (h : Two F0 wf base w b rb M1 M2) (p s : Int) (hp : 0 ≤ p) (H : Hid (p ≤ 18446744073709551615)) :
    Calls Try.prog 20 #[.pointer (some ⟨rb, 0, none⟩), .int .u64 p, .int .i64 s] w (TwoBytes F0 wf base b rb M1 M2 (mread M2 p s).1 (.int .i64 (mread M2 p s).2) w) := by
  have h' := h
  obtain ⟨h0, hl, r, L, lv, R, h1, h2, h3, rfl, h5, h6, h7⟩ := h
  refine (ref_read base rb lv R p s w h3 hp H).mono ?_
  rintro e w' ⟨v, rfl, hv, hk⟩
  exact ⟨v, rfl, hv.rd (enc_int _), h'.go hk, hk⟩
theorem two_rarea (h : Two F0 wf base w b rb M1 M2) (n : Int) :
    Calls Try.prog 23 #[.pointer (some ⟨rb, 0, none⟩), .int .i64 n] w (TwoBytes F0 wf base b rb M1 M2 (marea M2 n).1 (.bool (marea M2 n).2) w) := by
  have h' := h
  obtain ⟨h0, hl, r, L, lv, R, h1, h2, h3, rfl, h5, h6, h7⟩ := h
  refine (ref_area base rb lv R n w h3).mono ?_
  rintro e w' ⟨v, rfl, hv, rfl⟩
  exact ⟨v, rfl, hv, h', Ext.rfl' _⟩
/-- Both are new, whatever was made behind them. -/
theorem two_new {W w3 : World} {r : Nat} (h1 : MemAt w b r []) (hb : W.heap.size ≤ b ∧ W.heap.size ≤ r) (hE : Ext W w) (h3 : Ext (w.alloc (.cells #[.slice none 0 0] 44)) w3) : Two [b, r, w.heap.size] w3 W.heap.size w3 b w.heap.size [] [] := by
  have hs := hE.size
  have hs3 := h3.size
  simp at hs3
  have hbl : ∀ k ∈ foot b r [], k < w.heap.size := h1.lt
  refine ⟨Keep.rfl' _ _, by omega, r, [], .slice none 0 0, [], (h1.ext ((Ext.rfl' w).alloc' _)).ext h3, rfl, RefAt.ext ⟨obj_top _ _ rfl, hs, Own.nil _ _ _ _ _, fun x hx => by simp at hx, fun x hx => by simp at hx, by simp [Value.ownBlock], fun x hx => by simp at hx, by simp⟩ h3, rfl, ?_, ?_, ?_⟩
  · intro k hk hk'
    have := hbl k hk
    simp [rfoot, Value.ownBlock] at hk'
    omega
  · intro k hk
    simp [foot] at hk
    rcases hk with rfl | rfl <;> simp
  · intro k hk
    simp [rfoot, Value.ownBlock] at hk
    subst hk
    simp
end
end Go.Proofs.Ytgllaiadllfliaa
