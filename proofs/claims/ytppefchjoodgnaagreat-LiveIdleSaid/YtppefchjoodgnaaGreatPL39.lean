/- What the claim leans on: Open · OpenIns. -/
import Derived.Test.YtppefchjoodgnaaGreatPL38
import Derived.Deep.Slices
import Derived.Test.YtppefchjoodgnaaGreatRows
import Derived.Test.YtppefchjoodgnaaGreatPL15
namespace Go.Proofs.YtppefchjoodgnaaGreat
open Go.RowKit Go.ChangeShapes Go.WideShapes Go.ChangeAt Go.Deep
set_option linter.unusedVariables false
set_option linter.unusedSimpArgs false
theorem list_of {α : Type} (Q : Nat → α → Prop) : ∀ n : Nat, (∀ i, i < n → ∃ x, Q i x) → ∃ xs : List α, xs.length = n ∧ ∀ i x, xs[i]? = some x → Q i x
 | 0, _ => ⟨[], rfl, fun i x hx => by simp at hx⟩
 | n + 1, h => by
  obtain ⟨xs, hl, hq⟩ := list_of Q n (fun i hi => h i (by omega))
  obtain ⟨x, hx⟩ := h n (by omega)
  refine ⟨xs ++ [x], by simp [hl], fun i y hy => ?_⟩
  by_cases hi : i < n
  ·rw [List.getElem?_append_left (by omega)] at hy
   exact hq i y hy
  ·rw [List.getElem?_append_right (by omega), hl] at hy
   by_cases h0 : i = n
   ·subst h0
    simp at hy
    subst hy
    exact hx
   ·rw [List.getElem?_eq_none (by simp; omega)] at hy
    cases hy
section
variable {H : Type} {tok : TypeId × Value → H} {P : Program}
theorem open_rows {α : Type} {enc : α → List Value} {sz : Nat} {ok : α → Prop} {t e : TypeId} (ht : P.underlying t = some (.slice e)) (hc : P.cellsOf e = sz) {W : World} {base : Nat} {v : Value} {d : DataW H} {p : List MemPlace}
  (hel : ∀ (n : Nat) (cs : List Value) (y : DataW H × List MemPlace), DataW.trod tok P W 0 (fun _ => true) true n e cs = some y → ∃ x : α, enc x = cs ∧ ok x)
  (hv : Value.okWide P W .any base t v) (h : DataW.Trod tok P W 0 (fun _ => true) true t v d p) : ∃ xs : List α, Rd W sz enc v xs ∧ ∀ x ∈ xs, ok x := by
 obtain ⟨a0, n0, c0, rfl⟩ := okWide_slice ht hv
 obtain ⟨fuel, hf⟩ := h
 rcases open_slice ht hf with ⟨hcs, hx⟩ | ⟨a, len, cap, m, n, D, Pl, hcs, _, hl, hm, hmm, hx, hall⟩
 ·simp [Value.cells] at hcs
  obtain ⟨rfl, rfl, rfl⟩ := hcs
  exact ⟨[], Rd.nil _ _ _, fun x hx => by simp at hx⟩
 ·simp [Value.cells] at hcs
  obtain ⟨rfl, rfl, rfl⟩ := hcs
  simp only [if_true] at hmm
  obtain ⟨xs, hlen, hq⟩ := list_of (fun i x => (∀ j u, (enc x)[j]? = some u → W.cell? (a.add (i * sz + j)) = some u) ∧ ok x) n0 (fun i hi => by
   obtain ⟨cs', hcc, htr⟩ := hall i (by omega)
   obtain ⟨x, he, hok⟩ := hel n cs' _ htr
   obtain ⟨_, hcl, hat⟩ := World.cells?_some hcc
   refine ⟨x, fun j u hu => ?_, hok⟩
   rw [he] at hu
   have hj : j < P.cellsOf e := by rw [← hcl]; exact (List.getElem?_eq_some_iff.1 hu).1
   have := hat j hj
   rw [hu, hc, Addr.add_add] at this
   exact this)
  refine ⟨xs, ⟨some a, c0, by rw [hlen], by omega, hm, fun e => by simp at e, fun i x hx j u hu => ?_⟩, fun x hx => ?_⟩
  ·simpa [elt] using (hq i x hx).1 j u hu
  ·obtain ⟨i, hi⟩ := List.getElem?_of_mem hx
   exact (hq i x hi).2
theorem open_sl_cell {t e : TypeId} {k : IntKind} (ht : P.underlying t = some (.slice e)) (he : P.underlying e = some (.int k)) (hc : P.cellsOf e = 1) {W : World} {n : Nat} {cs : List Value} {y : DataW H × List MemPlace}
  (hf : DataW.trod tok P W 0 (fun _ => true) true n t cs = some y) : ∃ (a0 : Option Addr) (n0 c0 : Nat) (xs : List Int), cs = [.slice a0 n0 c0] ∧ Sl W k (.slice a0 n0 c0) xs ∧ ∀ x ∈ xs, (Lit.int k x).wf = true := by
 rcases open_ints ht he hc hf with ⟨hcs, hx⟩ | ⟨a, len, cap, zs, hcs, _, hl, hm, hz, hx, hcell, hwz⟩
 ·exact ⟨none, 0, 0, [], hcs, Rd.nil _ _ _, fun x hx => by simp at hx⟩
 ·simp only [if_true] at hz
  have hlen : (zs.take len).length = len := by rw [List.length_take]; omega
  refine ⟨some a, len, cap, zs.take len, hcs, ⟨some a, cap, by rw [hlen], by rw [hlen]; exact hl, hm, fun e => by simp at e, ?_⟩, fun x hx => hwz x (List.mem_of_mem_take hx)⟩
  intro i x hx j u hu
  cases j with
  | succ j => simp at hu
  | zero =>
   simp at hu; subst hu
   have hi : i < len := by have := (List.getElem?_eq_some_iff.1 hx).1; omega
   rw [List.getElem?_take_of_lt hi] at hx
   have := hcell i (by omega)
   rw [List.getD_eq_getElem?_getD, hx] at this
   simpa [elt] using this
end
set_option maxRecDepth 100000 in
theorem open_ins {H : Type} {tok : TypeId × Value → H} {W : World} (n : Nat) (cs : List Value) (y : DataW H × List MemPlace) (h : DataW.trod tok Tryz.prog W 0 (fun _ => true) true n 58 cs = some y) : ∃ x : Ins, Ins.enc x = cs ∧ x.Ok := by
 obtain ⟨ys, n', _, _, hlen, hyl, hf⟩ := DataW.trod_struct Tryz.underlying58 h
 have hlen5 : cs.length = 5 := hlen.trans (by kernel_rfl)
 have k5 : Tryz.prog.cellsOf 5 = 1 := by kernel_rfl
 have k3 : Tryz.prog.cellsOf 56 = 1 := by kernel_rfl
 have k22 : Tryz.prog.cellsOf 21 = 1 := by kernel_rfl
 have hy5 : ys.length = 5 := hyl.trans rfl
 match cs, hlen5 with
 | [c0, c1, c2, c3, c4], _ =>
  match ys, hy5 with
  | [y0, y1, y2, y3, y4], _ =>
   have f0 := hf 0 _ rfl
   have f1 := hf 1 _ rfl
   have f2 := hf 2 _ rfl
   have f3 := hf 3 _ rfl
   have f4 := hf 4 _ rfl
   simp only [k5, k3, k22, List.drop, List.take, List.getElem?_cons_zero, List.getElem?_cons_succ] at f0 f1 f2 f3 f4
   obtain ⟨x0, e0, -, w0⟩ := DataW.trod_int Tryz.underlying5 f0
   obtain ⟨x1, e1, -, w1⟩ := DataW.trod_int Tryz.underlying5 f1
   obtain ⟨x2, e2, -, w2⟩ := DataW.trod_int Tryz.underlying5 f2
   obtain ⟨x3, e3, -, w3⟩ := DataW.trod_int Tryz.underlying56 f3
   obtain ⟨x4, e4, -, w4⟩ := DataW.trod_int Tryz.underlying21 f4
   injection e0 with e0
   injection e1 with e1
   injection e2 with e2
   injection e3 with e3
   injection e4 with e4
   refine ⟨⟨x0, x1, x2, x3, x4⟩, ?_, ?_, ?_, ?_, ?_, ?_⟩
   ·simp [Ins.enc, e0, e1, e2, e3, e4]
   ·simpa [Lit.wf, IntKind.min, IntKind.max, IntKind.signed, IntKind.bits] using w0
   ·simpa [Lit.wf, IntKind.min, IntKind.max, IntKind.signed, IntKind.bits] using w1
   ·simpa [Lit.wf, IntKind.min, IntKind.max, IntKind.signed, IntKind.bits] using w2
   ·simpa [Lit.wf, IntKind.min, IntKind.max, IntKind.signed, IntKind.bits] using w3
   ·simpa [Lit.wf, IntKind.min, IntKind.max, IntKind.signed, IntKind.bits] using w4
end Go.Proofs.YtppefchjoodgnaaGreat
