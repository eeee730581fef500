/- What the claim leans on: OpenEnv. -/
import Derived.Test.YtppefchjoodgnaaGreatPN41
import Derived.Test.YtppefchjoodgnaaGreatPN37
import Derived.Lib.SmallJoins
namespace Go.Proofs.YtppefchjoodgnaaGreat
open Go.RowKit Go.ChangeShapes Go.WideShapes Go.ChangeAt Go.Deep
set_option linter.unusedVariables false
set_option linter.unusedSimpArgs false
theorem u64_rngE {a : Int} (h : (Lit.int .u64 a).wf = true) : 0 ≤ a ∧ a ≤ 18446744073709551615 := by simpa [Lit.wf, IntKind.min, IntKind.max, IntKind.signed, IntKind.bits] using h
theorem u8_rngE {a : Int} (h : (Lit.int .u8 a).wf = true) : 0 ≤ a ∧ a ≤ 255 := by simpa [Lit.wf, IntKind.min, IntKind.max, IntKind.signed, IntKind.bits] using h
section
variable {H : Type} {tok : TypeId × Value → H} {P : Program}
theorem open_rows_cell {α : Type} {enc : α → List Value} {sz : Nat} {ok : α → Prop} {t e : TypeId} (ht : P.underlying t = some (.slice e)) (hc : P.cellsOf e = sz) {W : World} {n : Nat} {cs : List Value} {y : DataW H × List MemPlace}
  (hel : ∀ (n : Nat) (cs : List Value) (y : DataW H × List MemPlace), DataW.trod tok P W 0 (fun _ => true) true n e cs = some y → ∃ x : α, enc x = cs ∧ ok x)
  (hf : DataW.trod tok P W 0 (fun _ => true) true n t cs = some y) : ∃ (a0 : Option Addr) (n0 c0 : Nat) (xs : List α), cs = [.slice a0 n0 c0] ∧ Rd W sz enc (.slice a0 n0 c0) xs ∧ ∀ x ∈ xs, ok x := by
 rcases open_slice ht hf with ⟨hcs, hx⟩ | ⟨a, len, cap, m, n, D, Pl, hcs, _, hl, hm, hmm, hx, hall⟩
 ·exact ⟨none, 0, 0, [], hcs, Rd.nil _ _ _, fun x hx => by simp at hx⟩
 ·simp only [if_true] at hmm
  obtain ⟨xs, hlen, hq⟩ := list_of (fun i x => (∀ j u, (enc x)[j]? = some u → W.cell? (a.add (i * sz + j)) = some u) ∧ ok x) len (fun i hi => by
   obtain ⟨cs', hcc, htr⟩ := hall i (by omega)
   obtain ⟨x, he, hok⟩ := hel n cs' _ htr
   obtain ⟨_, hcl, hat⟩ := World.cells?_some hcc
   refine ⟨x, fun j u hu => ?_, hok⟩
   rw [he] at hu
   have hj : j < P.cellsOf e := by rw [← hcl]; exact (List.getElem?_eq_some_iff.1 hu).1
   have := hat j hj
   rw [hu, hc, Addr.add_add] at this
   exact this)
  refine ⟨some a, len, cap, xs, hcs, ⟨some a, cap, by rw [hlen], by omega, hm, fun e => by simp at e, fun i x hx j u hu => ?_⟩, fun x hx => ?_⟩
  ·simpa [elt] using (hq i x hx).1 j u hu
  ·obtain ⟨i, hi⟩ := List.getElem?_of_mem hx
   exact (hq i x hi).2
end
section
variable {H : Type} {tok : TypeId × Value → H} {W : World}
set_option maxRecDepth 100000 in
theorem open_defE (n : Nat) (cs : List Value) (y : DataW H × List MemPlace) (h : DataW.trod tok Tryz.prog W 0 (fun _ => true) true n 102 cs = some y) : ∃ x : TDef, TDef.enc x = cs ∧ True := by
 obtain ⟨ys, n', _, _, hlen, hyl, hf⟩ := DataW.trod_struct Tryz.underlying102 h
 have hlen4 : cs.length = 4 := hlen.trans (by kernel_rfl)
 have k3 : Tryz.prog.cellsOf 3 = 1 := by kernel_rfl
 have k4 : Tryz.prog.cellsOf 4 = 1 := by kernel_rfl
 have hy4 : ys.length = 4 := hyl.trans rfl
 match cs, hlen4 with
 | [c0, c1, c2, c3], _ =>
  match ys, hy4 with
  | [y0, y1, y2, y3], _ =>
   have f0 := hf 0 _ rfl
   have f1 := hf 1 _ rfl
   have f2 := hf 2 _ rfl
   have f3 := hf 3 _ rfl
   simp only [k3, k4, List.drop, List.take, List.getElem?_cons_zero, List.getElem?_cons_succ] at f0 f1 f2 f3
   obtain ⟨a0, e0, -⟩ := DataW.trod_bool Tryz.underlying4 f0
   obtain ⟨a1, e1, -, -⟩ := DataW.trod_int Tryz.underlying3 f1
   obtain ⟨a2, e2, -, -⟩ := DataW.trod_int Tryz.underlying3 f2
   obtain ⟨a3, e3, -, -⟩ := DataW.trod_int Tryz.underlying3 f3
   injection e0 with e0
   injection e1 with e1
   injection e2 with e2
   injection e3 with e3
   exact ⟨⟨a0, a1, a2, a3⟩, by simp [TDef.enc, e0, e1, e2, e3], trivial⟩
def ItemOk (W : World) (x : IT) : Prop := (Sl W .u8 x.kv x.key ∧ Sl W .u8 x.vv x.val) ∧ ∀ q ∈ x.val, 0 ≤ q ∧ q ≤ 255
set_option maxRecDepth 100000 in
theorem open_itemE (n : Nat) (cs : List Value) (y : DataW H × List MemPlace) (h : DataW.trod tok Tryz.prog W 0 (fun _ => true) true n 36 cs = some y) : ∃ x : IT, IT.enc x = cs ∧ ItemOk W x := by
 obtain ⟨ys, n', _, _, hlen, hyl, hf⟩ := DataW.trod_struct Tryz.underlying36 h
 have hlen2 : cs.length = 2 := hlen.trans (by kernel_rfl)
 have k28 : Tryz.prog.cellsOf 23 = 1 := by kernel_rfl
 have k5 : Tryz.prog.cellsOf 5 = 1 := by kernel_rfl
 have hy2 : ys.length = 2 := hyl.trans rfl
 match cs, hlen2 with
 | [c0, c1], _ =>
  match ys, hy2 with
  | [y0, y1], _ =>
   have f0 := hf 0 _ rfl
   have f1 := hf 1 _ rfl
   simp only [k28, List.drop, List.take, List.getElem?_cons_zero, List.getElem?_cons_succ] at f0 f1
   obtain ⟨ka, kn, kc, ks, e0, s0, w0⟩ := open_sl_cell Tryz.underlying23 Tryz.underlying5 k5 f0
   obtain ⟨va, vn, vc, vs, e1, s1, w1⟩ := open_sl_cell Tryz.underlying23 Tryz.underlying5 k5 f1
   injection e0 with e0
   injection e1 with e1
   obtain ⟨ka', kn', kc', h1, h2, h3⟩ := s0.val
   injection h1 with z1 z2 z3
   subst z1 z2 z3
   obtain ⟨va', vn', vc', g1, g2, g3⟩ := s1.val
   injection g1 with z1 z2 z3
   subst z1 z2 z3
   have hk := h3.out
   have hv := g3.out
   subst hk hv
   refine ⟨⟨ka, kc, va, vc, ks, vs⟩, ?_, ⟨?_, ?_⟩, fun q hq => u8_rngE (w1 q hq)⟩
   ·simp [IT.enc, IT.kv, IT.vv, e0, e1]
   ·exact s0
   ·exact s1
def RowOkE (W : World) (row : SV) : Prop := ∃ I : List IT, Rd W 2 IT.enc row.v I ∧ ∀ x ∈ I, ItemOk W x
theorem open_rowE (n : Nat) (cs : List Value) (y : DataW H × List MemPlace) (h : DataW.trod tok Tryz.prog W 0 (fun _ => true) true n 34 cs = some y) : ∃ x : SV, encW x = cs ∧ RowOkE W x := by
 obtain ⟨a, m, c, xs, e, hr, hok⟩ := open_rows_cell (enc := IT.enc) (sz := 2) (ok := ItemOk W) Tryz.underlying34 (by kernel_rfl) open_itemE h
 exact ⟨⟨a, m, c⟩, e.symm, xs, hr, hok⟩
open Classical in
noncomputable def rowItems (W : World) (row : SV) : List (List Int × List Int) := if h : RowOkE W row then (Classical.choose h).map (fun x => (x.key, x.val)) else []
set_option maxRecDepth 100000 in
theorem open_env {base : Nat} {v : Value} {d : DataW H} {p : List MemPlace} (hv : Value.okWide Tryz.prog W .any base 28 v) (h : DataW.Trod tok Tryz.prog W 0 (fun _ => true) true 28 v d p) :
  ∃ (e : EnvD) (cv dv iv rv : Value) (rows : List SV), v = .agg #[cv, dv, iv, rv] ∧ EnvR W e cv dv iv rv rows ∧ U64s e.draws := by
 obtain ⟨v0, v1, v2, v3, y0, y1, y2, y3, n, rfl, -, -, h0, h1, h2, h3⟩ := Joins.open_agg4 Tryz.underlying28 (by kernel_rfl) (by kernel_rfl) hv h
 obtain ⟨a0, n0, c0, xs, e0, s0, w0⟩ := open_sl_cell Tryz.underlying23 Tryz.underlying5 (by kernel_rfl) h0
 obtain ⟨a1, n1, c1, ds, e1, s1, w1⟩ := open_rows_cell (enc := TDef.enc) (sz := 4) (ok := fun _ => True) Tryz.underlying24 (by kernel_rfl) open_defE h1
 obtain ⟨a2, n2, c2, rows, e2, s2, w2⟩ := open_rows_cell (enc := encW) (sz := 1) (ok := RowOkE W) Tryz.underlying25 (by kernel_rfl) open_rowE h2
 obtain ⟨a3, n3, c3, rs, e3, s3, w3⟩ := open_sl_cell Tryz.underlying26 Tryz.underlying29 (by kernel_rfl) h3
 simp at e0 e1 e2 e3
 subst e0 e1 e2 e3
 refine ⟨⟨xs, ds, rows.map (rowItems W), rs⟩, _, _, _, _, rows, rfl, ⟨s0, fun x hx => u8_rngE (w0 x hx), s1, s3, s2, by simp, fun i row l hi hl => ?_, fun l hl q hq x hx => ?_⟩, fun x hx => u64_rngE (w3 x hx)⟩
 ·simp only [List.getElem?_map, hi, Option.map_some, Option.some.injEq] at hl
  have hok := w2 row (List.mem_of_getElem? hi)
  subst hl
  unfold rowItems
  rw [dif_pos hok]
  have hs := Classical.choose_spec hok
  exact ⟨_, hs.1, fun x hx => (hs.2 x hx).1, rfl⟩
 ·simp only [List.mem_map] at hl
  obtain ⟨row, hr, rfl⟩ := hl
  have hok := w2 row hr
  unfold rowItems at hq
  rw [dif_pos hok] at hq
  obtain ⟨y, hy, rfl⟩ := List.mem_map.1 hq
  exact ((Classical.choose_spec hok).2 y hy).2 x hx
end
end Go.Proofs.YtppefchjoodgnaaGreat
