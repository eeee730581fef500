/- Instructions among the arguments. -/
import Derived.Test.YtkogkcjiachphaaRows
import Derived.Test.YtkogkcjiachphaaOpen
import Derived.Test.YtkogkcjiachphaaCoH
namespace Go.Proofs.Ytkogkcjiachphaa
open Go.RowKit Go.ChangeShapes Go.WideShapes Go.ChangeAt Go.Deep
set_option linter.unusedVariables false
set_option linter.unusedSimpArgs false

set_option maxRecDepth 100000 in
theorem open_ins {H : Type} {tok : TypeId × Value → H} {W : World} (n : Nat) (cs : List Value) (y : DataW H × List MemPlace) (h : DataW.trod tok Try.prog W 0 (fun _ => true) true n 53 cs = some y) : ∃ x : Ins, Ins.enc x = cs ∧ x.Ok := by
  obtain ⟨ys, n', _, _, hlen, hyl, hf⟩ := DataW.trod_struct Try.underlying53 h
  have hlen5 : cs.length = 5 := hlen.trans (by kernel_rfl)
  have k5 : Try.prog.cellsOf 5 = 1 := by kernel_rfl
  have k3 : Try.prog.cellsOf 51 = 1 := by kernel_rfl
  have k22 : Try.prog.cellsOf 21 = 1 := by kernel_rfl
  have hy5 : ys.length = 5 := hyl.trans rfl
  match cs, hlen5 with
  | [c0, c1, c2, c3, c4], _ =>
    match ys, hy5 with
    | [y0, y1, y2, y3, y4], _ =>
      have f0 := hf 0 _ rfl
      have f1 := hf 1 _ rfl
      have f2 := hf 2 _ rfl
      have f3 := hf 3 _ rfl
      have f4 := hf 4 _ rfl
      simp only [k5, k3, k22, List.drop, List.take, List.getElem?_cons_zero, List.getElem?_cons_succ] at f0 f1 f2 f3 f4
      obtain ⟨x0, e0, -, w0⟩ := DataW.trod_int Try.underlying5 f0
      obtain ⟨x1, e1, -, w1⟩ := DataW.trod_int Try.underlying5 f1
      obtain ⟨x2, e2, -, w2⟩ := DataW.trod_int Try.underlying5 f2
      obtain ⟨x3, e3, -, w3⟩ := DataW.trod_int Try.underlying51 f3
      obtain ⟨x4, e4, -, w4⟩ := DataW.trod_int Try.underlying21 f4
      injection e0 with e0
      injection e1 with e1
      injection e2 with e2
      injection e3 with e3
      injection e4 with e4
      refine ⟨⟨x0, x1, x2, x3, x4⟩, ?_, ?_, ?_, ?_, ?_, ?_⟩
      · simp [Ins.enc, e0, e1, e2, e3, e4]
      · simpa [Lit.wf, IntKind.min, IntKind.max, IntKind.signed, IntKind.bits] using w0
      · simpa [Lit.wf, IntKind.min, IntKind.max, IntKind.signed, IntKind.bits] using w1
      · simpa [Lit.wf, IntKind.min, IntKind.max, IntKind.signed, IntKind.bits] using w2
      · simpa [Lit.wf, IntKind.min, IntKind.max, IntKind.signed, IntKind.bits] using w3
      · simpa [Lit.wf, IntKind.min, IntKind.max, IntKind.signed, IntKind.bits] using w4
end Go.Proofs.Ytkogkcjiachphaa
