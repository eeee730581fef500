/- The acts among the arguments of MemPlays. -/
import Derived.Test.YtgllaiadllfliaaOpen
import Derived.Test.YtgllaiadllfliaaAct
namespace Go.Proofs.Ytgllaiadllfliaa
open Go.RowKit Go.ChangeShapes Go.WideShapes Go.ChangeAt Go.Deep
set_option linter.unusedVariables false
set_option linter.unusedSimpArgs false

theorem u64_rng {a : Int} (h : (Lit.int .u64 a).wf = true) : 0 ≤ a ∧ a ≤ 18446744073709551615 := by simpa [Lit.wf, IntKind.min, IntKind.max, IntKind.signed, IntKind.bits] using h
theorem u8_rng {a : Int} (h : (Lit.int .u8 a).wf = true) : 0 ≤ a ∧ a ≤ 255 := by simpa [Lit.wf, IntKind.min, IntKind.max, IntKind.signed, IntKind.bits] using h
theorem open_act {H : Type} {tok : TypeId × Value → H} {W : World} (n : Nat) (cs : List Value) (y : DataW H × List MemPlace) (h : DataW.trod tok Try.prog W 0 (fun _ => true) true n 47 cs = some y) : ∃ x : Act8, Act8.enc x = cs ∧ ActOk W x := by
  obtain ⟨ys, n', _, _, hlen, hyl, hf⟩ := DataW.trod_struct Try.underlying47 h
  have hlen8 : cs.length = 8 := hlen.trans (by kernel_rfl)
  have k5 : Try.prog.cellsOf 5 = 1 := by kernel_rfl
  have k3 : Try.prog.cellsOf 3 = 1 := by kernel_rfl
  have k22 : Try.prog.cellsOf 22 = 1 := by kernel_rfl
  have k28 : Try.prog.cellsOf 28 = 1 := by kernel_rfl
  have k4 : Try.prog.cellsOf 4 = 1 := by kernel_rfl
  have hy8 : ys.length = 8 := hyl.trans rfl
  match cs, hlen8 with
  | [c0, c1, c2, c3, c4, c5, c6, c7], _ =>
    match ys, hy8 with
    | [y0, y1, y2, y3, y4, y5, y6, y7], _ =>
      have f0 := hf 0 _ rfl
      have f1 := hf 1 _ rfl
      have f2 := hf 2 _ rfl
      have f3 := hf 3 _ rfl
      have f4 := hf 4 _ rfl
      have f5 := hf 5 _ rfl
      have f6 := hf 6 _ rfl
      have f7 := hf 7 _ rfl
      simp only [k5, k3, k22, k28, k4, List.drop, List.take, List.getElem?_cons_zero, List.getElem?_cons_succ] at f0 f1 f2 f3 f4 f5 f6 f7
      obtain ⟨x0, e0, -, w0⟩ := DataW.trod_int Try.underlying5 f0
      obtain ⟨x1, e1, -, w1⟩ := DataW.trod_int Try.underlying3 f1
      obtain ⟨x2, e2, -, w2⟩ := DataW.trod_int Try.underlying3 f2
      obtain ⟨x3, e3, -, w3⟩ := DataW.trod_int Try.underlying3 f3
      obtain ⟨x4, e4, -, w4⟩ := DataW.trod_int Try.underlying22 f4
      obtain ⟨xa, xn, xc, xs, e5, s5, w5⟩ := open_sl_cell Try.underlying28 Try.underlying5 k5 f5
      obtain ⟨x6, e6, -⟩ := DataW.trod_bool Try.underlying4 f6
      obtain ⟨x7, e7, -⟩ := DataW.trod_bool Try.underlying4 f7
      injection e0 with e0
      injection e1 with e1
      injection e2 with e2
      injection e3 with e3
      injection e4 with e4
      injection e5 with e5
      injection e6 with e6
      injection e7 with e7
      refine ⟨⟨x0, x1, x2, x3, x4, xa, xn, xc, x6, x7⟩, ?_, u8_rng w0, u64_rng w4, xs, s5, fun q hq => u8_rng (w5 q hq)⟩
      simp [Act8.enc, Act8.bv, e0, e1, e2, e3, e4, e5, e6, e7]
end Go.Proofs.Ytgllaiadllfliaa
