/- The acts of layer 9 among the arguments. -/
import Derived.Test.YtjimmbcihcmfoaaOpen
import Derived.Test.YtjimmbcihcmfoaaTabK
namespace Go.Proofs.Ytjimmbcihcmfoaa
open Go.RowKit Go.ChangeShapes Go.WideShapes Go.ChangeAt Go.Deep
set_option linter.unusedVariables false
set_option linter.unusedSimpArgs false

theorem u64_rng {a : Int} (h : (Lit.int .u64 a).wf = true) : 0 ≤ a ∧ a ≤ 18446744073709551615 := by simpa [Lit.wf, IntKind.min, IntKind.max, IntKind.signed, IntKind.bits] using h
theorem u8_rng {a : Int} (h : (Lit.int .u8 a).wf = true) : 0 ≤ a ∧ a ≤ 255 := by simpa [Lit.wf, IntKind.min, IntKind.max, IntKind.signed, IntKind.bits] using h
set_option maxRecDepth 100000 in
theorem open_act9 {H : Type} {tok : TypeId × Value → H} {W : World} (n : Nat) (cs : List Value) (y : DataW H × List MemPlace) (h : DataW.trod tok Try.prog W 0 (fun _ => true) true n 43 cs = some y) : ∃ x : Act9, Act9.enc x = cs ∧ ActOk W x := by
  obtain ⟨ys, n', _, _, hlen, hyl, hf⟩ := DataW.trod_struct Try.underlying43 h
  have hlen5 : cs.length = 5 := hlen.trans (by kernel_rfl)
  have k5 : Try.prog.cellsOf 5 = 1 := by kernel_rfl
  have k3 : Try.prog.cellsOf 3 = 1 := by kernel_rfl
  have k22 : Try.prog.cellsOf 41 = 1 := by kernel_rfl
  have k28 : Try.prog.cellsOf 40 = 1 := by kernel_rfl
  have hy5 : ys.length = 5 := hyl.trans rfl
  match cs, hlen5 with
  | [c0, c1, c2, c3, c4], _ =>
    match ys, hy5 with
    | [y0, y1, y2, y3, y4], _ =>
      have f0 := hf 0 _ rfl
      have f1 := hf 1 _ rfl
      have f2 := hf 2 _ rfl
      have f3 := hf 3 _ rfl
      have f4 := hf 4 _ rfl
      simp only [k5, k3, k22, k28, List.drop, List.take, List.getElem?_cons_zero, List.getElem?_cons_succ] at f0 f1 f2 f3 f4
      obtain ⟨x0, e0, -, w0⟩ := DataW.trod_int Try.underlying5 f0
      obtain ⟨x1, e1, -, w1⟩ := DataW.trod_int Try.underlying3 f1
      obtain ⟨ka, kn, kc, ks, e2, s2, w2⟩ := open_sl_cell Try.underlying40 Try.underlying5 k5 f2
      obtain ⟨va, vn, vc, vs, e3, s3, w3⟩ := open_sl_cell Try.underlying40 Try.underlying5 k5 f3
      obtain ⟨x4, e4, -, w4⟩ := DataW.trod_int Try.underlying41 f4
      injection e0 with e0
      injection e1 with e1
      injection e2 with e2
      injection e3 with e3
      injection e4 with e4
      refine ⟨⟨x0, x1, ka, kn, kc, va, vn, vc, x4⟩, ?_, u8_rng w0, u64_rng w4, ⟨ks, s2, fun q hq => u8_rng (w2 q hq)⟩, ⟨vs, s3, fun q hq => u8_rng (w3 q hq)⟩⟩
      simp [Act9.enc, Act9.kv, Act9.vv, e0, e1, e2, e3, e4]
end Go.Proofs.Ytjimmbcihcmfoaa
