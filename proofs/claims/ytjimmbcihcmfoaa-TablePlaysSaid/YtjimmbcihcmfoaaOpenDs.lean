/- Definitions of maps among the arguments, as a slice. -/
import Derived.Test.YtjimmbcihcmfoaaOpenA9
namespace Go.Proofs.Ytjimmbcihcmfoaa
open Go.RowKit Go.ChangeShapes Go.WideShapes Go.ChangeAt Go.Deep
set_option linter.unusedVariables false
set_option linter.unusedSimpArgs false

set_option maxRecDepth 100000 in
theorem open_def4 {H : Type} {tok : TypeId × Value → H} {W : World} (n : Nat) (cs : List Value) (y : DataW H × List MemPlace) (h : DataW.trod tok Try.prog W 0 (fun _ => true) true n 53 cs = some y) : ∃ x : TDef, TDef.enc x = cs ∧ True := by
  obtain ⟨ys, n', _, _, hlen, hyl, hf⟩ := DataW.trod_struct Try.underlying53 h
  have hlen4 : cs.length = 4 := hlen.trans (by kernel_rfl)
  have k3 : Try.prog.cellsOf 3 = 1 := by kernel_rfl
  have k4 : Try.prog.cellsOf 4 = 1 := by kernel_rfl
  have hy4 : ys.length = 4 := hyl.trans rfl
  match cs, hlen4 with
  | [c0, c1, c2, c3], _ =>
    match ys, hy4 with
    | [y0, y1, y2, y3], _ =>
      have f0 := hf 0 _ rfl
      have f1 := hf 1 _ rfl
      have f2 := hf 2 _ rfl
      have f3 := hf 3 _ rfl
      simp only [k3, k4, List.drop, List.take, List.getElem?_cons_zero, List.getElem?_cons_succ] at f0 f1 f2 f3
      obtain ⟨a0, e0, -⟩ := DataW.trod_bool Try.underlying4 f0
      obtain ⟨a1, e1, -, -⟩ := DataW.trod_int Try.underlying3 f1
      obtain ⟨a2, e2, -, -⟩ := DataW.trod_int Try.underlying3 f2
      obtain ⟨a3, e3, -, -⟩ := DataW.trod_int Try.underlying3 f3
      injection e0 with e0
      injection e1 with e1
      injection e2 with e2
      injection e3 with e3
      exact ⟨⟨a0, a1, a2, a3⟩, by simp [TDef.enc, e0, e1, e2, e3], trivial⟩
end Go.Proofs.Ytjimmbcihcmfoaa
