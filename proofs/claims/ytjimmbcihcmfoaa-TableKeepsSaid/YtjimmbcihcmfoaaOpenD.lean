/- A definition of a map among the arguments. -/
import Derived.Test.YtjimmbcihcmfoaaOpenA9
import Derived.Lib.SmallJoins
namespace Go.Proofs.Ytjimmbcihcmfoaa
open Go.RowKit Go.ChangeShapes Go.WideShapes Go.ChangeAt Go.Deep
set_option linter.unusedVariables false
set_option linter.unusedSimpArgs false

set_option maxRecDepth 100000
theorem open_def {H : Type} {tok : TypeId × Value → H} {W : World} {base : Nat} {v : Value} {d : DataW H} {p : List MemPlace} (hv : Value.okWide Try.prog W .any base 53 v) (h : DataW.Trod tok Try.prog W 0 (fun _ => true) true 53 v d p) :
    ∃ (ha : Bool) (dk dv dm : Int), v = .agg #[.bool ha, .int .i64 dk, .int .i64 dv, .int .i64 dm] := by
  obtain ⟨v0, v1, v2, v3, y0, y1, y2, y3, n, rfl, -, -, h0, h1, h2, h3⟩ := Joins.open_agg4 Try.underlying53 (by kernel_rfl) (by kernel_rfl) hv h
  obtain ⟨x0, e0, -⟩ := DataW.trod_bool Try.underlying4 h0
  obtain ⟨x1, e1, -, -⟩ := DataW.trod_int Try.underlying3 h1
  obtain ⟨x2, e2, -, -⟩ := DataW.trod_int Try.underlying3 h2
  obtain ⟨x3, e3, -, -⟩ := DataW.trod_int Try.underlying3 h3
  simp at e0 e1 e2 e3
  subst e0 e1 e2 e3
  exact ⟨x0, x1, x2, x3, rfl⟩
end Go.Proofs.Ytjimmbcihcmfoaa
