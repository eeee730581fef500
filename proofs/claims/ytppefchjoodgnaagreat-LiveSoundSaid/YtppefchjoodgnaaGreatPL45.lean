/- What the claim leans on: OpenArr. -/
import Derived.Test.YtppefchjoodgnaaGreatPL44
import Derived.Test.YtppefchjoodgnaaGreatPL43
namespace Go.Proofs.YtppefchjoodgnaaGreat
open Go.RowKit Go.ChangeShapes Go.WideShapes Go.ChangeAt Go.Deep
set_option linter.unusedVariables false
set_option linter.unusedSimpArgs false
set_option linter.constructorNameAsVariable false
section
variable {H : Type} {tok : TypeId × Value → H} {W : World}
set_option maxRecDepth 100000 in
theorem agg_arr {t e : TypeId} {n : Nat} {base : Nat} {v : Value} (ht : Tryz.prog.underlying t = some (.array n e)) (hv : Value.okWide Tryz.prog W .any base t v) : ∃ cs, v = .agg cs ∧ cs.size = Tryz.prog.cellsOf t := by
 unfold Value.okWide at hv
 rw [ht] at hv
 obtain ⟨cs, h1, h2, _⟩ := hv
 exact ⟨cs, h1, h2⟩
set_option maxRecDepth 100000 in
theorem open_arrN {base : Nat} {v : Value} {d : DataW H} {p : List MemPlace} (hv : Value.okWide Tryz.prog W .any base 30 v) (h : DataW.Trod tok Tryz.prog W 0 (fun _ => true) true 30 v d p) :
  ∃ n : Nat → Int, v = .agg (arrN n) ∧ ∀ i, i ≤ 10 → u64R (n i) := by
 obtain ⟨cs, rfl, hsz⟩ := agg_arr Tryz.underlying30 hv
 have hs : cs.size = 11 := hsz.trans (by kernel_rfl)
 obtain ⟨fuel, hf⟩ := h
 obtain ⟨xs, m, _, _, _, hxl, hel⟩ := DataW.trod_array Tryz.underlying30 hf
 have k1 : Tryz.prog.cellsOf 29 = 1 := by kernel_rfl
 have hi : ∀ i, i ≤ 10 → ∃ x : Int, cs[i]? = some (.int .u64 x) ∧ u64R x := fun i hi => by
  have h1 := hel i (by omega)
  obtain ⟨y, hy⟩ := at_of_lt (xs := xs) (k := i) (by omega)
  rw [hy, k1] at h1
  have hc : ((Value.agg cs).cells.toList.drop (i * 1)).take 1 = [cs[i]'(by omega)] := by
   simp only [Value.cells, Nat.mul_one]
   rw [List.drop_eq_getElem_cons (by simp; omega)]
   simp
  rw [hc] at h1
  obtain ⟨x, e, -, wx⟩ := DataW.trod_int Tryz.underlying29 h1
  injection e with e
  exact ⟨x, by rw [Array.getElem?_eq_getElem (by omega), e], u64_rngE wx⟩
 refine ⟨fun i => if h : i ≤ 10 then Classical.choose (hi i h) else 0, ?_, fun i h => by simp only [dif_pos h]; exact (Classical.choose_spec (hi i h)).2⟩
 congr 1
 refine Array.ext_getElem? (fun i => ?_)
 by_cases h10 : i ≤ 10
 ·rw [arrN_at _ h10]
  simp only [dif_pos h10]
  exact (Classical.choose_spec (hi i h10)).1
 ·rw [Array.getElem?_eq_none (by omega), Array.getElem?_eq_none (by simp; omega)]
set_option maxRecDepth 100000 in
theorem open_arrB {base : Nat} {v : Value} {d : DataW H} {p : List MemPlace} (hv : Value.okWide Tryz.prog W .any base 31 v) (h : DataW.Trod tok Tryz.prog W 0 (fun _ => true) true 31 v d p) :
  ∃ n : Nat → Bool, v = .agg (arrB n) := by
 obtain ⟨cs, rfl, hsz⟩ := agg_arr Tryz.underlying31 hv
 have hs : cs.size = 11 := hsz.trans (by kernel_rfl)
 obtain ⟨fuel, hf⟩ := h
 obtain ⟨xs, m, _, _, _, hxl, hel⟩ := DataW.trod_array Tryz.underlying31 hf
 have k1 : Tryz.prog.cellsOf 4 = 1 := by kernel_rfl
 have hi : ∀ i, i ≤ 10 → ∃ x : Bool, cs[i]? = some (.bool x) := fun i hi => by
  have h1 := hel i (by omega)
  obtain ⟨y, hy⟩ := at_of_lt (xs := xs) (k := i) (by omega)
  rw [hy, k1] at h1
  have hc : ((Value.agg cs).cells.toList.drop (i * 1)).take 1 = [cs[i]'(by omega)] := by
   simp only [Value.cells, Nat.mul_one]
   rw [List.drop_eq_getElem_cons (by simp; omega)]
   simp
  rw [hc] at h1
  obtain ⟨x, e, -⟩ := DataW.trod_bool Tryz.underlying4 h1
  injection e with e
  exact ⟨x, by rw [Array.getElem?_eq_getElem (by omega), e]⟩
 refine ⟨fun i => if h : i ≤ 10 then Classical.choose (hi i h) else false, ?_⟩
 congr 1
 refine Array.ext_getElem? (fun i => ?_)
 by_cases h10 : i ≤ 10
 ·rw [arrB_at _ h10]
  simp only [dif_pos h10]
  exact Classical.choose_spec (hi i h10)
 ·rw [Array.getElem?_eq_none (by omega), Array.getElem?_eq_none (by simp; omega)]
end
end Go.Proofs.YtppefchjoodgnaaGreat
