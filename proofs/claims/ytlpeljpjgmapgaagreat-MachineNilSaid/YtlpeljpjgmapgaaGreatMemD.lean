/- Memory: Store. -/
import Derived.Test.YtlpeljpjgmapgaaGreatMemC
namespace Go.Proofs.YtlpeljpjgmapgaaGreat
open Go.RowKit
set_option linter.unusedVariables false
set_option linter.unusedSimpArgs false

theorem bytesOf_len (n : Int) (k : Nat) : (bytesOf n k).length = k := by
  induction k generalizing n with
  | zero => rfl
  | succ k ih => simp [bytesOf, ih]
theorem bytesOf_succ (n : Int) (k : Nat) : bytesOf n (k + 1) = bytesOf n k ++ [n / 256 ^ k % 256] := by
  induction k generalizing n with
  | zero => simp [bytesOf]
  | succ k ih =>
    rw [bytesOf, ih (n / 256), bytesOf, List.cons_append]
    congr 3
    rw [Int.ediv_ediv_of_nonneg (by decide), Int.pow_succ, Int.mul_comm]
theorem bytesOf_u8 (n : Int) (k : Nat) : ∀ x ∈ bytesOf n k, 0 ≤ x ∧ x ≤ 255 := by
  induction k generalizing n with
  | zero => simp [bytesOf]
  | succ k ih =>
    intro x hx
    simp only [bytesOf, List.mem_cons] at hx
    rcases hx with rfl | hx
    · omega
    · exact ih _ x hx
theorem over_len {α : Type} (l s : List α) (o : Nat) (h : o + s.length ≤ l.length) : (over l o s).length = l.length := by simp [over]; omega
theorem over_nil {α : Type} (l : List α) (o : Nat) : over l o [] = l := by simp [over]
theorem over_at {α : Type} (l s : List α) (o i : Nat) (h : o + s.length ≤ l.length) : (over l o s)[i]? = if i < o then l[i]? else if i < o + s.length then s[i - o]? else l[i]? := by
  have h1 : (l.take o).length = o := by rw [List.length_take]; omega
  unfold over
  rw [List.append_assoc, List.getElem?_append, h1]
  by_cases a1 : i < o
  · rw [if_pos a1, if_pos a1, List.getElem?_take_of_lt a1]
  · rw [if_neg a1, if_neg a1, List.getElem?_append]
    by_cases a2 : i < o + s.length
    · rw [if_pos a2, if_pos (by omega)]
    · rw [if_neg a2, if_neg (by omega), List.getElem?_drop]
      congr 1; omega
theorem over_snoc {α : Type} (l s : List α) (o : Nat) (y : α) (h : o + s.length < l.length) : over l o (s ++ [y]) = (over l o s).set (o + s.length) y := by
  apply List.ext_getElem?
  intro i
  rw [over_at l _ o i (by simp; omega), List.getElem?_set, over_at l s o i (by omega), over_len l s o (by omega)]
  simp only [List.length_append, List.length_singleton]
  by_cases a1 : i < o
  · rw [if_pos a1, if_neg (by omega), if_pos a1]
  · by_cases a2 : i < o + s.length
    · rw [if_neg a1, if_pos (by omega), if_neg (by omega), if_neg a1, if_pos a2, List.getElem?_append_left (by omega)]
    · by_cases a3 : o + s.length = i
      · rw [if_neg a1, if_pos (by omega), if_pos a3, if_pos (by omega), List.getElem?_append_right (by omega), show i - o - s.length = 0 from by omega]; rfl
      · rw [if_neg a1, if_neg (by omega), if_neg a3, if_neg a1, if_neg a2]
theorem flat_set {α : Type} (f : α → Value) (l : List α) (i : Nat) (y : α) : ((l.set i y).flatMap fun x => [f x]).toArray = ((l.flatMap fun x => [f x]).toArray).setIfInBounds i (f y) := by
  rw [flat1, flat1, List.map_set]; simp
theorem flat_get {α : Type} (f : α → Value) (l : List α) (i : Nat) (y : α) (h : l[i]? = some y) : (l.flatMap fun x => [f x]).toArray[i]? = some (f y) := by
  rw [flat1]; simp [h]

theorem store_step {wr : World} {g p o k : Nat} {n : Int} {B : List Int} {P : List Bool} (hgp : g ≠ p) (hb : o + k < B.length) (hp : P.length = B.length)
    (HG : wr.heap[g]? = some (.cells ((over B o (bytesOf n k)).flatMap fun x => [Value.int .u8 x]).toArray 5 (0, 0)))
    (HP : wr.heap[p]? = some (.cells ((over P o ((bytesOf n k).map fun _ => true)).flatMap fun x => [Value.bool x]).toArray 4 (0, 0))) :
    ((wr.setCell ⟨g, o + k, none⟩ (.int .u8 (n / 2 ^ (8 * k) % 256))).setCell ⟨p, o + k, none⟩ (.bool true)).heap[g]? = some (.cells ((over B o (bytesOf n (k + 1))).flatMap fun x => [Value.int .u8 x]).toArray 5 (0, 0)) ∧
    ((wr.setCell ⟨g, o + k, none⟩ (.int .u8 (n / 2 ^ (8 * k) % 256))).setCell ⟨p, o + k, none⟩ (.bool true)).heap[p]? = some (.cells ((over P o ((bytesOf n (k + 1)).map fun _ => true)).flatMap fun x => [Value.bool x]).toArray 4 (0, 0)) := by
  have e256 : (2 : Int) ^ (8 * k) = 256 ^ k := by rw [Int.pow_mul]; rfl
  have hl := bytesOf_len n k
  constructor
  · rw [heap_setCell_other _ _ _ _ (by simpa using hgp), heap_setCell_same wr g (o + k) _ _ _ HG, bytesOf_succ, over_snoc _ _ _ _ (by omega), hl, flat_set, e256]
  · have h2 : (wr.setCell ⟨g, o + k, none⟩ (.int .u8 (n / 2 ^ (8 * k) % 256))).heap[p]? = _ := (heap_setCell_other _ _ _ _ (by simpa using fun e => hgp e.symm)).trans HP
    rw [heap_setCell_same _ p (o + k) _ _ _ h2, bytesOf_succ, List.map_append, List.map_singleton, over_snoc _ _ _ _ (by rw [List.length_map]; omega), List.length_map, hl, flat_set]

/-- What storing does: the error; memory as the document has it, in the same blocks. -/
def StoreAns (b r : Nat) (L : List Rec) (p s n : Int) (w : World) (e : Ending) (w' : World) : Prop :=
  e = .returned (.int .i64 (mstore (view L) p s n).2) ∧ Keep (foot b r L) w w' ∧ ∃ L', MemAt w' b r L' ∧ view L' = (mstore (view L) p s n).1 ∧ foot b r L' = foot b r L
set_option maxHeartbeats 1000000 in
theorem mem_store (b r : Nat) (L : List Rec) (p s n : Int) (w : World) (h : MemAt w b r L) (hp : 0 ≤ p) (H : Hid (p ≤ 18446744073709551615)) (hn : 0 ≤ n) :
    Calls Tryz.prog 52 #[.pointer (some ⟨b, 0, none⟩), .int .u64 p, .int .i64 s, .int .u64 n] w (StoreAns b r L p s n w) := by
  have HM := Lib.hid h
  clear h
  cases hz : sized s with
  | false =>
    have HZ := Lib.hid hz
    clear hz
    go_enter Tryz.func52, Tryz.ntmps52
    go_wp2_with fail
    refine (mem_number s _).mono ?_
    rintro e w1 ⟨rfl, rfl⟩
    rw [HZ.out]
    go_wp2_with fail
    go_returns
    exact ⟨by simp [mstore, HZ.out], Keep.rfl' _ _, L, HM.out, by simp [mstore, HZ.out], rfl⟩
  | true =>
    have HZ := Lib.hid hz
    have hs8 : 0 ≤ s ∧ s ≤ 8 := by
      have := hz
      simp only [sized, Bool.or_eq_true, beq_iff_eq] at this
      omega
    clear hz
    go_enter Tryz.func52, Tryz.ntmps52
    go_wp2_with fail
    refine (mem_number s _).mono ?_
    rintro e w1 ⟨rfl, rfl⟩
    rw [HZ.out]
    go_wp2_with fail
    refine (mem_find b r L p s _ HM.out hp hs8.1 (by omega) H).mono ?_
    rintro e w1 ⟨rfl, ⟨hf, rfl⟩ | ⟨x, hx, hxn, hf, rfl⟩⟩
    · have HF := Lib.hid hf
      clear hf
      go_wp2_with fail
      go_returns
      exact ⟨by simp [mstore, HZ.out, HF.out], Keep.rfl' _ _, L, HM.out, by simp [mstore, HZ.out, HF.out], rfl⟩
    · have HF := Lib.hid hf
      have hR := HM.out.recs x hx
      have c0 := cell_obj (i := 0) hR.area
      have c1 := cell_obj (i := 1) hR.area
      have c2 := cell_obj (i := 2) hR.area
      obtain ⟨hle, hoo⟩ := find_le hp hs8.1 hf
      obtain ⟨o, ho⟩ : ∃ o : Nat, (p % 4294967296).toNat = o := ⟨_, rfl⟩
      rw [ho] at hle hoo HF
      rw [← hoo]
      clear ho hoo hf
      have hsm := hR.small
      have hap : x.a ∉ [x.g, x.p] ∧ x.g ≠ x.p := HM.out.rec_apart hx
      have hgp := hap.2
      have HXN := Lib.hid hxn
      clear hxn
      cases hfx : x.A.fixed with
      | true =>
        have HFX := Lib.hid hfx
        go_wp2_with fail
        go_returns
        exact ⟨by simp [mstore, HZ.out, HF.out, HFX.out], Keep.rfl' _ _, L, HM.out, by simp [mstore, HZ.out, HF.out, HFX.out], rfl⟩
      | false =>
        have HFX := Lib.hid hfx
        go_wp2_with fail
        clear hfx
        go_loopw [35] (fun i wr => ∃ k : Nat, k ≤ s.toNat ∧ i = .int .i64 k ∧ Keep [x.g, x.p] w1 wr ∧ Hid (wr.heap[x.g]? = some (.cells ((over x.A.bytes o (bytesOf n k)).flatMap fun x => [Value.int .u8 x]).toArray 5 (0, 0))) ∧ Hid (wr.heap[x.p]? = some (.cells ((over x.A.put o ((bytesOf n k).map fun _ => true)).flatMap fun x => [Value.bool x]).toArray 4 (0, 0)))) (fun i _ => s.toNat - (intOf i).toNat)
        case atStart => exact ⟨0, Nat.zero_le _, rfl, Keep.rfl' _ _, by simp only [bytesOf, over_nil]; exact hR.bytes, by simp only [bytesOf, List.map_nil, over_nil]; exact hR.put⟩
        case round =>
          obtain ⟨k, hk, rfl, hK, HG, HP⟩ := hrel
          by_cases hlt : (k : Int) < s
          · have d1 := hap.1
            have e0 := cell_obj (i := 0) (hK.obj hR.area d1)
            have e1 := cell_obj (i := 1) (hK.obj hR.area d1)
            obtain ⟨y0, hy0⟩ := at_of_lt (xs := over x.A.bytes o (bytesOf n k)) (k := o + k) (by rw [over_len _ _ _ (by rw [bytesOf_len]; omega)]; omega)
            obtain ⟨y1, hy1⟩ := at_of_lt (xs := over x.A.put o ((bytesOf n k).map fun _ => true)) (k := o + k) (by rw [over_len _ _ _ (by rw [List.length_map, bytesOf_len, hR.len]; omega), hR.len]; omega)
            have f0 := (cell_obj (i := o + k) HG.out).trans (flat_get _ _ _ _ hy0)
            have f1 := frozen_obj (i := o + k) HG.out
            have f2 := (cell_obj (i := o + k) HP.out).trans (flat_get _ _ _ _ hy1)
            have f5 : ∀ v, (wr.setCell ⟨x.g, o + k, none⟩ v).cell? ⟨x.p, o + k, none⟩ = some (.bool y1) := fun v => by rw [World.cell?_setCell_other _ _ _ _ (fun e => hgp (congrArg Addr.block e))]; exact f2
            have f3 := frozen_obj (i := o + k) HP.out
            have e3 : (0 : Int) ≤ (o : Int) + k := by omega
            have e4 : (o : Int) + k < (x.A.bytes.length : Int) := by omega
            have HST := Lib.hid (store_step hgp (by omega) hR.len HG.out HP.out)
            have HRl := Lib.hid hR.len
            clear c0 c1 c2 hy0 hy1
            simp only [List.getElem?_toArray, List.getElem?_cons_zero, List.getElem?_cons_succ] at e0 e1
            go_wp2_with fail
            go_region
            go_wp2
            go_roundw
            case rel => exact ⟨k + 1, by omega, by go_num, ((hK.setCell (by simp) _).setCell (by simp) _).drew, Lib.hid HST.out.1, Lib.hid HST.out.2⟩
            case measure => simp [intOf]; omega
          · have hks : k = s.toNat := by omega
            have HKS := Lib.hid hks
            clear hks c0 c1 c2
            go_wp2_with fail
            go_returns
            have eN := HKS.out
            subst eN
            have hlb := bytesOf_len n s.toNat
            have hfoot : ∀ j ∈ [x.g, x.p], j ∈ foot b r L := by
              intro j hj
              simp only [foot, List.mem_cons]
              refine .inr (.inr (List.mem_flatMap.2 ⟨x, hx, ?_⟩))
              simp only [List.mem_cons, List.not_mem_nil, or_false] at hj
              simp only [Rec.blocks, List.mem_cons, List.not_mem_nil, or_false]
              exact .inr hj
            have hu : ∀ q ∈ over x.A.bytes o (bytesOf n s.toNat), 0 ≤ q ∧ q ≤ 255 := by
              intro q hq
              simp only [over, List.mem_append] at hq
              rcases hq with (hq | hq) | hq
              · exact hR.u8 q (List.mem_of_mem_take hq)
              · exact bytesOf_u8 _ _ q hq
              · exact hR.u8 q (List.mem_of_mem_drop hq)
            refine ⟨by simp [mstore, HZ.out, HF.out, HFX.out], hK.mono (fun j hj => .inl (hfoot j hj)), updRec L x (x.A.write o (bytesOf n s.toNat)), ?_, ?_, foot_upd _ _ _ _ _⟩
            · exact HM.out.upd hx _ rfl (over_len _ _ _ (by omega)) (by simp only [Ar.write]; rw [over_len _ _ _ (by rw [List.length_map, hR.len]; omega), over_len _ _ _ (by omega), hR.len]) hu hK HG.out HP.out
            · rw [view_upd]; simp [mstore, HZ.out, HF.out, HFX.out, HXN.out]
end Go.Proofs.YtlpeljpjgmapgaaGreat
