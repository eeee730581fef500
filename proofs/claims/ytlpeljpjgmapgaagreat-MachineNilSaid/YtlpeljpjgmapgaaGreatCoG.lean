/- Lists of instructions: Wide, Next, Starts. -/
import Derived.Test.YtlpeljpjgmapgaaGreatContains
namespace Go.Proofs.YtlpeljpjgmapgaaGreat
open Go.RowKit
set_option linter.unusedVariables false
set_option linter.unusedSimpArgs false

theorem Rd.elt_add' {α : Type} {w : World} {sz : Nat} {enc : α → List Value} {v : Value} {xs : List α} (h : Rd w sz enc v xs) {i : Nat} {x : α} (hx : xs[i]? = some x) (k j : Nat) : (elt v k).add j = elt v (k + j) := by
  obtain ⟨a, c, rfl, h2, h3, h4, h5⟩ := h
  cases a with
  | none => rw [(h4 rfl).1] at hx; simp at hx
  | some a => simp only [elt, Addr.add_add]
theorem ins_cells {w : World} {v : Value} {L : List Ins} (R : Rd w 5 Ins.enc v L) {i : Nat} {x : Ins} (hx : L[i]? = some x) :
    w.cell? (elt v (i * 5)) = some (.int .u8 x.op) ∧ w.cell? ⟨(elt v (i * 5)).block, (elt v (i * 5)).off + 1, none⟩ = some (.int .u8 x.dst) ∧ w.cell? ⟨(elt v (i * 5)).block, (elt v (i * 5)).off + 2, none⟩ = some (.int .u8 x.src) ∧ w.cell? ⟨(elt v (i * 5)).block, (elt v (i * 5)).off + 3, none⟩ = some (.int .i16 x.off) ∧ w.cell? ⟨(elt v (i * 5)).block, (elt v (i * 5)).off + 4, none⟩ = some (.int .i32 x.imm) := by
  have E := R.elt_add' hx
  have F : ∀ (p : Addr) (j : Nat), j ≠ 0 → (⟨p.block, p.off + j, none⟩ : Addr) = p.add j := fun p j h => by simp [Addr.add, h]
  rw [F _ 1 (by decide), F _ 2 (by decide), F _ 3 (by decide), F _ 4 (by decide), E, E, E, E]
  exact ⟨R.cell hx (j := 0) rfl, R.cell hx (j := 1) rfl, R.cell hx (j := 2) rfl, R.cell hx (j := 3) rfl, R.cell hx (j := 4) rfl⟩
theorem p_wideI (x : Ins) (w : World) : Calls Tryz.prog 64 #[x.agg] w fun e w' => e = .returned (.bool (x.op == 24)) ∧ w' = w.alloc (.cells #[.int .u8 x.op, .int .u8 x.dst, .int .u8 x.src, .int .i16 x.off, .int .i32 x.imm] 64) := by
  go_enter Tryz.func64, Tryz.ntmps64
  go_wp2_with fail
  go_returns
  exact ⟨rfl, rfl⟩
def nextI (x : Ins) (k : Nat) : Nat := if x.op = 24 then k + 2 else k + 1
set_option maxHeartbeats 1000000 in
theorem p_Next (v : Value) (L : List Ins) (k : Nat) (x : Ins) (w : World) (h : Rd w 5 Ins.enc v L) (hl : L.length ≤ 1000000) (hx : L[k]? = some x) : Calls Tryz.prog 35 #[v, .int .i64 k] w fun e w' => e = .returned (.int .i64 (nextI x k)) ∧ Ext w w' := by
  obtain ⟨a, n, c, rfl, hn, hN⟩ := h.val
  have hk : k < n := by rw [hN.out]; exact (List.getElem?_eq_some_iff.1 hx).1
  have hk2 : n ≤ 1000000 := by rw [hN.out]; exact hl
  obtain ⟨c0, c1, c2, c3, c4⟩ := ins_cells h hx
  have ix := fun W => h.run_at (P := Tryz.prog) el_ins.under el_ins.size .i64 (k : Int) (by omega) (by omega) W
  simp only [Int.toNat_natCast] at ix
  obtain ⟨z, hz⟩ : ∃ z, (x.op == 24) = z := ⟨_, rfl⟩
  have hn2 : nextI x k = if z = true then k + 2 else k + 1 := by unfold nextI; simp [← hz]
  rw [hn2]
  have HZ := Lib.hid hz
  clear h hx hz hn2
  have w1 : wrap64 ((k : Int) + 1) = k + 1 := by unfold wrap64; omega
  have w2 : wrap64 ((k : Int) + 2) = k + 2 := by unfold wrap64; omega
  go_enter Tryz.func35, Tryz.ntmps35
  go_wp2_with fail
  refine (p_wideI x _).mono ?_
  rw [HZ.out]
  rintro e w5 ⟨rfl, rfl⟩
  cases z
  all_goals
    go_wp2_with fail
    go_returns
    exact ⟨by simp <;> rfl, by (repeat (first | exact Ext.rfl' _ | assumption | refine Ext.drewN' ?_ _ | refine Ext.drew' ?_ | refine Ext.alloc' ?_ _ | refine Ext.trans' ?_ (by assumption)))⟩
/-- Where instructions begin: skip: here is the other half of the one ahead. -/
def stF : Bool → List Ins → List Bool
  | _, [] => []
  | true, _ :: xs => false :: stF false xs
  | false, x :: xs => true :: stF (x.op == 24) xs
theorem stF_length : ∀ (b : Bool) (L : List Ins), (stF b L).length = L.length
  | true, [] => rfl
  | false, [] => rfl
  | true, _ :: xs => by simp [stF, stF_length false xs]
  | false, x :: xs => by simp [stF, stF_length _ xs]
def stD (L : List Ins) (k : Nat) : Prop := (stF false L).drop k = stF false (L.drop k)
theorem drop_cons {α : Type} {L : List α} {k : Nat} {x : α} (hx : L[k]? = some x) : L.drop k = x :: L.drop (k + 1) := by
  obtain ⟨h, rfl⟩ := List.getElem?_eq_some_iff.1 hx
  exact List.drop_eq_getElem_cons h
theorem st_step {L : List Ins} {k : Nat} {x : Ins} (hD : stD L k) (hx : L[k]? = some x) :
    (stF false L)[k]? = some true ∧ stD L (nextI x k) ∧ (x.op = 24 → k + 1 < L.length → (stF false L)[k + 1]? = some false) := by
  unfold stD at *
  rw [drop_cons hx] at hD
  simp only [stF] at hD
  have h0 : (stF false L)[k]? = some true := by
    have := congrArg (fun l => l[0]?) hD
    simpa using this
  have h1 : (stF false L).drop (k + 1) = stF (x.op == 24) (L.drop (k + 1)) := by
    have := congrArg (List.drop 1) hD
    simpa [Nat.add_comm] using this
  refine ⟨h0, ?_, fun hop hk => ?_⟩
  · unfold nextI
    by_cases hop : x.op = 24
    · rw [if_pos hop]
      have e : (x.op == 24) = true := by simpa using hop
      rw [e] at h1
      cases hr : L.drop (k + 1) with
      | nil =>
        have hl : L.length ≤ k + 1 := by simpa using hr
        rw [List.drop_eq_nil_of_le (by rw [stF_length]; omega), List.drop_eq_nil_of_le (by omega)]
        rfl
      | cons y ys =>
        rw [hr] at h1
        have h2 : L.drop (k + 2) = ys := by
          have := congrArg (List.drop 1) hr
          rw [List.drop_drop] at this
          exact this
        have h3 := congrArg (List.drop 1) h1
        rw [h2]
        rw [List.drop_drop] at h3
        exact h3
    · rw [if_neg hop]
      have e : (x.op == 24) = false := by simpa using hop
      rw [e] at h1
      exact h1
  · have e : (x.op == 24) = true := by simpa using hop
    rw [e] at h1
    obtain ⟨y, hy⟩ := at_of_lt hk
    rw [drop_cons hy] at h1
    have := congrArg (fun l => l[0]?) h1
    simpa [stF] using this
theorem el_bool : El Tryz.prog 106 4 1 1 (.bool false) := ⟨Tryz.underlying106, by kernel_rfl, rfl, by decide, fun _ => by kernel_rfl⟩
theorem run_make_bool (n : Nat) (hn : n ≤ 1000000) (u : World) : (Instr.makeSlice 106 (.int .i64 (n : Int)) (.int .i64 (n : Int))).run Tryz.prog u = .ok (.slice (some ⟨u.heap.size, 0, none⟩) n n) (u.alloc (.cells (madeCells #[.bool false] n) 4)) := by
  obtain ⟨i0, hi0, hz0, hz1, hz2⟩ := info_parts el_bool.info
  have h := run_make (P := Tryz.prog) u 106 4 i0 (.bool false) el_bool.under hi0 hz0 .i64 .i64 (n : Int) (n : Int) (by omega) (Int.le_refl _) (by rw [hz2]; omega) (by omega)
  simpa [hz1, Value.cells] using h
theorem own_made_bool (u : World) (n : Nat) (hn : n ≤ 1000000) (base : Nat) (hle : base ≤ u.heap.size) : Own (u.alloc (.cells (madeCells #[.bool false] n) 4)) base 4 1 (fun x => [Value.bool x]) (.slice (some ⟨u.heap.size, 0, none⟩) n n) (List.replicate n false) := by
  have e : (madeCells #[.bool false] n : Array Value) = ((List.replicate n false).flatMap fun x => [Value.bool x]).toArray := by
    apply Array.toList_inj.1
    rw [toList_madeCells_one, flat1, List.map_replicate]
  rw [e]
  exact Own.lit enc_bool _ rfl (by simp) hle (by simp [maxLen]; omega)
def StAns (L : List Ins) (w : World) (e : Ending) (w' : World) : Prop := ∃ s, e = .returned s ∧ Own w' w.heap.size 4 1 (fun x => [Value.bool x]) s (stF false L) ∧ Ext w w'
set_option maxHeartbeats 1000000 in
theorem p_Starts (v : Value) (L : List Ins) (w : World) (h : Rd w 5 Ins.enc v L) (hl : L.length ≤ 1000000) : Calls Tryz.prog 44 #[v] w (StAns L w) := by
  obtain ⟨a, n, c, rfl, hn, hN⟩ := h.val
  have hk2 : n ≤ 1000000 := by rw [hN.out]; exact hl
  have HL := Lib.hid hl
  have HD := Lib.hid h
  have hmk := run_make_bool n hk2
  clear h
  go_enter Tryz.func44, Tryz.ntmps44
  go_upto_region 1 with fail
  go_cut [3] (fun v3 wx => Hid (Own wx w.heap.size 4 1 (fun x => [Value.bool x]) v3 (List.replicate n false)) ∧ Ext w wx)
  case first =>
    go_wp2_with fail
    go_meet
    exact ⟨Lib.hid (own_made_bool _ _ hk2 _ (Nat.le_refl _)), by (repeat (first | exact Ext.rfl' _ | assumption | refine Ext.drewN' ?_ _ | refine Ext.drew' ?_ | refine Ext.alloc' ?_ _ | refine Ext.trans' ?_ (by assumption)))⟩
  case rest =>
    obtain ⟨HO, hE⟩ := hcut
    obtain ⟨a3, n3, c3, rfl, hn3, hN3⟩ := (HO.out.rd enc_bool).val
    obtain rfl : n3 = n := by have := hN3.out; simpa using this
    clear hmk
    go_wp2_with fail
    go_loopw [4] (fun i wr => ∃ k : Nat, i = .int .i64 k ∧ k ≤ n3 + 1 ∧ Ext w wr ∧ Hid (stD L k) ∧ Hid (∃ T : List Bool, T.length = n3 ∧ Own wr w.heap.size 4 1 (fun x => [Value.bool x]) (.slice a3 n3 c3) T ∧ (∀ i, i < k → T[i]? = (stF false L)[i]?) ∧ (∀ i, k ≤ i → i < n3 → T[i]? = some false))) (fun i _ => n3 + 2 - (intOf i).toNat)
    case atStart => exact ⟨0, rfl, by omega, hE, Lib.hid rfl, Lib.hid ⟨List.replicate n3 false, by simp, HO.out, fun i hi => absurd hi (Nat.not_lt_zero _), fun i _ hi => by simp [hi]⟩⟩
    case round =>
      obtain ⟨k, rfl, hk, hwr, HSD, HT⟩ := hrel
      obtain ⟨T, hT, hO, hT1, hT2⟩ := HT.out
      have HT1 := Lib.hid hT1
      have HT2 := Lib.hid hT2
      have HTL := Lib.hid hT
      clear hT hT1 hT2 HT
      by_cases hlt : (k : Int) < n3
      · obtain ⟨x, hx⟩ := at_of_lt (xs := L) (k := k) (by have := hN.out; omega)
        obtain ⟨y, hy⟩ := at_of_lt (xs := T) (k := k) (by have := HTL.out; omega)
        have ix := fun W => (hO.rd enc_bool).run_at (P := Tryz.prog) el_bool.under el_bool.size .i64 (k : Int) (by omega) (by omega) W
        simp only [Nat.mul_one, Int.toNat_natCast] at ix
        obtain ⟨e1, e2, e3, e4, e5⟩ := hO.at hy
        have HX := Lib.hid hx
        have HO5 := Lib.hid (e5 true)
        clear hx hy e5 hO e3
        go_wp2_with fail
        have hE2 : Ext w _ := HO5.out.2 _ _ hwr (Nat.le_refl _)
        refine (p_Next _ L k x _ (HD.out.ext hE2) HL.out HX.out).mono ?_
        rintro e w5 ⟨rfl, hE5⟩
        have HE5 := Lib.hid hE5
        clear hE5
        go_wp2_with fail
        go_roundw
        case rel =>
          obtain ⟨q1, q2, q3⟩ := st_step HSD.out HX.out
          have hkn : k < n3 := by omega
          refine ⟨nextI x k, rfl, by unfold nextI; split <;> omega, hE2.trans' HE5.out, Lib.hid q2, Lib.hid ⟨T.set k true, by simpa using HTL.out, HO5.out.1.ext HE5.out, fun i hi => ?_, fun i hi hi2 => ?_⟩⟩
          · by_cases h1 : i = k
            · subst h1
              rw [q1, List.getElem?_set_self (by have := HTL.out; omega)]
            · rw [List.getElem?_set_ne (Ne.symm h1)]
              by_cases h2 : i < k
              · exact HT1.out i h2
              · have h3 : x.op = 24 ∧ i = k + 1 := by
                  unfold nextI at hi
                  split at hi
                  · rename_i hop; exact ⟨hop, by omega⟩
                  · omega
                obtain ⟨hop, rfl⟩ := h3
                by_cases h4 : k + 1 < n3
                · rw [HT2.out _ (by omega) h4, q3 hop (by have := hN.out; omega)]
                · rw [List.getElem?_eq_none (by have := HTL.out; omega), List.getElem?_eq_none (by rw [stF_length]; have := hN.out; omega)]
          · have : k < nextI x k := by unfold nextI; split <;> omega
            rw [List.getElem?_set_ne (by omega)]
            exact HT2.out i (by omega) hi2
        case measure =>
          have : k < nextI x k := by unfold nextI; split <;> omega
          simp [intOf]
          omega
      · have hT : T = stF false L := by
          apply List.ext_getElem?
          intro i
          by_cases h1 : i < k
          · exact HT1.out i h1
          · rw [List.getElem?_eq_none (by have := HTL.out; omega), List.getElem?_eq_none (by rw [stF_length]; have := hN.out; omega)]
        subst hT
        have HO := Lib.hid hO
        clear hO
        go_wp2_with fail
        go_returns
        exact ⟨_, rfl, HO.out, hwr⟩
end Go.Proofs.YtlpeljpjgmapgaaGreat
