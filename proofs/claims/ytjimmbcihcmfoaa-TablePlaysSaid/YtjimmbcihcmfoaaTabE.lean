/- Maps of layer 9: what may be (Right), key. -/
import Derived.Test.YtjimmbcihcmfoaaTabD
namespace Go.Proofs.Ytjimmbcihcmfoaa
open Go.RowKit
set_option linter.unusedVariables false
set_option linter.unusedSimpArgs false

structure TDef where
  hash : Bool
  key : Int
  val : Int
  max : Int
def TDef.enc (d : TDef) : List Value := [.bool d.hash, .int .i64 d.key, .int .i64 d.val, .int .i64 d.max]
theorem enc_def : Enc 4 TDef.enc := ⟨fun _ => rfl, fun x u hu => by
  simp only [TDef.enc, List.mem_cons, List.not_mem_nil, or_false] at hu
  rcases hu with rfl | rfl | rfl | rfl <;> rfl⟩
theorem el_def : El Try.prog 22 53 4 32 (.agg #[.bool false, .int .i64 0, .int .i64 0, .int .i64 0]) := ⟨Try.underlying22, by kernel_rfl, rfl, by decide, fun _ => by kernel_rfl⟩
def mayD (d : TDef) : Bool := (if d.hash then decide (1 ≤ d.key) && decide (d.key ≤ 16) else d.key == 4) && decide (8 ≤ d.val) && decide (d.val ≤ 64) && d.val % 8 == 0 && decide (1 ≤ d.max) && decide (d.max ≤ 16)
def TDef.agg (d : TDef) : Value := .agg #[.bool d.hash, .int .i64 d.key, .int .i64 d.val, .int .i64 d.max]
def BoolAns (b : Bool) (w : World) (e : Ending) (w' : World) : Prop := e = .returned (.bool b) ∧ Ext w w'
set_option maxHeartbeats 2000000 in
theorem tab_may (d : TDef) (w : World) : Calls Try.prog 35 #[.agg #[.bool d.hash, .int .i64 d.key, .int .i64 d.val, .int .i64 d.max]] w (BoolAns (mayD d) w) := by
  obtain ⟨h, k, v, m⟩ := d
  simp only
  cases h with
  | false =>
    cases hk : (k == 4) with
    | false =>
      have HK := Lib.hid hk
      go_enter Try.func35, Try.ntmps35
      go_wp2_with fail
      go_returns
      exact ⟨ret_bool (by simp [mayD, HK.out]), by (repeat (first | exact Ext.rfl' _ | assumption | refine Ext.drewN' ?_ _ | refine Ext.drew' ?_ | refine Ext.alloc' ?_ _ | refine Ext.trans' ?_ (by assumption)))⟩
    | true =>
      have HK := Lib.hid hk
      by_cases h1 : 8 ≤ v
      case neg =>
        go_enter Try.func35, Try.ntmps35
        go_wp2_with fail
        go_returns
        exact ⟨ret_bool (by have : decide (8 ≤ v) = false := by simpa using h1
                            simp [mayD, this]), by (repeat (first | exact Ext.rfl' _ | assumption | refine Ext.drewN' ?_ _ | refine Ext.drew' ?_ | refine Ext.alloc' ?_ _ | refine Ext.trans' ?_ (by assumption)))⟩
      by_cases h2 : v ≤ 64
      case neg =>
        go_enter Try.func35, Try.ntmps35
        go_wp2_with fail
        go_returns
        exact ⟨ret_bool (by have : decide (v ≤ 64) = false := by simpa using h2
                            simp [mayD, this]), by (repeat (first | exact Ext.rfl' _ | assumption | refine Ext.drewN' ?_ _ | refine Ext.drew' ?_ | refine Ext.alloc' ?_ _ | refine Ext.trans' ?_ (by assumption)))⟩
      cases h3 : (v % 8 == 0) with
      | false =>
        have H3 := Lib.hid h3
        go_enter Try.func35, Try.ntmps35
        go_wp2_with fail
        go_returns
        exact ⟨ret_bool (by simp [mayD, H3.out]), by (repeat (first | exact Ext.rfl' _ | assumption | refine Ext.drewN' ?_ _ | refine Ext.drew' ?_ | refine Ext.alloc' ?_ _ | refine Ext.trans' ?_ (by assumption)))⟩
      | true =>
        have H3 := Lib.hid h3
        by_cases h4 : 1 ≤ m
        case neg =>
          go_enter Try.func35, Try.ntmps35
          go_wp2_with fail
          go_returns
          exact ⟨ret_bool (by have : decide (1 ≤ m) = false := by simpa using h4
                              simp [mayD, this]), by (repeat (first | exact Ext.rfl' _ | assumption | refine Ext.drewN' ?_ _ | refine Ext.drew' ?_ | refine Ext.alloc' ?_ _ | refine Ext.trans' ?_ (by assumption)))⟩
        have D1 := Lib.hid (show decide (8 ≤ v) = true by simpa using h1)
        have D2 := Lib.hid (show decide (v ≤ 64) = true by simpa using h2)
        have D4 := Lib.hid (show decide (1 ≤ m) = true by simpa using h4)
        go_enter Try.func35, Try.ntmps35
        go_wp2_with fail
        go_returns
        exact ⟨ret_bool (by simp [mayD, HK.out, H3.out, D1.out, D2.out, D4.out]), by (repeat (first | exact Ext.rfl' _ | assumption | refine Ext.drewN' ?_ _ | refine Ext.drew' ?_ | refine Ext.alloc' ?_ _ | refine Ext.trans' ?_ (by assumption)))⟩
  | true =>
    by_cases g1 : 1 ≤ k
    case neg =>
      go_enter Try.func35, Try.ntmps35
      go_wp2_with fail
      go_returns
      exact ⟨ret_bool (by have : decide (1 ≤ k) = false := by simpa using g1
                          simp [mayD, this]), by (repeat (first | exact Ext.rfl' _ | assumption | refine Ext.drewN' ?_ _ | refine Ext.drew' ?_ | refine Ext.alloc' ?_ _ | refine Ext.trans' ?_ (by assumption)))⟩
    by_cases g2 : k ≤ 16
    case neg =>
      go_enter Try.func35, Try.ntmps35
      go_wp2_with fail
      go_returns
      exact ⟨ret_bool (by have : decide (k ≤ 16) = false := by simpa using g2
                          simp [mayD, this]), by (repeat (first | exact Ext.rfl' _ | assumption | refine Ext.drewN' ?_ _ | refine Ext.drew' ?_ | refine Ext.alloc' ?_ _ | refine Ext.trans' ?_ (by assumption)))⟩
    have G1 := Lib.hid (show decide (1 ≤ k) = true by simpa using g1)
    have G2 := Lib.hid (show decide (k ≤ 16) = true by simpa using g2)
    by_cases h1 : 8 ≤ v
    case neg =>
      go_enter Try.func35, Try.ntmps35
      go_wp2_with fail
      go_returns
      exact ⟨ret_bool (by have : decide (8 ≤ v) = false := by simpa using h1
                          simp [mayD, this]), by (repeat (first | exact Ext.rfl' _ | assumption | refine Ext.drewN' ?_ _ | refine Ext.drew' ?_ | refine Ext.alloc' ?_ _ | refine Ext.trans' ?_ (by assumption)))⟩
    by_cases h2 : v ≤ 64
    case neg =>
      go_enter Try.func35, Try.ntmps35
      go_wp2_with fail
      go_returns
      exact ⟨ret_bool (by have : decide (v ≤ 64) = false := by simpa using h2
                          simp [mayD, this]), by (repeat (first | exact Ext.rfl' _ | assumption | refine Ext.drewN' ?_ _ | refine Ext.drew' ?_ | refine Ext.alloc' ?_ _ | refine Ext.trans' ?_ (by assumption)))⟩
    cases h3 : (v % 8 == 0) with
    | false =>
      have H3 := Lib.hid h3
      go_enter Try.func35, Try.ntmps35
      go_wp2_with fail
      go_returns
      exact ⟨ret_bool (by simp [mayD, H3.out]), by (repeat (first | exact Ext.rfl' _ | assumption | refine Ext.drewN' ?_ _ | refine Ext.drew' ?_ | refine Ext.alloc' ?_ _ | refine Ext.trans' ?_ (by assumption)))⟩
    | true =>
      have H3 := Lib.hid h3
      by_cases h4 : 1 ≤ m
      case neg =>
        go_enter Try.func35, Try.ntmps35
        go_wp2_with fail
        go_returns
        exact ⟨ret_bool (by have : decide (1 ≤ m) = false := by simpa using h4
                            simp [mayD, this]), by (repeat (first | exact Ext.rfl' _ | assumption | refine Ext.drewN' ?_ _ | refine Ext.drew' ?_ | refine Ext.alloc' ?_ _ | refine Ext.trans' ?_ (by assumption)))⟩
      have D1 := Lib.hid (show decide (8 ≤ v) = true by simpa using h1)
      have D2 := Lib.hid (show decide (v ≤ 64) = true by simpa using h2)
      have D4 := Lib.hid (show decide (1 ≤ m) = true by simpa using h4)
      go_enter Try.func35, Try.ntmps35
      go_wp2_with fail
      go_returns
      exact ⟨ret_bool (by simp [mayD, G1.out, G2.out, H3.out, D1.out, D2.out, D4.out]), by (repeat (first | exact Ext.rfl' _ | assumption | refine Ext.drewN' ?_ _ | refine Ext.drew' ?_ | refine Ext.alloc' ?_ _ | refine Ext.trans' ?_ (by assumption)))⟩

theorem tab_may1 (d : TDef) (w : World) : Calls Try.prog 34 #[.agg #[.bool d.hash, .int .i64 d.key, .int .i64 d.val, .int .i64 d.max]] w (BoolAns (!mayD d) w) := by
  go_enter Try.func34, Try.ntmps34
  go_wp2_with fail
  refine (tab_may d _).mono ?_
  rintro e w2 ⟨rfl, he⟩
  have he' := (Ext.alloc' (Ext.rfl' w) _).trans' he
  go_wp2_with fail
  go_returns
  exact ⟨rfl, he'⟩
def IdxD (ds : List TDef) (w : World) (e : Ending) (w' : World) : Prop := ∃ i : Int, e = .returned (.int .i64 i) ∧ Ext w w' ∧ (decide (0 ≤ i) = !ds.all mayD)
theorem def_cells {w : World} {v : Value} {L : List TDef} (R : Rd w 4 TDef.enc v L) {i : Nat} {x : TDef} (hx : L[i]? = some x) :
    w.cell? (elt v (i * 4)) = some (.bool x.hash) ∧ w.cell? ⟨(elt v (i * 4)).block, (elt v (i * 4)).off + 1, none⟩ = some (.int .i64 x.key) ∧ w.cell? ⟨(elt v (i * 4)).block, (elt v (i * 4)).off + 2, none⟩ = some (.int .i64 x.val) ∧ w.cell? ⟨(elt v (i * 4)).block, (elt v (i * 4)).off + 3, none⟩ = some (.int .i64 x.max) := by
  have E := R.elt_add hx
  have F : ∀ (p : Addr) (j : Nat), j ≠ 0 → (⟨p.block, p.off + j, none⟩ : Addr) = p.add j := fun p j h => by simp [Addr.add, h]
  rw [F _ 1 (by decide), F _ 2 (by decide), F _ 3 (by decide), E, E, E]
  exact ⟨R.cell hx (j := 0) rfl, R.cell hx (j := 1) rfl, R.cell hx (j := 2) rfl, R.cell hx (j := 3) rfl⟩
set_option maxHeartbeats 1000000 in
theorem tab_index (dv : Value) (ds : List TDef) (w : World) (h : Rd w 4 TDef.enc dv ds) : Calls Try.prog 49 #[dv, .func (.func 34) #[] #[]] w (IdxD ds w) := by
  obtain ⟨a, n, c, rfl, hn, hN⟩ := h.val
  have HD := Lib.hid h
  clear h
  go_enter Try.func49, Try.ntmps49
  go_wp2_with fail
  go_loopw [8] (fun i wr => ∃ j : Nat, j ≤ n ∧ i = .int .i64 j ∧ Ext w wr ∧ Hid (∀ (q : Nat) (y : TDef), q < j → ds[q]? = some y → mayD y = true)) (fun i _ => n - (intOf i).toNat)
  case atStart => exact ⟨0, Nat.zero_le _, rfl, Ext.rfl' _, Lib.hid fun q y hq => absurd hq (Nat.not_lt_zero _)⟩
  case round =>
    obtain ⟨j, hj, rfl, hwr, HJ⟩ := hrel
    by_cases hlt : (j : Int) < n
    · obtain ⟨x, hx⟩ := at_of_lt (xs := ds) (k := j) (by have := hN.out; omega)
      obtain ⟨c0, c1, c2, c3⟩ := def_cells (HD.out.ext hwr) hx
      have ix := fun W => HD.out.run_at (P := Try.prog) el_def.under el_def.size .i64 (j : Int) (by omega) (by omega) W
      simp only [Int.toNat_natCast] at ix
      have HX := Lib.hid hx
      clear hx
      go_wp2_with fail
      refine (tab_may1 x _).mono ?_
      rintro e w2 ⟨rfl, he2⟩
      cases hm : mayD x with
      | true =>
        have HMX := Lib.hid hm
        clear hm
        simp only [Bool.not_true]
        go_wp2_with fail
        go_roundw
        case rel =>
          refine ⟨j + 1, by omega, by go_num, hwr.trans' he2, Lib.hid fun q y hq hy => ?_⟩
          rcases Nat.lt_succ_iff_lt_or_eq.1 hq with hq | rfl
          · exact HJ.out q y hq hy
          · rw [HX.out] at hy; injection hy with e; subst e; exact HMX.out
        case measure => simp [intOf]; omega
      | false =>
        have HMX := Lib.hid hm
        clear hm
        simp only [Bool.not_false]
        go_wp2_with fail
        go_returns
        refine ⟨j, rfl, hwr.trans' he2, ?_⟩
        have : ds.all mayD = false := by
          rw [Bool.eq_false_iff]
          intro h
          rw [List.all_eq_true] at h
          have := h x (List.mem_of_getElem? HX.out)
          rw [HMX.out] at this; cases this
        rw [this]; simp
    · have hjn : j = ds.length := by have := hN.out; omega
      have HJN := Lib.hid hjn
      clear hjn
      go_wp2_with fail
      go_returns
      refine ⟨-1, rfl, hwr, ?_⟩
      have : ds.all mayD = true := by
        rw [List.all_eq_true]
        intro y hy
        obtain ⟨q, hq⟩ := List.getElem?_of_mem hy
        exact HJ.out q y (by rw [HJN.out]; exact (List.getElem?_eq_some_iff.1 hq).1) hq
      rw [this]; rfl

theorem tab_contains (dv : Value) (ds : List TDef) (w : World) (h : Rd w 4 TDef.enc dv ds) : Calls Try.prog 33 #[dv, .func (.func 34) #[] #[]] w (BoolAns (!ds.all mayD) w) := by
  go_enter Try.func33, Try.ntmps33
  go_wp2_with fail
  refine (tab_index dv ds _ h).mono ?_
  rintro e w2 ⟨i, rfl, he, hi⟩
  have HI := Lib.hid hi
  clear hi
  go_wp2_with fail
  go_returns
  exact ⟨ret_bool HI.out, he⟩
def rightL (ds : List TDef) : Bool := decide (ds.length ≤ 8) && ds.all mayD
theorem tab_right (dv : Value) (ds : List TDef) (w : World) (h : Rd w 4 TDef.enc dv ds) : Calls Try.prog 12 #[dv] w (BoolAns (rightL ds) w) := by
  obtain ⟨a, n, c, rfl, hn, hN⟩ := h.val
  have HD := Lib.hid h
  clear h
  by_cases h8 : (n : Int) ≤ 8
  · have HL : Hid (decide (ds.length ≤ 8) = true) := Lib.hid (by have := hN.out; simp; omega)
    go_enter Try.func12, Try.ntmps12
    go_wp2_with fail
    refine (tab_contains _ ds _ HD.out).mono ?_
    rintro e w2 ⟨rfl, he⟩
    go_wp2_with fail
    go_returns
    exact ⟨ret_bool (by simp [rightL, HL.out]), he⟩
  · have HL : Hid (decide (ds.length ≤ 8) = false) := Lib.hid (by have := hN.out; simp; omega)
    go_enter Try.func12, Try.ntmps12
    go_wp2_with fail
    go_returns
    exact ⟨ret_bool (by simp [rightL, HL.out]), by (repeat (first | exact Ext.rfl' _ | assumption | refine Ext.drewN' ?_ _ | refine Ext.drew' ?_ | refine Ext.alloc' ?_ _ | refine Ext.trans' ?_ (by assumption)))⟩
/-- A number as a key. -/
def numKey (n : Int) : ByteArray := strOfNums [n % 256, 0, 0, 0]
theorem tab_key (n : Int) (w : World) : Calls Try.prog 31 #[.int .i64 n] w fun e w' => e = .returned (.string (numKey n)) ∧ Ext w w' := by
  have hlit : ∀ u : World, Own (u.alloc (.cells #[.int .u8 (IntKind.u8.wrap n), .int .u8 0, .int .u8 0, .int .u8 0] 5)) 0 5 1 (fun x => [Value.int .u8 x]) (.slice (some ⟨u.heap.size, 0, none⟩) 4 4) [IntKind.u8.wrap n, 0, 0, 0] := fun u => Own.lit (enc_int .u8) (w := u) [IntKind.u8.wrap n, 0, 0, 0] rfl rfl (Nat.zero_le _) (by simp [maxLen])
  have st := ((hlit w).rd (enc_int _)).run_str (P := Try.prog) Try.underlying40 Try.underlying5 Try.underlying9
  have e : IntKind.u8.wrap n = n % 256 := by rw [IntKind.wrap_u8]
  rw [e] at st
  clear hlit e
  go_enter Try.func31, Try.ntmps31
  go_wp2_with fail
  go_returns
  exact ⟨rfl, by (repeat (first | exact Ext.rfl' _ | assumption | refine Ext.drewN' ?_ _ | refine Ext.drew' ?_ | refine Ext.alloc' ?_ _ | refine Ext.trans' ?_ (by assumption)))⟩
end Go.Proofs.Ytjimmbcihcmfoaa
