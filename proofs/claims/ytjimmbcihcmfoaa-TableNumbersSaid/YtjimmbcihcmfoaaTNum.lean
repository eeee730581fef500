/- TableNumbers: what its code does. -/
import Derived.Test.YtjimmbcihcmfoaaTabN
import Derived.Deep.CutBlock
namespace Go.Proofs.Ytjimmbcihcmfoaa
open Go.RowKit
set_option linter.unusedVariables false
set_option linter.unusedSimpArgs false

abbrev numD (v m : Nat) : TDef := ⟨false, 4, v, m⟩
theorem nums_sorted {m : Nat} (h : m ≤ 16) : sortK ((nums m).map (·.1)) = (nums m).map (·.1) := by
  have hp : (((nums m).map (·.1)).map fun k => k.data.toList).Pairwise (fun a b => leB a b = true) := by
    rw [List.pairwise_map, List.pairwise_map]
    unfold nums
    rw [List.pairwise_map]
    refine List.Pairwise.imp_of_mem ?_ List.pairwise_lt_range
    intro a c ha hc hac
    have ha := List.mem_range.1 ha
    have hc := List.mem_range.1 hc
    have key : ∀ a : Fin 16, ∀ c : Fin 16, a.val < c.val → leB (numKey (a.val : Int)).data.toList (numKey (c.val : Int)).data.toList = true := by decide +kernel
    exact key ⟨a, by omega⟩ ⟨c, by omega⟩ hac
  unfold sortK
  rw [List.mergeSort_of_pairwise hp, List.map_map]
  conv => rhs; rw [← List.map_id ((nums m).map (·.1))]
  apply List.map_congr_left
  intro k _
  rfl
theorem num_val {M : Areas} {v m : Nat} (hm : m ≤ 16) (hz : ∀ (i s : Nat) d, [numD v m][i]? = some d → d.hash = false → s < d.max.toNat → M.lookup (tarea i s) = some (fullA (List.replicate d.val.toNat 0))) (j : Nat) (hj : j < m) :
    tval (M, [numD v m].map fullT) 0 (numKey (j : Int)) = some (List.replicate v 0) := by
  have := hz 0 j (numD v m) rfl rfl (by simpa using hj)
  simp only [tval, List.map_cons, List.map_nil, List.getElem?_cons_zero, Option.bind_some, fullT, Bool.false_eq_true, if_false, Int.toNat_natCast, nums_some (show m ≤ 256 by omega) hj, Option.map_some]
  simp only [marea, this, fullA, Int.toNat_natCast]
theorem num_items {V : Areas × List TM} {v m : Nat} (hV : V.2 = [numD v m].map fullT) (hm : m ≤ 16) : titems V 0 = (List.range m).map fun (j : Nat) => (numKey (j : Int), (tval V 0 (numKey (j : Int))).getD []) := by
  have h := titems_eq (V := V) 0 (t := fullT (numD v m)) (by rw [hV]; rfl)
  have e : (fullT (numD v m)).slots = nums m := by simp [fullT]
  rw [e, nums_sorted hm] at h
  rw [show ((0 : Nat) : Int) = 0 from rfl] at h
  rw [h, nums, List.map_map, List.map_map]
  rfl
theorem own_made (u : World) (n : Nat) (hn : n ≤ 1000000) (base b : Nat) (hb : b = u.heap.size) (hle : base ≤ u.heap.size) : Own (u.alloc (.cells (madeCells #[.int .u8 0] n) 5)) base 5 1 (fun x => [Value.int .u8 x]) (.slice (some ⟨b, 0, none⟩) n n) (List.replicate n 0) := by
  subst hb
  have e : (madeCells #[.int .u8 0] n : Array Value) = ((List.replicate n (0 : Int)).flatMap fun x => [Value.int .u8 x]).toArray := by
    apply Array.toList_inj.1
    rw [toList_madeCells_one, flat1, List.map_replicate]
  rw [e]
  exact own_obj (enc_int .u8) (obj_top _ _ rfl) hle (by simp) (by simp [maxLen]; omega)
/-- A key of one byte and a value of v zeros, both new. -/
def KvCut (w : World) (a : Int) (v : Nat) (v16 v17 : Value) (wx : World) : Prop :=
  ∃ bk bv, v16 = .slice (some ⟨bk, 0, none⟩) 4 4 ∧ v17 = .slice (some ⟨bv, 0, none⟩) v v ∧ bk ≠ bv ∧ w.heap.size ≤ bk ∧ w.heap.size ≤ bv ∧ Sl wx .u8 v16 [a, 0, 0, 0] ∧ Own wx w.heap.size 5 1 (fun x => [Value.int .u8 x]) v17 (List.replicate v 0) ∧ Ext w wx
theorem kv1 (w : World) (a : Int) (v : Nat) (hv : v ≤ 64) : KvCut w a v (.slice (some ⟨w.heap.size, 0, none⟩) 4 4) (.slice (some ⟨w.heap.size + 1, 0, none⟩) v v) ((w.alloc (.cells #[.int .u8 a, .int .u8 0, .int .u8 0, .int .u8 0] 5)).alloc (.cells (madeCells #[.int .u8 0] v) 5)).drew :=
  ⟨_, _, rfl, rfl, by omega, by omega, by omega, ((sl_lit w [a, 0, 0, 0] _ 4 rfl rfl (by simp)).ext ((Ext.rfl' _).alloc' _)).ext (Ext.rfl' _).drew', (own_made _ v (by omega) w.heap.size _ (by simp) (by simp)).ext (Ext.rfl' _).drew', by (repeat (first | exact Ext.rfl' _ | assumption | refine Ext.drewN' ?_ _ | refine Ext.drew' ?_ | refine Ext.alloc' ?_ _ | refine Ext.trans' ?_ (by assumption)))⟩
theorem kv2 (w : World) (a : Int) (v : Nat) (hv : v ≤ 64) : KvCut w a v (.slice (some ⟨w.heap.size + 1, 0, none⟩) 4 4) (.slice (some ⟨w.heap.size, 0, none⟩) v v) ((w.alloc (.cells (madeCells #[.int .u8 0] v) 5)).alloc (.cells #[.int .u8 a, .int .u8 0, .int .u8 0, .int .u8 0] 5)).drew :=
  ⟨_, _, rfl, rfl, by omega, by omega, by omega, (sl_lit _ [a, 0, 0, 0] _ 4 (by simp) rfl (by simp)).ext (Ext.rfl' _).drew', ((own_made w v (by omega) w.heap.size _ rfl (Nat.le_refl _)).alloc _).ext (Ext.rfl' _).drew', by (repeat (first | exact Ext.rfl' _ | assumption | refine Ext.drewN' ?_ _ | refine Ext.drew' ?_ | refine Ext.alloc' ?_ _ | refine Ext.trans' ?_ (by assumption)))⟩
theorem num_key (k : Nat) (h : k < 256) : strOfNums [(k : Int), 0, 0, 0] = numKey (k : Int) := by rw [numKey, Int.emod_eq_of_lt (by omega) (by omega)]
theorem nums_no {m k : Nat} (hm : m ≤ 16) (hk : k < 256) (h : ¬ k < m) : (nums m).lookup (numKey (k : Int)) = none := by
  cases hl : (nums m).lookup (numKey (k : Int)) with
  | none => rfl
  | some s =>
    have h1 := nums_mem (lookup_mem' hl)
    simp only at h1
    have := nk_inj (by omega) (by omega) h1.2
    omega
theorem num_find (v m : Nat) (k : Int) : tfind ([numD v m].map fullT) 0 [k, 0, 0, 0].length = some ⟨false, 4, v, m, nums m, m⟩ := by
  simp [tfind, pick, fullT, TDef.tm]
theorem num_look (v m k : Nat) (hm : m ≤ 16) (hk : k < 256) : tlook ([numD v m].map fullT) 0 [(k : Int), 0, 0, 0] = if k < m then (mat (tarea 0 k) 0, 0) else (0, 0) := by
  rw [tlook, num_find]
  simp only
  rw [num_key k hk]
  by_cases h : k < m
  · rw [nums_some (by omega) h, if_pos h]
  · rw [nums_no hm hk h, if_neg h]
theorem num_put (M : Areas) (v m k : Nat) (vs : List Int) (hv : vs.length = v) (hm : m ≤ 16) (hk : k < 256) : tput (M, [numD v m].map fullT) 0 [(k : Int), 0, 0, 0] vs 0 = if k < m then ((mputs M (tarea 0 k) vs vs.length, [numD v m].map fullT), 0, 0) else ((M, [numD v m].map fullT), 18446744073709551609, 0) := by
  rw [tput, num_find]
  simp only
  rw [num_key k hk, if_neg (by rw [hv]; simp), if_neg (by decide)]
  by_cases h : k < m
  · rw [nums_some (by omega) h, if_pos h]
    simp
  · rw [nums_no hm hk h, if_neg h]
    simp
theorem num_drop (v m k : Nat) : tdrop ([numD v m].map fullT) 0 [(k : Int), 0, 0, 0] = ([numD v m].map fullT, 18446744073709551594, 0) := by
  rw [tdrop, num_find]
  simp
theorem rd_lt {α : Type} {w : World} {sz : Nat} {enc : α → List Value} {q n c : Nat} {x : α} {xs : List α} (h : Rd w sz enc (.slice (some ⟨q, 0, none⟩) n c) (x :: xs)) {u : Value} {us : List Value} (he : enc x = u :: us) : q < w.heap.size := by
  obtain ⟨a, c', hv, h2, h3, h4, h5⟩ := h
  injection hv with e1 e2 e3
  subst e1
  have := h5 0 x rfl 0 u (by rw [he]; rfl)
  have := World.block_lt_of_cell? w _ this
  simpa [elt, Addr.add] using this
theorem rd_lt' {w : World} {q n c v : Nat} {y : Int} (h : Sl w .u8 (.slice (some ⟨q, 0, none⟩) n c) (List.replicate v y)) (hv : 1 ≤ v) : q < w.heap.size := by
  obtain ⟨v, rfl⟩ : ∃ u, v = u + 1 := ⟨v - 1, by omega⟩
  rw [List.replicate_succ] at h
  exact rd_lt h rfl
theorem numT_look (v m k : Nat) (hm : m ≤ 16) (h : k < m) : (fullT (numD v m)).slots.lookup (numKey (k : Int)) = some k := by
  show (nums ((m : Int)).toNat).lookup _ = _
  rw [Int.toNat_natCast]
  exact nums_some (by omega) h
def NumCut (w : World) (v m : Nat) (v11 v12 : Value) (wx : World) : Prop :=
  ∃ W1 b tb V, v11 = .pointer (some ⟨tb, 0, none⟩) ∧ v12 = .int .i64 0 ∧ tnew [] [numD v m] = some V ∧ TabIn W1 wx b tb V [] ∧ Ext w wx ∧ Ext w W1
set_option maxRecDepth 20000 in
set_option maxHeartbeats 4000000 in
theorem num_any (a0 a1 a2 a3 : Int) (w : World) (h0 : 0 ≤ a0 ∧ a0 ≤ 255) (h1 : 0 ≤ a1 ∧ a1 ≤ 255) (h2 : 0 ≤ a2 ∧ a2 ≤ 255) (h3 : 0 ≤ a3 ∧ a3 ≤ 255) :
    Calls Try.prog 5 #[.int .u8 a0, .int .u8 a1, .int .u8 a2, .int .u8 a3] w (LawAns w) := by
  obtain ⟨kk, rfl⟩ : ∃ kk : Nat, a2 = kk := ⟨a2.toNat, by omega⟩
  obtain ⟨v, hv⟩ : ∃ v : Nat, 8 * (1 + a0 % 8) = (v : Int) := ⟨(8 * (1 + a0 % 8)).toNat, by omega⟩
  obtain ⟨m, hm⟩ : ∃ m : Nat, 1 + a1 % 16 = (m : Int) := ⟨(1 + a1 % 16).toNat, by omega⟩
  have e0 : (a0.tmod 8) = a0 % 8 := Int.tmod_eq_emod_of_nonneg h0.1
  have e1 : (a1.tmod 16) = a1 % 16 := Int.tmod_eq_emod_of_nonneg h1.1
  go_enter Try.func5, Try.ntmps5
  go_wp2_with fail
  refine (tab_shown w).mono ?_
  rintro e w1 ⟨rfl, he1⟩
  go_upto_region 3 with fail
  have hwz : Ext w (w1.alloc (.cells #[.bool false, .int .i64 4, .int .i64 v, .int .i64 m] 53)) := he1.alloc' _
  have hD := obj_top w1 (.cells #[.bool false, .int .i64 4, .int .i64 v, .int .i64 m] 53) rfl
  have HV := Lib.hid hv
  have HM := Lib.hid hm
  clear he1 e0 e1 hv hm
  generalize w1.alloc (.cells #[.bool false, .int .i64 4, .int .i64 v, .int .i64 m] 53) = wz at *
  generalize w1.heap.size = B at *
  have hq : Hid (∀ w', Ext wz w' → w'.cell? ⟨B, 0, none⟩ = some (.bool false) ∧ w'.cell? ⟨B, 1, none⟩ = some (.int .i64 4) ∧ w'.cell? ⟨B, 2, none⟩ = some (.int .i64 v) ∧ w'.cell? ⟨B, 3, none⟩ = some (.int .i64 m)) := Lib.hid fun w' k =>
    ⟨cell_obj (k.obj hD), cell_obj (k.obj hD), cell_obj (k.obj hD), cell_obj (k.obj hD)⟩
  clear hD
  go_cut [11, 12] (fun v11 v12 wx => NumCut wz v m v11 v12 wx)
  case first =>
    have hr : rightL [numD v m] = true := by
      have := HV.out; have := HM.out
      simp [rightL, mayD, numD]; omega
    obtain ⟨M, hM, -, -⟩ := tnew_spec hr
    have HTN := Lib.hid hM
    clear hM hr
    obtain ⟨p0, p1, p2, p3⟩ := hq.out _ (Ext.rfl' _)
    go_region_with ((first
      | (go_at_call 9; (with_reducible refine (in_new0 _).mono ?_); rintro e w3 ⟨b, rfl, h3⟩; have he3 : Ext wz w3 := Ext.trans' (by (repeat (first | exact Ext.rfl' _ | assumption | refine Ext.drewN' ?_ _ | refine Ext.drew' ?_ | refine Ext.alloc' ?_ _ | refine Ext.trans' ?_ (by assumption)))) h3.ext; obtain ⟨p0', p1', p2', p3'⟩ := hq.out _ he3; have H3 := Lib.hid h3; have HE3 := Lib.hid he3; clear h3 he3)
      | (go_at_call 10; (first | (with_reducible refine (new_lit1 H3.out false 4 v m HTN.out).mono ?_) | (with_reducible refine (new_lit2 false 4 v m H3.out HTN.out).mono ?_)); rintro e w4 ⟨tb, rfl, h4⟩; have H4 := Lib.hid h4; clear h4)))
    all_goals
      go_wp2_with fail
      go_meet
      exact ⟨_, _, _, _, rfl, rfl, HTN.out, H4.out, Ext.trans' (by (repeat (first | exact Ext.rfl' _ | assumption | refine Ext.drewN' ?_ _ | refine Ext.drew' ?_ | refine Ext.alloc' ?_ _ | refine Ext.trans' ?_ (by assumption)))) H4.out.ext, by (repeat (first | exact Ext.rfl' _ | assumption | refine Ext.drewN' ?_ _ | refine Ext.drew' ?_ | refine Ext.alloc' ?_ _ | refine Ext.trans' ?_ (by assumption)))⟩
  case rest =>
    obtain ⟨W1, b, tb, V, rfl, rfl, hV, hT, hE, hW1⟩ := hcut
    have HWZ := Lib.hid hwz
    have HW1 := Lib.hid hW1
    have hr : rightL [numD v m] = true := by
      have := HV.out; have := HM.out
      simp [rightL, mayD, numD]; omega
    obtain ⟨M, hM, hWf, hz⟩ := tnew_spec hr
    rw [hM] at hV
    injection hV with hV
    subst hV
    have HT := Lib.hid hT
    have HWF := Lib.hid hWf
    have HZ := Lib.hid hz
    have hwc : Ext w wc := hwz.trans' hE
    obtain ⟨q0, q1, q2, q3⟩ := hq.out _ hE
    have hVm : Hid (8 ≤ v ∧ v ≤ 64 ∧ 1 ≤ m ∧ m ≤ 16) := Lib.hid (by have := HV.out; have := HM.out; omega)
    clear hT hWf hz hM hr hW1
    go_wp2_with fail
    refine (int_items HT.out 0 (Lib.hid HWF.out.small)).mono ?_
    rintro e w4 ⟨iv, rfl, hit, he4⟩
    have hl0 : titems (M, [numD v m].map fullT) 0 = (List.range m).map fun (j : Nat) => (numKey (j : Int), List.replicate v 0) := by
      have hm16 := hVm.out.2.2.2
      rw [num_items (v := v) (m := m) rfl hm16]
      apply List.map_congr_left
      intro j hj
      rw [num_val hm16 HZ.out j (List.mem_range.1 hj)]
      rfl
    rw [hl0] at hit
    have HE4 := Lib.hid he4
    have HZ4 := Lib.hid (hE.trans' he4)
    have HT4 := Lib.hid (HT.out.go he4)
    have HW4 := Lib.hid (hwc.trans' he4)
    obtain ⟨p0, p1, p2, p3⟩ := hq.out _ (hE.trans' he4)
    obtain ⟨I, hI, hrows, hmap⟩ := hit
    have hIl : I.length = m := by have := congrArg List.length hmap; simpa using this
    obtain ⟨ia, inn, ic, rfl, hin, hIN⟩ := hI.val
    have hinm : inn = m := by have := hIN.out; omega
    subst hinm
    have HI := Lib.hid hI
    have HR := Lib.hid hrows
    have HMP := Lib.hid hmap
    have HIL := Lib.hid hIl
    have hm16 : inn ≤ 16 := hVm.out.2.2.2
    have hv64 : v ≤ 64 := hVm.out.2.1
    clear hI hrows hmap hIl hl0 HT hwz hE he4 hwc
    go_wp2_with fail
    go_loopw [58] (fun i wr => ∃ (j : Nat), j ≤ inn ∧ i = .int .i64 j ∧ Ext w4 wr) (fun i _ => inn - (intOf i).toNat)
    case atStart => exact ⟨0, Nat.zero_le _, rfl, Ext.rfl' _⟩
    case round =>
      obtain ⟨j, hj, rfl, hwr⟩ := hrel
      by_cases hlt : (j : Int) < inn
      · obtain ⟨x, hx⟩ := at_of_lt (xs := I) (k := j) (by have := HIL.out; omega)
        have ix := fun W => HI.out.run_at (P := Try.prog) el_item.under el_item.size .i64 (j : Int) (by omega) (by omega) W
        obtain ⟨c0, c1⟩ := item_cells (HI.out.ext hwr) hx
        simp only [Int.toNat_natCast] at ix
        obtain ⟨xk, xv⟩ := HR.out x (List.mem_of_getElem? hx)
        have hxm : (strOfNums x.key, x.val) = (numKey (j : Int), List.replicate v 0) := by
          have h1 := congrArg (fun l => l[j]?) HMP.out
          simp only [List.getElem?_map, hx, List.getElem?_range (show j < inn by omega), Option.map_some, Option.some.injEq] at h1
          exact h1
        injection hxm with hxk hxv
        rw [IT.kv] at c0 xk
        rw [IT.vv] at c1 xv
        obtain ⟨kn, hkn⟩ : ∃ kn, x.key.length = kn := ⟨_, rfl⟩
        obtain ⟨vn, hvn⟩ : ∃ vn, x.val.length = vn := ⟨_, rfl⟩
        rw [hkn] at c0 xk
        rw [hvn] at c1 xv
        have hmk : ∀ u : World, (Instr.makeSlice 40 (.int .i64 v) (.int .i64 v)).run Try.prog u = .ok (.slice (some ⟨u.heap.size, 0, none⟩) v v) (u.alloc (.cells (madeCells #[.int .u8 0] v) 5)) := run_make_u8 v (by omega)
        obtain ⟨p0', p1', p2', p3'⟩ := hq.out _ ((HZ4.out).trans' hwr)
        have p2a : ∀ o1 o2, ((wr.alloc o1).alloc o2).cell? ⟨B, 2, none⟩ = some (.int .i64 v) := fun o1 o2 => (show Ext wr ((wr.alloc o1).alloc o2) by (repeat (first | exact Ext.rfl' _ | assumption | refine Ext.drewN' ?_ _ | refine Ext.drew' ?_ | refine Ext.alloc' ?_ _ | refine Ext.trans' ?_ (by assumption)))).cellOf p2'
        have p2b : ∀ o1 o2 o3, (((wr.alloc o1).alloc o2).alloc o3).cell? ⟨B, 2, none⟩ = some (.int .i64 v) := fun o1 o2 o3 => (show Ext wr (((wr.alloc o1).alloc o2).alloc o3) by (repeat (first | exact Ext.rfl' _ | assumption | refine Ext.drewN' ?_ _ | refine Ext.drew' ?_ | refine Ext.alloc' ?_ _ | refine Ext.trans' ?_ (by assumption)))).cellOf p2'
        have E1 : Ext wr (wr.alloc (.cells #[.slice x.ka kn x.kc, .slice x.va vn x.vc] 60)) := (Ext.rfl' _).alloc' _
        generalize hu0 : wr.alloc (.cells #[.slice x.ka kn x.kc, .slice x.va vn x.vc] 60) = u0 at E1
        have s1 := ((xk.ext hwr).ext E1.drew').run_str (P := Try.prog) Try.underlying40 Try.underlying5 Try.underlying9
        have s2 := ((xk.ext hwr).ext (E1.alloc' (.cells #[.int .u8 j, .int .u8 0, .int .u8 0, .int .u8 0] 5)).drew').run_str (P := Try.prog) Try.underlying40 Try.underlying5 Try.underlying9
        have s3 := ((xv.ext hwr).ext (E1.alloc' (.cells #[.int .u8 j, .int .u8 0, .int .u8 0, .int .u8 0] 5)).drew').run_str (P := Try.prog) Try.underlying40 Try.underlying5 Try.underlying9
        have s4 := ((xv.ext hwr).ext ((E1.alloc' (.cells #[.int .u8 j, .int .u8 0, .int .u8 0, .int .u8 0] 5)).alloc' (.cells (madeCells #[.int .u8 0] v) 5)).drew').run_str (P := Try.prog) Try.underlying40 Try.underlying5 Try.underlying9
        rw [hxk] at s1 s2
        rw [hxv] at s3 s4
        have hsz1 : u0.heap.size = wr.heap.size + 1 := by rw [← hu0]; simp
        have hsz2 : (u0.alloc (.cells #[.int .u8 j, .int .u8 0, .int .u8 0, .int .u8 0] 5)).heap.size = wr.heap.size + 2 := by simp [hsz1]
        have hl1 : Rd (u0.alloc (.cells #[.int .u8 j, .int .u8 0, .int .u8 0, .int .u8 0] 5)).drew 1 (fun x => [Value.int .u8 x]) (.slice (some ⟨wr.heap.size + 1, 0, none⟩) 4 4) [(j : Int), 0, 0, 0] :=
          (((Own.lit (enc_int .u8) (base := 0) (w := u0) (e := 5) [(j : Int), 0, 0, 0] (b := wr.heap.size + 1) (n := 4) hsz1.symm rfl (Nat.zero_le _) (by simp [maxLen])).rd (enc_int _)).ext (Ext.rfl' _).drew')
        have l1 := hl1.run_str (P := Try.prog) Try.underlying40 Try.underlying5 Try.underlying9
        have l2 := (((sl_made (u0.alloc (.cells #[.int .u8 j, .int .u8 0, .int .u8 0, .int .u8 0] 5)) v (by omega)).ext (Ext.rfl' _).drew')).run_str (P := Try.prog) Try.underlying40 Try.underlying5 Try.underlying9
        rw [hsz2] at l2
        subst hu0
        have w8 : IntKind.u8.wrap (j : Int) = j := by rw [IntKind.wrap_u8]; omega
        have hjk : strOfNums [(j : Int), 0, 0, 0] = numKey (j : Int) := by rw [numKey, Int.emod_eq_of_lt (by omega) (by omega)]
        rw [hjk] at l1
        clear hxk hxv hkn hvn hjk xk xv E1 hsz1 hsz2 hl1
        go_upto_region 12 with fail
        go_cut [80] (fun v80 wx => v80 = .bool false ∧ Ext w4 wx)
        case first =>
          go_region
          all_goals
            go_wp2_with fail
            go_meet
            exact ⟨rfl, by (repeat (first | exact Ext.rfl' _ | assumption | refine Ext.drewN' ?_ _ | refine Ext.drew' ?_ | refine Ext.alloc' ?_ _ | refine Ext.trans' ?_ (by assumption)))⟩
        case rest =>
          obtain ⟨rfl, hx⟩ := hcut
          go_wp2_with fail
          go_roundw
          case rel => exact ⟨j + 1, by omega, by go_num, hx⟩
          case measure => simp [intOf]; omega
      · have HT5 := Lib.hid (HT4.out.go hwr)
        have HW5 := Lib.hid (HW4.out.trans' hwr)
        have hq5 : Hid (∀ w', Ext wr w' → w'.cell? ⟨B, 0, none⟩ = some (.bool false) ∧ w'.cell? ⟨B, 1, none⟩ = some (.int .i64 4) ∧ w'.cell? ⟨B, 2, none⟩ = some (.int .i64 v) ∧ w'.cell? ⟨B, 3, none⟩ = some (.int .i64 inn)) := Lib.hid fun w' k => hq.out w' ((HZ4.out.trans' hwr).trans' k)
        clear HI HR HMP HT4 HW4 HE4 q0 q1 q2 q3 p0 p1 p2 p3
        go_upto_region 15 with fail
        clear hwr hlt hj
        go_cut [16, 17] (fun v16 v17 wx => KvCut wr kk v v16 v17 wx)
        case first =>
          have hmk : ∀ u : World, (Instr.makeSlice 40 (.int .i64 v) (.int .i64 v)).run Try.prog u = .ok (.slice (some ⟨u.heap.size, 0, none⟩) v v) (u.alloc (.cells (madeCells #[.int .u8 0] v) 5)) := run_make_u8 v (by omega)
          obtain ⟨-, -, q2, -⟩ := hq5.out _ (Ext.rfl' _)
          have q2a : ∀ o, (wr.alloc o).cell? ⟨B, 2, none⟩ = some (.int .i64 v) := fun o => (show Ext wr (wr.alloc o) by (repeat (first | exact Ext.rfl' _ | assumption | refine Ext.drewN' ?_ _ | refine Ext.drew' ?_ | refine Ext.alloc' ?_ _ | refine Ext.trans' ?_ (by assumption)))).cellOf q2
          go_region
          all_goals
            go_wp2_with fail
            go_meet
            first | exact kv1 wr kk v (by omega) | exact kv2 wr kk v (by omega)
        case rest =>
          obtain ⟨bk, bv, rfl, rfl, hne, hbk0, hbv, hkey, hown, hx5⟩ := hcut
          have HKEY := Lib.hid hkey
          have HOWN := Lib.hid hown
          clear hkey hown
          generalize wr = w5 at *
          go_wp2_with fail
          go_loopw [89] (fun i wx => ∃ (j : Nat), j ≤ v ∧ i = .int .i64 j ∧ Hid (Sl wx .u8 (.slice (some ⟨bk, 0, none⟩) 4 4) [(kk : Int), 0, 0, 0]) ∧ Hid (Own wx w5.heap.size 5 1 (fun x => [Value.int .u8 x]) (.slice (some ⟨bv, 0, none⟩) v v) (List.replicate j a3 ++ List.replicate (v - j) 0)) ∧ Ext w5 wx) (fun i _ => v - (intOf i).toNat)
          case atStart => exact ⟨0, Nat.zero_le _, rfl, HKEY, HOWN, hx5⟩
          case round =>
            obtain ⟨j, hj, rfl, HK, HO, hwx⟩ := hrel
            by_cases hlt : (j : Int) < v
            · have hz : (List.replicate j a3 ++ List.replicate (v - j) 0)[j]? = some 0 := by
                rw [List.getElem?_append_right (by simp), List.length_replicate, Nat.sub_self, List.getElem?_replicate, if_pos (by omega)]
              obtain ⟨f1, f2, f3, f4, f5⟩ := HO.out.at hz
              have ia := fun W => (HO.out.rd (enc_int _)).run_at (P := Try.prog) el_u8.under el_u8.size .i64 (j : Int) (by omega) (by omega) W
              simp only [Nat.mul_one, Int.toNat_natCast] at ia
              have hkeep := fun u => (Keep.rfl' [bv] wr).setCell (a := elt (.slice (some ⟨bv, 0, none⟩) v v) j) (by rw [List.mem_singleton]; simp only [elt, Addr.add]; split <;> rfl) u
              have HK2 := Lib.hid (fun u => HK.out.keep (hkeep u) (fun a n c e => by injection e with e; injection e with e; subst e; rw [List.mem_singleton]; exact hne))
              have HF := Lib.hid (f5 a3)
              have hbk : (elt (.slice (some ⟨bv, 0, none⟩) v v) j).block = bv := by simp only [elt, Addr.add]; split <;> rfl
              have HW := Lib.hid (hwx.setCell (p := elt (.slice (some ⟨bv, 0, none⟩) v v) j) (by rw [hbk]; exact hbv) (.int .u8 a3))
              have hst : (List.replicate j a3 ++ List.replicate (v - j) 0).set j a3 = List.replicate (j + 1) a3 ++ List.replicate (v - (j + 1)) 0 := by
                apply List.ext_getElem?
                intro q
                rw [List.getElem?_set]
                by_cases e : j = q
                · subst e; rw [if_pos rfl, if_pos (by simp; omega), List.getElem?_append_left (by simp), List.getElem?_replicate, if_pos (by omega)]
                · rw [if_neg e]
                  by_cases e2 : q < j
                  · rw [List.getElem?_append_left (by simp; omega), List.getElem?_append_left (by simp; omega), List.getElem?_replicate, List.getElem?_replicate, if_pos e2, if_pos (by omega)]
                  · rw [List.getElem?_append_right (by simp; omega), List.getElem?_append_right (by simp; omega), List.getElem?_replicate, List.getElem?_replicate]
                    simp only [List.length_replicate]
                    by_cases e3 : q < v
                    · rw [if_pos (by omega), if_pos (by omega)]
                    · rw [if_neg (by omega), if_neg (by omega)]
              have HST := Lib.hid hst
              clear f3 f5 hst hkeep hz hbk
              go_wp2_with fail
              go_roundw
              case rel => exact ⟨j + 1, by omega, by go_num, Lib.hid (HK2.out _), Lib.hid (by rw [← HST.out]; exact HF.out.1), HW.out⟩
              case measure => simp [intOf]; omega
            · obtain rfl : v = j := by omega
              have hO : Hid (Sl wr .u8 (.slice (some ⟨bv, 0, none⟩) v v) (List.replicate v a3)) := Lib.hid (by have := HO.out.rd (enc_int _); rw [Nat.sub_self, List.replicate_zero, List.append_nil] at this; exact this)
              have h5 := HT5.out.add hwx [bk, bv] (fun g hg => by simp only [List.mem_cons, List.not_mem_nil, or_false] at hg; rcases hg with rfl | rfl <;> right <;> assumption)
              have hG : ∀ g ∈ [bk, bv], g < wr.heap.size := fun g hg => by
                simp only [List.mem_cons, List.not_mem_nil, or_false] at hg
                rcases hg with rfl | rfl
                · exact rd_lt HK.out rfl
                · exact rd_lt' hO.out (by have := hVm.out.1; omega)
              have H5 := Lib.hid h5
              have HG := Lib.hid hG
              obtain ⟨-, -, -, q3⟩ := hq5.out _ hwx
              have HX := Lib.hid (HW5.out.trans' hwx)
              have hkk := h2.2
              clear h5 hG
              have hvs : (List.replicate v a3).length = v := by simp
              have HFI : Hid (∀ u, Ext wr u → Firm W1 [bk, bv] u (fun w' => Sl w' .u8 (.slice (some ⟨bk, 0, none⟩) 4 4) [(kk : Int), 0, 0, 0]) ∧ Firm W1 [bk, bv] u (fun w' => Sl w' .u8 (.slice (some ⟨bv, 0, none⟩) v v) (List.replicate v a3))) := Lib.hid fun u hu =>
                ⟨Firm.of_in (HK.out.ext hu) (by simp), Firm.of_in (hO.out.ext hu) (by simp)⟩
              by_cases hkm : kk < inn
              · have hlk := num_look v inn kk hm16 (by omega)
                have hpt := num_put M v inn kk (List.replicate v a3) hvs hm16 (by omega)
                rw [if_pos hkm] at hlk hpt
                have HLK := Lib.hid hlk
                have HPT := Lib.hid hpt
                clear hlk hpt hvs
                go_wp2_with fail
                refine (int_look H5.out 0 _ [(kk : Int), 0, 0, 0] HK.out).mono ?_
                rintro e w6 ⟨rfl, h6, he6⟩
                rw [HLK.out]
                have H6 := Lib.hid h6
                have HE6 := Lib.hid he6
                clear h6 he6
                go_wp2_with fail
                refine (int_put H6.out (fun g hg => Nat.lt_of_lt_of_le (HG.out g hg) HE6.out.size) 0 _ _ [(kk : Int), 0, 0, 0] (List.replicate v a3) 0 (HK.out.ext HE6.out) (rep_u8' a3 h3.1 h3.2 v) (by decide) (Lib.hid (by decide)) (Lib.hid (HFI.out _ HE6.out).2)).mono ?_
                rintro e w7 ⟨rfl, h7, m7⟩
                rw [HPT.out] at h7 ⊢
                have H7 := Lib.hid h7
                have HK7 := Lib.hid ((HFI.out _ HE6.out).1.use m7)
                have HV7 := Lib.hid ((HFI.out _ HE6.out).2.use m7)
                clear h7 m7
                go_wp2_with fail
                refine (int_drop H7.out 0 _ [(kk : Int), 0, 0, 0] HK7.out).mono ?_
                rintro e w8 ⟨rfl, h8, m8⟩
                rw [num_drop] at h8 ⊢
                have H8 := Lib.hid h8
                have HV8 := Lib.hid ((Firm.of_in (W := W1) (G := [bk, bv]) HV7.out (by simp)).use m8)
                obtain ⟨-, -, -, q8⟩ := hq.out _ (HW1.out.trans' h8.ext)
                have hs := over_spec HWF.out (i := 0) (t := fullT (numD v inn)) rfl (k := numKey (kk : Int)) (s := kk) (vs := List.replicate v a3) (numT_look v inn kk hm16 hkm) (by simp [fullT, TDef.tm]) (rep_u8' a3 h3.1 h3.2 v)
                have hov := over_val HWF.out (i := 0) (t := fullT (numD v inn)) rfl (k := numKey (kk : Int)) (s := kk) (vs := List.replicate v a3) (numT_look v inn kk hm16 hkm) (by simp [fullT, TDef.tm]) (rep_u8' a3 h3.1 h3.2 v) (numKey (kk : Int))
                rw [if_pos rfl] at hov
                have HS := Lib.hid hs.1
                have HOV := Lib.hid hov
                clear h8 m8 hs hov
                go_wp2_with fail
                refine (int_items H8.out 0 (Lib.hid HS.out.small)).mono ?_
                rintro e w9 ⟨iv, rfl, hit, he9⟩
                rw [num_items (v := v) (m := inn) rfl hm16] at hit
                obtain ⟨I9, hI9, hrows9, hmap9⟩ := hit
                have hIl9 : I9.length = inn := by have := congrArg List.length hmap9; simpa using this
                obtain ⟨ja, jn, jc, rfl, hjn, hJN⟩ := hI9.val
                have hjnm : jn = inn := by have := hJN.out; omega
                subst hjnm
                obtain ⟨x, hx⟩ := at_of_lt (xs := I9) (k := kk) (by omega)
                have ix := fun W => hI9.run_at (P := Try.prog) el_item.under el_item.size .u8 (kk : Int) (by omega) (by omega) W
                obtain ⟨c0, c1⟩ := item_cells hI9 hx
                simp only [Int.toNat_natCast] at ix
                obtain ⟨-, xv⟩ := hrows9 x (List.mem_of_getElem? hx)
                have hxv : x.val = List.replicate v a3 := by
                  have h1 := congrArg (fun l => l[kk]?) hmap9
                  simp only [List.getElem?_map, hx, List.getElem?_range (show kk < jn by omega), Option.map_some, Option.some.injEq] at h1
                  have h2 := congrArg Prod.snd h1
                  simp only at h2
                  exact h2.trans (congrArg (fun o => o.getD []) HOV.out)
                rw [IT.vv] at c1 xv
                obtain ⟨vn, hvn⟩ : ∃ vn, x.val.length = vn := ⟨_, rfl⟩
                rw [hvn] at c1 xv
                have s1 := fun n => ((xv.ext ((Ext.rfl' _).drewN' n)).run_str (P := Try.prog) Try.underlying40 Try.underlying5 Try.underlying9)
                have s2 := fun n => ((HV8.out.ext (he9.drewN' n)).run_str (P := Try.prog) Try.underlying40 Try.underlying5 Try.underlying9)
                rw [hxv] at s1
                obtain ⟨-, -, -, q9⟩ := hq.out _ ((HW1.out.trans' H8.out.ext).trans' he9)
                have HAR := Lib.hid (fun W => tab_area 0 kk W (by omega) (by omega) (by omega) (by omega))
                have w64 : IntKind.i64.wrap (kk : Int) = kk := IntWalk.i64_in _ (by omega)
                have HE9 := Lib.hid he9
                clear hI9 hrows9 hmap9 hIl9 hx xv hxv hvn c0 he9 q8
                go_wp2_with fail
                go_quiet ((first | (go_at_call 20; exact Calls.quiet_of_same (HAR.out _)) | (go_at_call 26; exact Calls.quiet_of_same (mem_at _ _ _))))
                go_wp2_with fail
                go_returns
                exact ⟨rfl, ((HWZ.out.trans' HW1.out).trans' (H8.out.ext.trans' HE9.out)).drewN' _⟩
              · have hlk := num_look v inn kk hm16 (by omega)
                have hpt := num_put M v inn kk (List.replicate v a3) hvs hm16 (by omega)
                rw [if_neg hkm] at hlk hpt
                have HLK := Lib.hid hlk
                have HPT := Lib.hid hpt
                clear hlk hpt hvs
                go_wp2_with fail
                refine (int_look H5.out 0 _ [(kk : Int), 0, 0, 0] HK.out).mono ?_
                rintro e w6 ⟨rfl, h6, he6⟩
                rw [HLK.out]
                have H6 := Lib.hid h6
                have HE6 := Lib.hid he6
                clear h6 he6
                go_wp2_with fail
                refine (int_put H6.out (fun g hg => Nat.lt_of_lt_of_le (HG.out g hg) HE6.out.size) 0 _ _ [(kk : Int), 0, 0, 0] (List.replicate v a3) 0 (HK.out.ext HE6.out) (rep_u8' a3 h3.1 h3.2 v) (by decide) (Lib.hid (by decide)) (Lib.hid (HFI.out _ HE6.out).2)).mono ?_
                rintro e w7 ⟨rfl, h7, m7⟩
                rw [HPT.out] at h7 ⊢
                have H7 := Lib.hid h7
                have HK7 := Lib.hid ((HFI.out _ HE6.out).1.use m7)
                clear h7 m7
                go_wp2_with fail
                refine (int_drop H7.out 0 _ [(kk : Int), 0, 0, 0] HK7.out).mono ?_
                rintro e w8 ⟨rfl, h8, m8⟩
                rw [num_drop] at h8 ⊢
                have H8 := Lib.hid h8
                obtain ⟨-, -, -, q8⟩ := hq.out _ (HW1.out.trans' h8.ext)
                clear h8 m8
                go_wp2_with fail
                go_returns
                exact ⟨rfl, (HWZ.out.trans' HW1.out).trans' H8.out.ext⟩
end Go.Proofs.Ytjimmbcihcmfoaa
