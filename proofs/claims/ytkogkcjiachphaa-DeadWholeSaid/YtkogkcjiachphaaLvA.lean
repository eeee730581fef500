/- live: of, reads, writes: sets of registers as numbers. -/
import Derived.Test.YtkogkcjiachphaaHelpG
import Derived.Test.YtkogkcjiachphaaR7G
namespace Go.Proofs.Ytkogkcjiachphaa
open Go.RowKit
set_option linter.unusedVariables false
set_option linter.unusedSimpArgs false

/-- A register's bit. -/
def bitS (i : Int) : Nat := 2 ^ i.toNat
theorem bitS_lt {i : Int} (h0 : 0 ≤ i) (h1 : i ≤ 10) : bitS i < 65536 := by
  unfold bitS
  have : i = 0 ∨ i = 1 ∨ i = 2 ∨ i = 3 ∨ i = 4 ∨ i = 5 ∨ i = 6 ∨ i = 7 ∨ i = 8 ∨ i = 9 ∨ i = 10 := by omega
  rcases this with rfl | rfl | rfl | rfl | rfl | rfl | rfl | rfl | rfl | rfl | rfl <;> decide
set_option maxHeartbeats 1000000 in
theorem l_of (v : Value) (i : Int) (w : World) (h : Rd w 1 encU v [i]) (h0 : 0 ≤ i) (h1 : i ≤ 10) : Calls Try.prog 89 #[v] w fun e w' => e = .returned (.int .u16 ((bitS i : Nat) : Int)) ∧ w' = w := by
  obtain ⟨a, n, c, rfl, hn, hN⟩ := h.val
  obtain rfl : n = 1 := by simpa using hN.out
  have ix := fun W => h.run_at (P := Try.prog) el_u8.under el_u8.size .i64 0 (by omega) (by omega) W
  have cx := h.cell (i := 0) (x := i) rfl (j := 0) rfl
  simp only [Nat.mul_one, Nat.add_zero, Int.toNat_zero] at ix cx
  clear h hN
  have hi : i = 0 ∨ i = 1 ∨ i = 2 ∨ i = 3 ∨ i = 4 ∨ i = 5 ∨ i = 6 ∨ i = 7 ∨ i = 8 ∨ i = 9 ∨ i = 10 := by omega
  clear h0 h1
  rcases hi with rfl | rfl | rfl | rfl | rfl | rfl | rfl | rfl | rfl | rfl | rfl
  all_goals
    go_enter Try.func89, Try.ntmps89
    go_wp2
    refine wp_loop_rounds 2 ?_
    rw [rounds_succ]
    go_wp2
    rw [rounds_succ]
    go_wp2
    go_returns
    exact ⟨rfl, rfl⟩
theorem what_regs {x : Ins} {y : Wh} (e : whatS x = some y) : x.dst ≤ 10 ∧ x.src ≤ 10 := by
  unfold whatS at e
  split at e
  · cases e
  · rename_i h
    omega
theorem kind_some {x : Ins} {y : Wh} (e : whatS x = some y) : 1 ≤ y.kind ∧ y.kind ≤ 12 := by
  unfold whatS at e
  repeat' split at e
  all_goals first | (cases e; done) | (have := kind_wide e; omega) | (have := kind_swaps e; omega) | (have := kind_arith e; omega) | (have := kind_jumps e; omega) | (have := kind_moves e; omega)
theorem kind_all {x : Ins} {y : Wh} (e : (whatS x).getD Wh.zero = y) : (y.kind = 0 ∧ y.reg = false) ∨ (1 ≤ y.kind ∧ y.kind ≤ 12 ∧ x.dst ≤ 10 ∧ x.src ≤ 10) := by
  cases hw : whatS x with
  | none => rw [hw] at e; subst e; exact .inl ⟨rfl, rfl⟩
  | some z =>
    rw [hw] at e
    have : z = y := e
    subst this
    exact .inr ⟨(kind_some hw).1, (kind_some hw).2, what_regs hw⟩
def regS (rg : Bool) (x : Ins) : Nat := if rg then bitS x.src else 0
def readsK (kd op : Int) (rg : Bool) (x : Ins) : Nat :=
  if kd = 1 then (if op = 176 then regS rg x else regS rg x ||| bitS x.dst)
  else if kd = 2 ∨ kd = 6 ∨ kd = 7 ∨ kd = 8 ∨ kd = 10 then regS rg x ||| bitS x.dst
  else if kd = 5 then bitS x.src
  else if kd = 12 then 1
  else if kd = 11 then 2 ^ (1 + (tolds x.imm).length) - 2
  else regS rg x
/-- The registers that an instruction reads. -/
def readsS (x : Ins) : Nat := readsK (whatZ x).kind (whatZ x).op (whatZ x).reg x
/-- Those that are others behind it. -/
def writesS (x : Ins) : Nat := if (whatZ x).kind = 1 ∨ (whatZ x).kind = 2 ∨ (whatZ x).kind = 3 ∨ (whatZ x).kind = 4 ∨ (whatZ x).kind = 5 then bitS x.dst else if (whatZ x).kind = 11 then 63 else 0
theorem regS_lt {rg : Bool} {x : Ins} (h0 : 0 ≤ x.src) (h : rg = true → x.src ≤ 10) : regS rg x < 65536 := by
  unfold regS
  split
  · rename_i h1; exact bitS_lt h0 (h h1)
  · omega
theorem or_u16 {a b : Nat} (ha : a < 65536) (hb : b < 65536) : bits .or .u16 (a : Int) (b : Int) = ((a ||| b : Nat) : Int) := by
  have := u16_or (a : Int) (b : Int) (by omega) (by omega) (by omega) (by omega)
  simpa using this
set_option maxRecDepth 20000 in
set_option maxHeartbeats 4000000 in
theorem l_reads (x : Ins) (w : World) (hx : x.Ok) : Calls Try.prog 72 #[x.agg] w fun e w' => e = .returned (.int .u16 ((readsS x : Nat) : Int)) ∧ Ext w w' := by
  have HOK := Lib.hid hx
  obtain ⟨y, hy⟩ : ∃ y, (whatS x).getD Wh.zero = y := ⟨_, rfl⟩
  have hka := kind_all hy
  have hrs : readsS x = readsK y.kind y.op y.reg x := by unfold readsS whatZ; rw [hy]
  obtain ⟨R, hR⟩ : ∃ R, readsS x = R := ⟨_, rfl⟩
  rw [hR]
  rw [hR] at hrs
  have HY := Lib.hid hy
  obtain ⟨kd, op, wd, rg, sg, sz⟩ := y
  simp only [] at hrs hka
  have HRS := Lib.hid hrs
  have HKA := Lib.hid hka
  have hs0 := hx.src.1
  have hd0 := hx.dst.1
  clear hx hy hR hrs hka
  go_enter Try.func72, Try.ntmps72
  go_upto_region 1 with fail
  go_cut [3, 4] (fun v3 v4 wx => ∃ q bb, v3 = .pointer (some ⟨q, 0, none⟩) ∧ v4 = .bool bb ∧ Hid (Ext w wx ∧ wx.heap[w.heap.size]? = some (insObj x) ∧ wx.heap[q]? = some (whObj ⟨kd, op, wd, rg, sg, sz⟩)))
  case first =>
    go_wp2_with fail
    refine (p_What x _ HOK.out).mono ?_
    unfold WhatA
    rw [HY.out]
    rintro e w7 ⟨rfl, hE7⟩
    have HE7 := Lib.hid hE7
    have HO7 := Lib.hid (hE7.obj (obj_top w (insObj x) rfl))
    clear hE7
    go_wp2_with fail
    go_meet
    refine ⟨_, _, rfl, rfl, Lib.hid ⟨Ext.alloc' (Ext.trans' (Ext.alloc' (Ext.rfl' _) _) HE7.out) _, obj_old _ HO7.out, ?_⟩⟩
    (repeat (first | (refine obj_top _ _ ?_; simp; done) | refine obj_old _ ?_))
  case rest =>
    obtain ⟨q, bb, rfl, rfl, HW⟩ := hcut
    have HO1 := Lib.hid HW.out.2.1
    have HQ := Lib.hid HW.out.2.2
    have HE := Lib.hid HW.out.1
    clear HW
    (have o1 := HO1.out; have a0 := cell_obj (i := 0) o1; have a1 := cell_obj (i := 1) o1; have a2 := cell_obj (i := 2) o1; have a3 := cell_obj (i := 3) o1; have a4 := cell_obj (i := 4) o1; simp only [List.getElem?_toArray, List.getElem?_cons_zero, List.getElem?_cons_succ] at a0 a1 a2 a3 a4; clear o1)
    have q0 := cell_obj (i := 0) HQ.out
    have q1 := cell_obj (i := 1) HQ.out
    have q3 := cell_obj (i := 3) HQ.out
    simp only [List.getElem?_toArray, List.getElem?_cons_zero, List.getElem?_cons_succ] at q0 q1 q3
    have hl1 := heap_lt HO1.out
    have hl2 := heap_lt HQ.out
    have hrg : rg = true → x.src ≤ 10 := fun h => by
      rcases HKA.out with h2 | h2
      · rw [h2.2] at h; cases h
      · exact h2.2.2.2
    have HSL := Lib.hid (regS_lt hs0 hrg)
    have HRG := Lib.hid hrg
    clear hrg
    go_upto_if 14 with fail
    go_cut [5] (fun v5 wx => v5 = .int .u16 ((regS rg x : Nat) : Int) ∧ Hid (Ext wc wx))
    case first =>
      cases rg
      · go_wp2_with fail
        go_meet
        exact ⟨rfl, Lib.hid (Ext.rfl' _)⟩
      · have HLIT : Hid (Rd (wc.alloc (.cells #[.int .u8 x.src] 5)) 1 encU (.slice (some ⟨wc.heap.size, 0, none⟩) 1 1) [x.src]) := Lib.hid (rd_u8s wc [x.src] _ _ rfl rfl (by simp))
        go_wp2_with fail
        refine (l_of _ x.src _ HLIT.out hs0 (by simpa using HRG.out)).mono ?_
        rintro e w5 ⟨rfl, rfl⟩
        go_wp2_with fail
        go_meet
        exact ⟨rfl, Lib.hid (by (repeat (first | exact Ext.rfl' _ | assumption | refine Ext.drewN' ?_ _ | refine Ext.drew' ?_ | refine Ext.alloc' ?_ _ | refine Ext.trans' ?_ (by assumption))))⟩
    case rest =>
      obtain ⟨rfl, HX⟩ := hcut
      replace HO1 := Lib.hid (HX.out.obj HO1.out)
      replace HQ := Lib.hid (HX.out.obj HQ.out)
      replace HE := Lib.hid (HE.out.trans' HX.out)
      clear q0 q1 q3 a0 a1 a2 a3 a4 hl1 hl2 HX
      (have o1 := HO1.out; have a0 := cell_obj (i := 0) o1; have a1 := cell_obj (i := 1) o1; have a2 := cell_obj (i := 2) o1; have a3 := cell_obj (i := 3) o1; have a4 := cell_obj (i := 4) o1; simp only [List.getElem?_toArray, List.getElem?_cons_zero, List.getElem?_cons_succ] at a0 a1 a2 a3 a4; clear o1)
      have q0 := cell_obj (i := 0) HQ.out
      have q1 := cell_obj (i := 1) HQ.out
      simp only [List.getElem?_toArray, List.getElem?_cons_zero, List.getElem?_cons_succ] at q0 q1
      have hl1 := heap_lt HO1.out
      have hl2 := heap_lt HQ.out
      go_upto_block 0 with fail
      go_cut [5] (fun v5 wx => v5 = .int .u16 ((R : Nat) : Int) ∧ Hid (Ext w wx))
      case first =>
        have hk13 : kd = 0 ∨ kd = 3 ∨ kd = 4 ∨ kd = 9 ∨ kd = 1 ∨ kd = 2 ∨ kd = 6 ∨ kd = 7 ∨ kd = 8 ∨ kd = 10 ∨ kd = 5 ∨ kd = 12 ∨ kd = 11 := by rcases HKA.out with h | h <;> omega
        have hreg : kd = 0 ∨ (x.dst ≤ 10 ∧ x.src ≤ 10) := by
          rcases HKA.out with h | h
          · exact .inl h.1
          · exact .inr h.2.2
        have HREG := Lib.hid hreg
        clear hreg
        have e_or := fun h => or_u16 HSL.out (bitS_lt hd0 h)
        have HOR := Lib.hid e_or
        clear e_or
        have HL1 : Hid (∀ z, Rd (wc.alloc (.cells #[.int .u8 z] 5)) 1 encU (.slice (some ⟨wc.heap.size, 0, none⟩) 1 1) [z]) := Lib.hid (fun z => rd_u8s wc [z] _ _ rfl rfl (by simp))
        rcases hk13 with rfl | rfl | rfl | rfl | rfl | rfl | rfl | rfl | rfl | rfl | rfl | rfl | rfl
        · go_wp2_with fail
          go_meet
          exact ⟨by rw [HRS.out]; rfl, Lib.hid HE.out⟩
        · go_wp2_with fail
          go_meet
          exact ⟨by rw [HRS.out]; rfl, Lib.hid HE.out⟩
        · go_wp2_with fail
          go_meet
          exact ⟨by rw [HRS.out]; rfl, Lib.hid HE.out⟩
        · go_wp2_with fail
          go_meet
          exact ⟨by rw [HRS.out]; rfl, Lib.hid HE.out⟩
        · obtain ⟨z, hz⟩ : ∃ z, (op != 176) = z := ⟨_, rfl⟩
          cases z
          · go_wp2_with fail
            go_meet
            exact ⟨by (rw [HRS.out]; have h176 : op = 176 := (by simpa using hz); subst h176; rfl), Lib.hid HE.out⟩
          · have hd10 : x.dst ≤ 10 := by rcases HREG.out with h | h; (cases h); exact h.1
            have e_or := HOR.out hd10
            go_wp2_with fail
            refine (l_of _ x.dst _ (HL1.out _) hd0 hd10).mono ?_
            rintro e w5 ⟨rfl, rfl⟩
            go_wp2_with fail
            go_meet
            exact ⟨by (rw [HRS.out]; have h176 : ¬ op = 176 := (by simpa using hz); simp [readsK, h176]), Lib.hid (by have := HE.out; (repeat (first | exact Ext.rfl' _ | assumption | refine Ext.drewN' ?_ _ | refine Ext.drew' ?_ | refine Ext.alloc' ?_ _ | refine Ext.trans' ?_ (by assumption))))⟩
        · have hd10 : x.dst ≤ 10 := by rcases HREG.out with h | h; (cases h); exact h.1
          have e_or := HOR.out hd10
          go_wp2_with fail
          refine (l_of _ x.dst _ (HL1.out _) hd0 hd10).mono ?_
          rintro e w5 ⟨rfl, rfl⟩
          go_wp2_with fail
          go_meet
          exact ⟨by rw [HRS.out]; rfl, Lib.hid (by have := HE.out; (repeat (first | exact Ext.rfl' _ | assumption | refine Ext.drewN' ?_ _ | refine Ext.drew' ?_ | refine Ext.alloc' ?_ _ | refine Ext.trans' ?_ (by assumption))))⟩
        · have hd10 : x.dst ≤ 10 := by rcases HREG.out with h | h; (cases h); exact h.1
          have e_or := HOR.out hd10
          go_wp2_with fail
          refine (l_of _ x.dst _ (HL1.out _) hd0 hd10).mono ?_
          rintro e w5 ⟨rfl, rfl⟩
          go_wp2_with fail
          go_meet
          exact ⟨by rw [HRS.out]; rfl, Lib.hid (by have := HE.out; (repeat (first | exact Ext.rfl' _ | assumption | refine Ext.drewN' ?_ _ | refine Ext.drew' ?_ | refine Ext.alloc' ?_ _ | refine Ext.trans' ?_ (by assumption))))⟩
        · have hd10 : x.dst ≤ 10 := by rcases HREG.out with h | h; (cases h); exact h.1
          have e_or := HOR.out hd10
          go_wp2_with fail
          refine (l_of _ x.dst _ (HL1.out _) hd0 hd10).mono ?_
          rintro e w5 ⟨rfl, rfl⟩
          go_wp2_with fail
          go_meet
          exact ⟨by rw [HRS.out]; rfl, Lib.hid (by have := HE.out; (repeat (first | exact Ext.rfl' _ | assumption | refine Ext.drewN' ?_ _ | refine Ext.drew' ?_ | refine Ext.alloc' ?_ _ | refine Ext.trans' ?_ (by assumption))))⟩
        · have hd10 : x.dst ≤ 10 := by rcases HREG.out with h | h; (cases h); exact h.1
          have e_or := HOR.out hd10
          go_wp2_with fail
          refine (l_of _ x.dst _ (HL1.out _) hd0 hd10).mono ?_
          rintro e w5 ⟨rfl, rfl⟩
          go_wp2_with fail
          go_meet
          exact ⟨by rw [HRS.out]; rfl, Lib.hid (by have := HE.out; (repeat (first | exact Ext.rfl' _ | assumption | refine Ext.drewN' ?_ _ | refine Ext.drew' ?_ | refine Ext.alloc' ?_ _ | refine Ext.trans' ?_ (by assumption))))⟩
        · have hd10 : x.dst ≤ 10 := by rcases HREG.out with h | h; (cases h); exact h.1
          have e_or := HOR.out hd10
          go_wp2_with fail
          refine (l_of _ x.dst _ (HL1.out _) hd0 hd10).mono ?_
          rintro e w5 ⟨rfl, rfl⟩
          go_wp2_with fail
          go_meet
          exact ⟨by rw [HRS.out]; rfl, Lib.hid (by have := HE.out; (repeat (first | exact Ext.rfl' _ | assumption | refine Ext.drewN' ?_ _ | refine Ext.drew' ?_ | refine Ext.alloc' ?_ _ | refine Ext.trans' ?_ (by assumption))))⟩
        · have hs10 : x.src ≤ 10 := by rcases HREG.out with h | h; (cases h); exact h.2
          go_wp2_with fail
          refine (l_of _ x.src _ (HL1.out _) hs0 hs10).mono ?_
          rintro e w5 ⟨rfl, rfl⟩
          go_wp2_with fail
          go_meet
          exact ⟨by rw [HRS.out]; rfl, Lib.hid (by have := HE.out; (repeat (first | exact Ext.rfl' _ | assumption | refine Ext.drewN' ?_ _ | refine Ext.drew' ?_ | refine Ext.alloc' ?_ _ | refine Ext.trans' ?_ (by assumption))))⟩
        · go_wp2_with fail
          refine (l_of _ 0 _ (HL1.out _) (by omega) (by omega)).mono ?_
          rintro e w5 ⟨rfl, rfl⟩
          go_wp2_with fail
          go_meet
          exact ⟨by rw [HRS.out]; rfl, Lib.hid (by have := HE.out; (repeat (first | exact Ext.rfl' _ | assumption | refine Ext.drewN' ?_ _ | refine Ext.drew' ?_ | refine Ext.alloc' ?_ _ | refine Ext.trans' ?_ (by assumption))))⟩
        · have w4 : wrap64 x.imm = x.imm := by have := HOK.out.imm; unfold wrap64; omega
          go_wp2_with fail
          refine (psig x.imm _).mono ?_
          rintro e w5 ⟨sv, rfl, hsv, hE5⟩
          obtain ⟨ta, tn, tc, hsvv, htn, hTN⟩ := hsv.val
          subst hsvv
          have htl : (tolds x.imm).length = 0 ∨ (tolds x.imm).length = 2 ∨ (tolds x.imm).length = 4 := by
            unfold tolds
            split
            · exact .inr (.inl rfl)
            · split
              · exact .inr (.inr rfl)
              · split
                · exact .inr (.inl rfl)
                · exact .inl rfl
          have HE5 := Lib.hid hE5
          have HT := Lib.hid hTN.out
          clear hsv hE5 hTN w4
          rw [← HT.out] at htl
          rcases htl with rfl | rfl | rfl
          all_goals
            go_wp2_with fail
            go_meet
            exact ⟨by (rw [HRS.out]; unfold readsK; simp only [← HT.out]; rfl), Lib.hid (by have := HE.out.trans' HE5.out; (repeat (first | exact Ext.rfl' _ | assumption | refine Ext.drewN' ?_ _ | refine Ext.drew' ?_ | refine Ext.alloc' ?_ _ | refine Ext.trans' ?_ (by assumption))))⟩
      case rest =>
        obtain ⟨rfl, HX⟩ := hcut
        go_wp2_with fail
        go_returns
        exact ⟨rfl, HX.out⟩
set_option maxRecDepth 20000 in
set_option maxHeartbeats 4000000 in
theorem l_writes (x : Ins) (w : World) (hx : x.Ok) : Calls Try.prog 76 #[x.agg] w fun e w' => e = .returned (.int .u16 ((writesS x : Nat) : Int)) ∧ Ext w w' := by
  have HOK := Lib.hid hx
  obtain ⟨y, hy⟩ : ∃ y, (whatS x).getD Wh.zero = y := ⟨_, rfl⟩
  have hka := kind_all hy
  have hrs : writesS x = if y.kind = 1 ∨ y.kind = 2 ∨ y.kind = 3 ∨ y.kind = 4 ∨ y.kind = 5 then bitS x.dst else if y.kind = 11 then 63 else 0 := by unfold writesS whatZ; rw [hy]
  obtain ⟨R, hR⟩ : ∃ R, writesS x = R := ⟨_, rfl⟩
  rw [hR]
  rw [hR] at hrs
  have HY := Lib.hid hy
  obtain ⟨kd, op, wd, rg, sg, sz⟩ := y
  simp only [] at hrs hka
  have HRS := Lib.hid hrs
  have HKA := Lib.hid hka
  have hd0 := hx.dst.1
  clear hx hy hR hrs hka
  go_enter Try.func76, Try.ntmps76
  go_upto_region 1 with fail
  go_cut [3, 4] (fun v3 v4 wx => ∃ q bb, v3 = .pointer (some ⟨q, 0, none⟩) ∧ v4 = .bool bb ∧ Hid (Ext w wx ∧ wx.heap[w.heap.size]? = some (insObj x) ∧ wx.heap[q]? = some (whObj ⟨kd, op, wd, rg, sg, sz⟩)))
  case first =>
    go_wp2_with fail
    refine (p_What x _ HOK.out).mono ?_
    unfold WhatA
    rw [HY.out]
    rintro e w7 ⟨rfl, hE7⟩
    have HE7 := Lib.hid hE7
    have HO7 := Lib.hid (hE7.obj (obj_top w (insObj x) rfl))
    clear hE7
    go_wp2_with fail
    go_meet
    refine ⟨_, _, rfl, rfl, Lib.hid ⟨Ext.alloc' (Ext.trans' (Ext.alloc' (Ext.rfl' _) _) HE7.out) _, obj_old _ HO7.out, ?_⟩⟩
    (repeat (first | (refine obj_top _ _ ?_; simp; done) | refine obj_old _ ?_))
  case rest =>
    obtain ⟨q, bb, rfl, rfl, HW⟩ := hcut
    have HO1 := Lib.hid HW.out.2.1
    have HQ := Lib.hid HW.out.2.2
    have HE := Lib.hid HW.out.1
    clear HW
    (have o1 := HO1.out; have a0 := cell_obj (i := 0) o1; have a1 := cell_obj (i := 1) o1; have a2 := cell_obj (i := 2) o1; have a3 := cell_obj (i := 3) o1; have a4 := cell_obj (i := 4) o1; simp only [List.getElem?_toArray, List.getElem?_cons_zero, List.getElem?_cons_succ] at a0 a1 a2 a3 a4; clear o1)
    have q0 := cell_obj (i := 0) HQ.out
    simp only [List.getElem?_toArray, List.getElem?_cons_zero, List.getElem?_cons_succ] at q0
    have hl1 := heap_lt HO1.out
    have hl2 := heap_lt HQ.out
    have hk13 : kd = 1 ∨ kd = 2 ∨ kd = 3 ∨ kd = 4 ∨ kd = 5 ∨ kd = 0 ∨ kd = 6 ∨ kd = 7 ∨ kd = 8 ∨ kd = 9 ∨ kd = 10 ∨ kd = 12 ∨ kd = 11 := by rcases HKA.out with h | h <;> omega
    have hreg : kd = 0 ∨ (x.dst ≤ 10 ∧ x.src ≤ 10) := by
      rcases HKA.out with h | h
      · exact .inl h.1
      · exact .inr h.2.2
    have HREG := Lib.hid hreg
    clear hreg
    have HL1 : Hid (∀ z, Rd (wc.alloc (.cells #[.int .u8 z] 5)) 1 encU (.slice (some ⟨wc.heap.size, 0, none⟩) 1 1) [z]) := Lib.hid (fun z => rd_u8s wc [z] _ _ rfl rfl (by simp))
    rcases hk13 with rfl | rfl | rfl | rfl | rfl | rfl | rfl | rfl | rfl | rfl | rfl | rfl | rfl
    iterate 5
      have hd10 : x.dst ≤ 10 := by rcases HREG.out with h | h; (cases h); exact h.1
      go_wp2_with fail
      refine (l_of _ x.dst _ (HL1.out _) hd0 hd10).mono ?_
      rintro e w5 ⟨rfl, rfl⟩
      go_wp2_with fail
      go_returns
      exact ⟨by rw [HRS.out]; rfl, by have := HE.out; (repeat (first | exact Ext.rfl' _ | assumption | refine Ext.drewN' ?_ _ | refine Ext.drew' ?_ | refine Ext.alloc' ?_ _ | refine Ext.trans' ?_ (by assumption)))⟩
    all_goals
      go_wp2_with fail
      go_returns
      exact ⟨by rw [HRS.out]; rfl, by have := HE.out; (repeat (first | exact Ext.rfl' _ | assumption | refine Ext.drewN' ?_ _ | refine Ext.drew' ?_ | refine Ext.alloc' ?_ _ | refine Ext.trans' ?_ (by assumption)))⟩
end Go.Proofs.Ytkogkcjiachphaa
