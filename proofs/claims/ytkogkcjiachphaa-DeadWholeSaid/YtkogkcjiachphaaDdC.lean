/- hacklelaw20: few, shown. -/
import Derived.Test.YtkogkcjiachphaaDdB
namespace Go.Proofs.Ytkogkcjiachphaa
open Go.RowKit
set_option linter.unusedVariables false
set_option linter.unusedSimpArgs false

theorem take_cut100 {w : World} {a : Option Addr} {n c : Nat} {x : List Ins} (h : Rd w 5 Ins.enc (.slice a n c) x) (m : Nat) (hm : m ≤ n) (hm' : (m = n ∧ n ≤ 100) ∨ m = 100) : Rd w 5 Ins.enc (cutV (.slice a n c) 0 m 5) (x.take 100) := by
  have hn := h.num
  have := h.cut (l := 0) (m := m) (Nat.zero_le _) (by omega)
  rw [List.drop_zero, Nat.sub_zero] at this
  rcases hm' with ⟨rfl, h1⟩ | rfl
  · rwa [hn, List.take_length, ← hn, ← List.take_of_length_le (show x.length ≤ 100 by omega)] at this
  · exact this
set_option maxHeartbeats 1000000 in
theorem d_few (v : Value) (L : List Ins) (w : World) (h : Rd w 5 Ins.enc v L) : Calls Try.prog 41 #[v] w fun e w' => ∃ v', e = .returned v' ∧ Rd w' 5 Ins.enc v' (L.take 100) ∧ Ext w w' := by
  obtain ⟨a, n, c, rfl, hn, hN⟩ := h.val
  have HD := Lib.hid h
  clear h
  go_enter Try.func41, Try.ntmps41
  have h1 : (n : Int) ≤ 100 ∨ (100 : Int) < n := by omega
  rcases h1 with h1 | h1
  · have c1 := fun W => HD.out.run_cut_h (P := Try.prog) el_ins.under el_ins.size .i64 (n : Int) (by omega) (by omega) W
    have E := Lib.hid (take_cut100 HD.out n (Nat.le_refl _) (by omega))
    have hm : min (n : Int) 100 = n := by omega
    simp only [Int.toNat_natCast] at c1
    go_wp2_with fail
    go_returns
    exact ⟨_, rfl, E.out, by (repeat (first | exact Ext.rfl' _ | assumption | refine Ext.drewN' ?_ _ | refine Ext.drew' ?_ | refine Ext.alloc' ?_ _ | refine Ext.trans' ?_ (by assumption)))⟩
  · have c1 := fun W => HD.out.run_cut_h (P := Try.prog) el_ins.under el_ins.size .i64 100 (by omega) (by omega) W
    have E := Lib.hid (take_cut100 HD.out 100 (by omega) (by omega))
    have hm : min (n : Int) 100 = 100 := by omega
    go_wp2_with fail
    go_returns
    exact ⟨_, rfl, E.out, by (repeat (first | exact Ext.rfl' _ | assumption | refine Ext.drewN' ?_ _ | refine Ext.drew' ?_ | refine Ext.alloc' ?_ _ | refine Ext.trans' ?_ (by assumption)))⟩
/-- The document's example. -/
def L2 : List Ins := [⟨183, 0, 0, 0, 1⟩, ⟨183, 0, 0, 0, 2⟩, ⟨149, 0, 0, 0, 0⟩, ⟨183, 0, 0, 0, 3⟩, ⟨149, 0, 0, 0, 0⟩]
theorem l2_prog : progS L2 = true := by decide +kernel
theorem l2_ok : InsOk L2 := by
  intro x hx
  simp only [L2, List.mem_cons, List.not_mem_nil, or_false] at hx
  rcases hx with rfl | rfl | rfl | rfl | rfl <;> exact ⟨by decide, by decide, by decide, by decide, by decide⟩
theorem l2_out (k : Nat) : beginsS L2 ((k + 5 : Nat) : Int) = false := begins_out (by simp [L2])
theorem l2_in {k : Nat} (h : k < 5) : beginsS L2 k = true := by
  rcases k with _ | _ | _ | _ | _ | k
  · decide +kernel
  · decide +kernel
  · decide +kernel
  · decide +kernel
  · decide +kernel
  · omega
theorem l2_rd (k : Nat) : rdN L2 k = if k = 2 ∨ k = 4 then 1 else 0 := by
  rcases k with _ | _ | _ | _ | _ | k
  · decide +kernel
  · decide +kernel
  · decide +kernel
  · decide +kernel
  · decide +kernel
  · rw [rdN_not (l2_out k), if_neg (by omega)]
theorem l2_wr (k : Nat) (h : k < 5) : wrN L2 k = if k = 2 ∨ k = 4 then 0 else 1 := by
  rcases k with _ | _ | _ | _ | _ | k
  · decide +kernel
  · decide +kernel
  · decide +kernel
  · decide +kernel
  · decide +kernel
  · omega
theorem l2_at (k : Nat) : aheadAt L2 k = if k = 0 then [1] else if k = 1 then [2] else if k = 3 then [4] else [] := by
  unfold aheadAt
  rcases k with _ | _ | _ | _ | _ | k
  · show aheadL L2 _ 0 = _
    rw [ahead_two]; decide +kernel
  · show aheadL L2 _ 1 = _
    rw [ahead_two]; decide +kernel
  · show aheadL L2 _ 2 = _
    rw [ahead_two]; decide +kernel
  · show aheadL L2 _ 3 = _
    rw [ahead_two]; decide +kernel
  · show aheadL L2 _ 4 = _
    rw [ahead_two]; decide +kernel
  · have : L2[k + 5]? = none := by simp [L2]
    rw [this]
    simp
theorem l2_ah (k : Nat) : ahN L2 k = if k = 0 then [1] else if k = 1 then [2] else if k = 3 then [4] else [] := by
  by_cases h : k < 5
  · unfold ahN
    rw [aheadV_at (l2_in h), l2_at]
  · obtain ⟨j, rfl⟩ : ∃ j, k = j + 5 := ⟨k - 5, by omega⟩
    rw [ahN_not (l2_out j), if_neg (by omega), if_neg (by omega), if_neg (by omega)]
theorem l2_need {r i : Nat} : Need (rdN L2) (wrN L2) (ahN L2) r i ↔ (i = 2 ∨ i = 4) ∧ r = 0 := by
  constructor
  · intro h
    refine h (fun i => (i = 2 ∨ i = 4) ∧ r = 0) (fun i hi => ?_) (fun i t hw ht hs => ?_)
    · rw [l2_rd] at hi
      split at hi
      · rename_i e; exact ⟨e, one_bit hi⟩
      · simp at hi
    · obtain ⟨h1, rfl⟩ := hs
      rw [l2_ah] at ht
      have hi : (i = 1 ∨ i = 3) ∨ ¬ (i = 1 ∨ i = 3) := by omega
      rcases hi with hi | hi
      · rw [l2_wr i (by omega), if_neg (by omega)] at hw
        simp at hw
      · exfalso
        split at ht
        · simp at ht; omega
        · rw [if_neg (by omega), if_neg (by omega)] at ht
          simp at ht
  · rintro ⟨h, rfl⟩
    exact .read (by rw [l2_rd, if_pos h]; rfl)
theorem l2_needB {r i : Nat} : NeedB (rdN L2) (wrN L2) (ahN L2) r i ↔ (i = 1 ∨ i = 3) ∧ r = 0 := by
  constructor
  · rintro ⟨t, ht, hn⟩
    obtain ⟨h, rfl⟩ := l2_need.1 hn
    refine ⟨?_, rfl⟩
    rw [l2_ah] at ht
    split at ht
    · simp at ht; omega
    · split at ht
      · omega
      · split at ht
        · omega
        · simp at ht
  · rintro ⟨rfl | rfl, rfl⟩
    · exact ⟨2, by rw [l2_ah]; simp, l2_need.2 ⟨.inl rfl, rfl⟩⟩
    · exact ⟨4, by rw [l2_ah]; simp, l2_need.2 ⟨.inr rfl, rfl⟩⟩
theorem l2_liveB : liveB L2 = [0, 1, 0, 1, 0] := by
  unfold liveB
  rw [l2_prog]
  show [bitsOf _, bitsOf _, bitsOf _, bitsOf _, bitsOf _] = _
  have a0 : bitsOf (fun r => NeedB (rdN L2) (wrN L2) (ahN L2) r 0) = 0 := zero_bits (fun r h => by have := (l2_needB (i := 0)).1 h; omega)
  have a1 : bitsOf (fun r => NeedB (rdN L2) (wrN L2) (ahN L2) r 1) = 1 := one_bits (fun r => by rw [l2_needB]; simp)
  have a2 : bitsOf (fun r => NeedB (rdN L2) (wrN L2) (ahN L2) r 2) = 0 := zero_bits (fun r h => by have := (l2_needB (i := 2)).1 h; omega)
  have a3 : bitsOf (fun r => NeedB (rdN L2) (wrN L2) (ahN L2) r 3) = 1 := one_bits (fun r => by rw [l2_needB]; simp)
  have a4 : bitsOf (fun r => NeedB (rdN L2) (wrN L2) (ahN L2) r 4) = 0 := zero_bits (fun r h => by have := (l2_needB (i := 4)).1 h; omega)
  rw [a0, a1, a2, a3, a4]
theorem l2_idle : idleL L2 = [true, false, false, false, false] := by
  unfold idleL
  rw [l2_liveB]
  show [idleK L2 0, idleK L2 1, idleK L2 2, idleK L2 3, idleK L2 4] = _
  rw [idle_at (x := ⟨183, 0, 0, 0, 1⟩) (b := 0) rfl (by rw [l2_liveB]; rfl), idle_at (x := ⟨183, 0, 0, 0, 2⟩) (b := 1) rfl (by rw [l2_liveB]; rfl), idle_at (x := ⟨149, 0, 0, 0, 0⟩) (b := 0) rfl (by rw [l2_liveB]; rfl),
    idle_at (x := ⟨183, 0, 0, 0, 3⟩) (b := 1) rfl (by rw [l2_liveB]; rfl), idle_at (x := ⟨149, 0, 0, 0, 0⟩) (b := 0) rfl (by rw [l2_liveB]; rfl),
    l2_wr 0 (by decide), l2_wr 1 (by decide), l2_wr 2 (by decide), l2_wr 3 (by decide), l2_wr 4 (by decide)]
  decide +kernel
theorem l2_conn {k : Nat} : Conn (aheadAt L2) 0 k ↔ k ≤ 2 := by
  constructor
  · intro h
    refine h (fun k => k ≤ 2) (by decide) (fun i j hi hj => ?_)
    rw [l2_at] at hj
    split at hj
    · simp at hj; omega
    · split at hj
      · simp at hj; omega
      · split at hj
        · omega
        · simp at hj
  · intro h
    have c1 : Conn (aheadAt L2) 0 1 := (Conn.rfl' 0).step (by rw [l2_at]; simp)
    have c2 : Conn (aheadAt L2) 0 2 := c1.step (by rw [l2_at]; simp)
    rcases k with _ | _ | _ | k
    · exact Conn.rfl' 0
    · exact c1
    · exact c2
    · omega
theorem l2_reach : reachL L2 0 = [true, true, true, false, false] := by
  refine (reachL_eq l2_prog rfl (fun k hk => ?_)).symm
  have hk : k < 5 := hk
  have hb : beginsS L2 0 = true := l2_in (k := 0) (by decide)
  rw [hb]
  simp only [true_and]
  show _ ↔ Conn (aheadAt L2) 0 k
  rw [l2_conn]
  rcases k with _ | _ | _ | _ | _ | k
  · simp
  · simp
  · simp
  · simp
  · simp
  · omega
theorem l2_goes : goesL L2 = [true, false, false, true, true] := by
  unfold goesL
  rw [l2_prog]
  show [goesB L2 0, goesB L2 1, goesB L2 2, goesB L2 3, goesB L2 4] = _
  unfold goesB
  rw [l2_idle, l2_reach]
  decide +kernel
def E2 : List Ed := [edB true, edB false, edB false, edB true, edB true]
theorem l2_dead : deadL L2 = E2 := by unfold deadL; rw [l2_goes]; rfl
theorem l2_many : manyB (goesL L2) = 3 := by rw [l2_goes]; rfl
theorem rd_eds (w : World) (xs : List Ed) (b n : Nat) (hb : b = w.heap.size) (hn : n = xs.length) (hl : xs.length ≤ 1000) : Rd (w.alloc (.cells (xs.flatMap Ed.enc).toArray 80)) 7 Ed.enc (.slice (some ⟨b, 0, none⟩) n n) xs :=
  (Own.lit enc_ed (base := 0) (w := w) xs hb hn (Nat.zero_le _) (by simp [maxLen]; omega)).rd enc_ed
abbrev edObj (e : Ed) : Obj := .cells #[.int .u8 e.kind, .int .u8 e.x.op, .int .u8 e.x.dst, .int .u8 e.x.src, .int .i16 e.x.off, .int .i32 e.x.imm, .int .i64 e.tgt] 80 (0, 0)
set_option maxRecDepth 20000 in
set_option maxHeartbeats 4000000 in
theorem d_shown (w : World) : Calls Try.prog 42 #[] w fun e w' => e = .returned (.bool true) ∧ Ext w w' := by
  go_enter Try.func42, Try.ntmps42
  go_upto_region 1 with fail
  go_cut [1] (fun v1 wx => Hid (Rd wx 5 Ins.enc v1 L2 ∧ Ext w wx))
  case first =>
    go_wp2_with fail
    go_meet
    exact Lib.hid ⟨(Own.lit enc_ins (base := 0) (w := w) L2 rfl rfl (Nat.zero_le _) (by simp [maxLen, L2])).rd enc_ins, by (repeat (first | exact Ext.rfl' _ | assumption | refine Ext.drewN' ?_ _ | refine Ext.drew' ?_ | refine Ext.alloc' ?_ _ | refine Ext.trans' ?_ (by assumption)))⟩
  case rest =>
    have hl : L2.length ≤ 1000000 := by decide
    have HL := Lib.hid hl
    have HOK := Lib.hid l2_ok
    obtain ⟨a, n, c, hv, hn, hN⟩ := hcut.out.1.val
    subst hv
    have HD := Lib.hid hcut.out.1
    have HE := Lib.hid hcut.out.2
    clear hcut hl
    go_upto_region 2 with fail
    go_cut [2] (fun v2 wx => ∃ q, v2 = .pointer (some ⟨q, 0, none⟩) ∧ Hid (wx.heap[q]? = some (edObj (edB true)) ∧ Rd wx 5 Ins.enc (.slice a n c) L2 ∧ Ext w wx))
    case first =>
      go_wp2_with fail
      go_meet
      exact ⟨_, rfl, Lib.hid ⟨obj_top _ _ rfl, HD.out.ext (by (repeat (first | exact Ext.rfl' _ | assumption | refine Ext.drewN' ?_ _ | refine Ext.drew' ?_ | refine Ext.alloc' ?_ _ | refine Ext.trans' ?_ (by assumption)))), by have := HE.out; (repeat (first | exact Ext.rfl' _ | assumption | refine Ext.drewN' ?_ _ | refine Ext.drew' ?_ | refine Ext.alloc' ?_ _ | refine Ext.trans' ?_ (by assumption)))⟩⟩
    case rest =>
      obtain ⟨q, rfl, HI⟩ := hcut
      have HQ := Lib.hid HI.out.1
      have HD2 := Lib.hid HI.out.2.1
      have HE2 := Lib.hid HI.out.2.2
      clear HI HE HD
      have q0 := cell_obj (i := 0) HQ.out
      have q1 := cell_obj (i := 1) HQ.out
      have q2 := cell_obj (i := 2) HQ.out
      have q3 := cell_obj (i := 3) HQ.out
      have q4 := cell_obj (i := 4) HQ.out
      have q5 := cell_obj (i := 5) HQ.out
      have q6 := cell_obj (i := 6) HQ.out
      simp only [List.getElem?_toArray, List.getElem?_cons_zero, List.getElem?_cons_succ] at q0 q1 q2 q3 q4 q5 q6
      have hlq := heap_lt HQ.out
      go_upto_region 3 with fail
      have hED := fun W (h : Ext wc W) => d_Edits _ L2 W (HD2.out.ext h) HL.out HOK.out
      rw [l2_dead] at hED
      have hMN := fun W (h : Ext wc W) => d_Many _ L2 W (HD2.out.ext h) HL.out HOK.out
      rw [l2_many] at hMN
      have hSQ : ∀ W, Ext wc W → (W.cell? ⟨q, 0, none⟩ = some (.int .u8 1) ∧ W.cell? ⟨q, 1, none⟩ = some (.int .u8 0) ∧ W.cell? ⟨q, 2, none⟩ = some (.int .u8 0) ∧ W.cell? ⟨q, 3, none⟩ = some (.int .u8 0) ∧ W.cell? ⟨q, 4, none⟩ = some (.int .i16 0) ∧ W.cell? ⟨q, 5, none⟩ = some (.int .i32 0) ∧ W.cell? ⟨q, 6, none⟩ = some (.int .i64 0)) := fun W h =>
        ⟨h.cellOf q0, h.cellOf q1, h.cellOf q2, h.cellOf q3, h.cellOf q4, h.cellOf q5, h.cellOf q6⟩
      have HED := Lib.hid hED
      have HMN := Lib.hid hMN
      have HSQ := Lib.hid hSQ
      clear hED hMN hSQ
      go_region_held3 (fun w' => w'.cell? ⟨q, 0, none⟩ = some (.int .u8 1) ∧ w'.cell? ⟨q, 1, none⟩ = some (.int .u8 0) ∧ w'.cell? ⟨q, 2, none⟩ = some (.int .u8 0) ∧ w'.cell? ⟨q, 3, none⟩ = some (.int .u8 0) ∧ w'.cell? ⟨q, 4, none⟩ = some (.int .i16 0) ∧ w'.cell? ⟨q, 5, none⟩ = some (.int .i32 0) ∧ w'.cell? ⟨q, 6, none⟩ = some (.int .i64 0))
        (exact HSQ.out _ (by (repeat (first | exact Ext.rfl' _ | assumption | refine Ext.drewN' ?_ _ | refine Ext.drew' ?_ | refine Ext.alloc' ?_ _ | refine Ext.trans' ?_ (by assumption)))))
        ((first
          | (go_at_call 44; refine (HED.out _ (by (repeat (first | exact Ext.rfl' _ | assumption | refine Ext.drewN' ?_ _ | refine Ext.drew' ?_ | refine Ext.alloc' ?_ _ | refine Ext.trans' ?_ (by assumption))))).mono ?_; rintro e w5 ⟨v5, rfl, hO5, hE5⟩; have R5 := Lib.hid (hO5.rd enc_ed); clear hO5)
          | (go_at_call 43; refine (p_same _ _ E2 _ (by first | exact R5.out | exact R5.out.ext (by (repeat (first | exact Ext.rfl' _ | assumption | refine Ext.drewN' ?_ _ | refine Ext.drew' ?_ | refine Ext.alloc' ?_ _ | refine Ext.trans' ?_ (by assumption))))) (by first | exact rd_eds _ E2 _ _ rfl rfl (by decide) | exact (rd_eds _ E2 _ _ rfl rfl (by decide)).ext (by (repeat (first | exact Ext.rfl' _ | assumption | refine Ext.drewN' ?_ _ | refine Ext.drew' ?_ | refine Ext.alloc' ?_ _ | refine Ext.trans' ?_ (by assumption)))))).mono ?_; rintro e w6 ⟨rfl, hE6⟩)
          | (go_at_call 46; refine (HMN.out _ (by (repeat (first | exact Ext.rfl' _ | assumption | refine Ext.drewN' ?_ _ | refine Ext.drew' ?_ | refine Ext.alloc' ?_ _ | refine Ext.trans' ?_ (by assumption))))).mono ?_; rintro e w7 ⟨rfl, hE7⟩)))
      all_goals
        go_wp2_with fail
        go_returns
        exact ⟨rfl, by have := HE2.out; (repeat (first | exact Ext.rfl' _ | assumption | refine Ext.drewN' ?_ _ | refine Ext.drew' ?_ | refine Ext.alloc' ?_ _ | refine Ext.trans' ?_ (by assumption)))⟩
set_option maxRecDepth 20000 in
set_option maxHeartbeats 4000000 in
theorem dtells_any (v : Value) (L0 : List Ins) (w : World) (h : Rd w 5 Ins.enc v L0) (hok0 : InsOk L0) : Calls Try.prog 10 #[v] w fun e w' => e = .returned (.bool true) ∧ Ext w w' := by
  have HD0 := Lib.hid h
  have hok : InsOk (L0.take 100) := fun x hx => hok0 x (List.mem_of_mem_take hx)
  have hl : (L0.take 100).length ≤ 1000000 := by simp; omega
  have HFEW := Lib.hid (fun W => d_few v L0 W)
  obtain ⟨L, hL⟩ : ∃ L, L0.take 100 = L := ⟨_, rfl⟩
  rw [hL] at hok hl
  have HTK := Lib.hid hL
  have HOK := Lib.hid hok
  have HL := Lib.hid hl
  clear h hok0 hok hl hL
  go_enter Try.func10, Try.ntmps10
  go_wp2_with fail
  refine (HFEW.out _ HD0.out).mono ?_
  rw [HTK.out]
  rintro e w1 ⟨v2, rfl, hR2, hE2⟩
  have HD1 := Lib.hid hR2
  have HE1 := Lib.hid hE2
  obtain ⟨xa, xn, xc, hxv, hxn, hXN⟩ := hR2.val
  subst hxv
  clear hR2 hE2
  go_wp2_with fail
  refine (d_shown _).mono ?_
  rintro e w2 ⟨rfl, hE⟩
  have HE2 := Lib.hid (HE1.out.trans' hE)
  have HD2 := Lib.hid (HD1.out.ext hE)
  clear hE HE1 HD1
  go_wp2_with fail
  refine (d_Edits _ L _ HD2.out HL.out HOK.out).mono ?_
  rintro e w3 ⟨va, rfl, hO, hE⟩
  have HA := Lib.hid (hO.rd enc_ed)
  have HE3 := Lib.hid (HE2.out.trans' hE)
  have HD3 := Lib.hid (HD2.out.ext hE)
  clear hO hE HE2 HD2
  go_wp2_with fail
  refine (s_dEdits _ L _ HD3.out HL.out HOK.out).mono ?_
  rintro e w4 ⟨vb, rfl, hO, hE⟩
  have HB := Lib.hid (hO.rd enc_ed)
  replace HA := Lib.hid (HA.out.ext hE)
  have HE4 := Lib.hid (HE3.out.trans' hE)
  have HD4 := Lib.hid (HD3.out.ext hE)
  clear hO hE HE3 HD3
  go_wp2_with fail
  refine (p_same va vb (deadL L) _ HA.out HB.out).mono ?_
  rintro e w5 ⟨rfl, hE⟩
  have HE5 := Lib.hid (HE4.out.trans' hE)
  have HD5 := Lib.hid (HD4.out.ext hE)
  obtain ⟨X, hX⟩ : ∃ X, manyB (goesL L) = X := ⟨_, rfl⟩
  clear hE HE4 HD4 HA HB
  go_wp2_with fail
  refine (d_Many _ L _ HD5.out HL.out HOK.out).mono ?_
  rw [hX]
  rintro e w6 ⟨rfl, hE⟩
  have HE6 := Lib.hid (HE5.out.trans' hE)
  have HD6 := Lib.hid (HD5.out.ext hE)
  clear hE HE5 HD5
  go_wp2_with fail
  refine (s_dMany _ L _ HD6.out HL.out HOK.out).mono ?_
  rw [hX]
  rintro e w7 ⟨rfl, hE⟩
  have HE7 := Lib.hid (HE6.out.trans' hE)
  clear hE HE6 HD6
  go_wp2_with fail
  go_returns
  exact ⟨rfl, HE7.out⟩
end Go.Proofs.Ytkogkcjiachphaa
