/- What the claim leans on: CoG · CoH · CoI · HelpG · CloneU. -/
import Derived.Test.YtppefchjoodgnaaGreatPN17
import Derived.Test.YtppefchjoodgnaaGreatPN19
import Derived.Test.YtppefchjoodgnaaGreatProg
import Derived.Test.YtppefchjoodgnaaGreatPN01
import Derived.Test.YtppefchjoodgnaaGreatRows
import Derived.Test.YtppefchjoodgnaaGreatPN02
import Derived.Deep.QuietTactic
import Derived.BigQuiet
import Derived.Deep.RegionHeld3
import Derived.Handy
namespace Go.Proofs.YtppefchjoodgnaaGreat
open Go.RowKit
set_option linter.unusedVariables false
set_option linter.unusedSimpArgs false
theorem Rd.elt_add' {α : Type} {w : World} {sz : Nat} {enc : α → List Value} {v : Value} {xs : List α} (h : Rd w sz enc v xs) {i : Nat} {x : α} (hx : xs[i]? = some x) (k j : Nat) : (elt v k).add j = elt v (k + j) := by
 obtain ⟨a, c, rfl, h2, h3, h4, h5⟩ := h
 cases a with
 | none => rw [(h4 rfl).1] at hx; simp at hx
 | some a => simp only [elt, Addr.add_add]
theorem ins_cells {w : World} {v : Value} {L : List Ins} (R : Rd w 5 Ins.enc v L) {i : Nat} {x : Ins} (hx : L[i]? = some x) :
  w.cell? (elt v (i * 5)) = some (.int .u8 x.op) ∧ w.cell? ⟨(elt v (i * 5)).block, (elt v (i * 5)).off + 1, none⟩ = some (.int .u8 x.dst) ∧ w.cell? ⟨(elt v (i * 5)).block, (elt v (i * 5)).off + 2, none⟩ = some (.int .u8 x.src) ∧ w.cell? ⟨(elt v (i * 5)).block, (elt v (i * 5)).off + 3, none⟩ = some (.int .i16 x.off) ∧ w.cell? ⟨(elt v (i * 5)).block, (elt v (i * 5)).off + 4, none⟩ = some (.int .i32 x.imm) := by
 have E := R.elt_add' hx
 have F : ∀ (p : Addr) (j : Nat), j ≠ 0 → (⟨p.block, p.off + j, none⟩ : Addr) = p.add j := fun p j h => by simp [Addr.add, h]
 rw [F _ 1 (by decide), F _ 2 (by decide), F _ 3 (by decide), F _ 4 (by decide), E, E, E, E]
 exact ⟨R.cell hx (j := 0) rfl, R.cell hx (j := 1) rfl, R.cell hx (j := 2) rfl, R.cell hx (j := 3) rfl, R.cell hx (j := 4) rfl⟩
theorem p_wideI (x : Ins) (w : World) : Calls Tryz.prog 98 #[x.agg] w fun e w' => e = .returned (.bool (x.op == 24)) ∧ w' = w.alloc (.cells #[.int .u8 x.op, .int .u8 x.dst, .int .u8 x.src, .int .i16 x.off, .int .i32 x.imm] 58) := by
 go_enter Tryz.func98, Tryz.ntmps98
 go_wp2_with fail
 go_returns
 exact ⟨rfl, rfl⟩
def nextI (x : Ins) (k : Nat) : Nat := if x.op = 24 then k + 2 else k + 1
set_option maxHeartbeats 1000000 in
theorem p_Next (v : Value) (L : List Ins) (k : Nat) (x : Ins) (w : World) (h : Rd w 5 Ins.enc v L) (hl : L.length ≤ 1000000) (hx : L[k]? = some x) : Calls Tryz.prog 59 #[v, .int .i64 k] w fun e w' => e = .returned (.int .i64 (nextI x k)) ∧ Ext w w' := by
 obtain ⟨a, n, c, rfl, hn, hN⟩ := h.val
 have hk : k < n := by rw [hN.out]; exact (List.getElem?_eq_some_iff.1 hx).1
 have hk2 : n ≤ 1000000 := by rw [hN.out]; exact hl
 obtain ⟨c0, c1, c2, c3, c4⟩ := ins_cells h hx
 have ix := fun W => h.run_at (P := Tryz.prog) el_ins.under el_ins.size .i64 (k : Int) (by omega) (by omega) W
 simp only [Int.toNat_natCast] at ix
 obtain ⟨z, hz⟩ : ∃ z, (x.op == 24) = z := ⟨_, rfl⟩
 have hn2 : nextI x k = if z = true then k + 2 else k + 1 := by unfold nextI; simp [← hz]
 rw [hn2]
 have HZ := η hz
 clear h hx hz hn2
 have w1 : wrap64 ((k : Int) + 1) = k + 1 := by unfold wrap64; omega
 have w2 : wrap64 ((k : Int) + 2) = k + 2 := by unfold wrap64; omega
 go_enter Tryz.func59, Tryz.ntmps59
 go_wp2_with fail
 refine (p_wideI x _).mono ?_
 rw [HZ.out]
 rintro e w5 ⟨rfl, rfl⟩
 cases z
 all_goals
  go_wp2_with fail
  go_returns
  exact ⟨by simp <;> rfl, by (repeat (first|exact xE0 _|assumption|refine xE1 ?_ _|refine xE2 ?_|refine xE3 ?_ _|refine xE4 ?_ (by assumption)))⟩
def stF : Bool → List Ins → List Bool
 | _, [] => []
 | true, _ :: xs => false :: stF false xs
 | false, x :: xs => true :: stF (x.op == 24) xs
theorem stF_length : ∀ (b : Bool) (L : List Ins), (stF b L).length = L.length
 | true, [] => rfl
 | false, [] => rfl
 | true, _ :: xs => by simp [stF, stF_length false xs]
 | false, x :: xs => by simp [stF, stF_length _ xs]
def stD (L : List Ins) (k : Nat) : Prop := (stF false L).drop k = stF false (L.drop k)
theorem drop_cons {α : Type} {L : List α} {k : Nat} {x : α} (hx : L[k]? = some x) : L.drop k = x :: L.drop (k + 1) := by
 obtain ⟨h, rfl⟩ := List.getElem?_eq_some_iff.1 hx
 exact List.drop_eq_getElem_cons h
theorem st_step {L : List Ins} {k : Nat} {x : Ins} (hD : stD L k) (hx : L[k]? = some x) :
  (stF false L)[k]? = some true ∧ stD L (nextI x k) ∧ (x.op = 24 → k + 1 < L.length → (stF false L)[k + 1]? = some false) := by
 unfold stD at *
 rw [drop_cons hx] at hD
 simp only [stF] at hD
 have h0 : (stF false L)[k]? = some true := by
  have := congrArg (fun l => l[0]?) hD
  simpa using this
 have h1 : (stF false L).drop (k + 1) = stF (x.op == 24) (L.drop (k + 1)) := by
  have := congrArg (List.drop 1) hD
  simpa [Nat.add_comm] using this
 refine ⟨h0, ?_, fun hop hk => ?_⟩
 ·unfold nextI
  by_cases hop : x.op = 24
  ·rw [if_pos hop]
   have e : (x.op == 24) = true := by simpa using hop
   rw [e] at h1
   cases hr : L.drop (k + 1) with
   | nil =>
    have hl : L.length ≤ k + 1 := by simpa using hr
    rw [List.drop_eq_nil_of_le (by rw [stF_length]; omega), List.drop_eq_nil_of_le (by omega)]
    rfl
   | cons y ys =>
    rw [hr] at h1
    have h2 : L.drop (k + 2) = ys := by
     have := congrArg (List.drop 1) hr
     rw [List.drop_drop] at this
     exact this
    have h3 := congrArg (List.drop 1) h1
    rw [h2]
    rw [List.drop_drop] at h3
    exact h3
  ·rw [if_neg hop]
   have e : (x.op == 24) = false := by simpa using hop
   rw [e] at h1
   exact h1
 ·have e : (x.op == 24) = true := by simpa using hop
  rw [e] at h1
  obtain ⟨y, hy⟩ := at_of_lt hk
  rw [drop_cons hy] at h1
  have := congrArg (fun l => l[0]?) h1
  simpa [stF] using this
theorem run_make_bool (n : Nat) (hn : n ≤ 1000000) (u : World) : (Instr.makeSlice 54 (.int .i64 (n : Int)) (.int .i64 (n : Int))).run Tryz.prog u = .ok (.slice (some ⟨u.heap.size, 0, none⟩) n n) (u.alloc (.cells (madeCells #[.bool false] n) 4)) := by
 obtain ⟨i0, hi0, hz0, hz1, hz2⟩ := info_parts el_bool.info
 have h := run_make (P := Tryz.prog) u 54 4 i0 (.bool false) el_bool.under hi0 hz0 .i64 .i64 (n : Int) (n : Int) (by omega) (Int.le_refl _) (by rw [hz2]; omega) (by omega)
 simpa [hz1, Value.cells] using h
theorem own_made_bool (u : World) (n : Nat) (hn : n ≤ 1000000) (base : Nat) (hle : base ≤ u.heap.size) : Own (u.alloc (.cells (madeCells #[.bool false] n) 4)) base 4 1 (fun x => [Value.bool x]) (.slice (some ⟨u.heap.size, 0, none⟩) n n) (List.replicate n false) := by
 have e : (madeCells #[.bool false] n : Array Value) = ((List.replicate n false).flatMap fun x => [Value.bool x]).toArray := by
  apply Array.toList_inj.1
  rw [toList_madeCells_one, flat1, List.map_replicate]
 rw [e]
 exact Own.lit enc_bool _ rfl (by simp) hle (by simp [maxLen]; omega)
def StAns (L : List Ins) (w : World) (e : Ending) (w' : World) : Prop := ∃ s, e = .returned s ∧ Own w' w.heap.size 4 1 (fun x => [Value.bool x]) s (stF false L) ∧ Ext w w'
set_option maxHeartbeats 1000000 in
theorem p_Starts (v : Value) (L : List Ins) (w : World) (h : Rd w 5 Ins.enc v L) (hl : L.length ≤ 1000000) : Calls Tryz.prog 68 #[v] w (StAns L w) := by
 obtain ⟨a, n, c, rfl, hn, hN⟩ := h.val
 have hk2 : n ≤ 1000000 := by rw [hN.out]; exact hl
 have HL := η hl
 have HD := η h
 have hmk := run_make_bool n hk2
 clear h
 go_enter Tryz.func68, Tryz.ntmps68
 go_upto_region 1 with fail
 go_cut [3] (fun v3 wx => Hid (Own wx w.heap.size 4 1 (fun x => [Value.bool x]) v3 (List.replicate n false)) ∧ Ext w wx)
 case first =>
  go_wp2_with fail
  go_meet
  exact ⟨η (own_made_bool _ _ hk2 _ (Nat.le_refl _)), by (repeat (first|exact xE0 _|assumption|refine xE1 ?_ _|refine xE2 ?_|refine xE3 ?_ _|refine xE4 ?_ (by assumption)))⟩
 case rest =>
  obtain ⟨HO, hE⟩ := hcut
  obtain ⟨a3, n3, c3, rfl, hn3, hN3⟩ := (HO.out.rd enc_bool).val
  obtain rfl : n3 = n := by have := hN3.out; simpa using this
  clear hmk
  go_wp2_with fail
  go_loopw [4] (fun i wr => ∃ k : Nat, i = .int .i64 k ∧ k ≤ n3 + 1 ∧ Ext w wr ∧ Hid (stD L k) ∧ Hid (∃ T : List Bool, T.length = n3 ∧ Own wr w.heap.size 4 1 (fun x => [Value.bool x]) (.slice a3 n3 c3) T ∧ (∀ i, i < k → T[i]? = (stF false L)[i]?) ∧ (∀ i, k ≤ i → i < n3 → T[i]? = some false))) (fun i _ => n3 + 2 - (intOf i).toNat)
  case atStart => exact ⟨0, rfl, by omega, hE, η rfl, η ⟨List.replicate n3 false, by simp, HO.out, fun i hi => absurd hi (Nat.not_lt_zero _), fun i _ hi => by simp [hi]⟩⟩
  case round =>
   obtain ⟨k, rfl, hk, hwr, HSD, HT⟩ := hrel
   obtain ⟨T, hT, hO, hT1, hT2⟩ := HT.out
   have HT1 := η hT1
   have HT2 := η hT2
   have HTL := η hT
   clear hT hT1 hT2 HT
   by_cases hlt : (k : Int) < n3
   ·obtain ⟨x, hx⟩ := at_of_lt (xs := L) (k := k) (by have := hN.out; omega)
    obtain ⟨y, hy⟩ := at_of_lt (xs := T) (k := k) (by have := HTL.out; omega)
    have ix := fun W => (hO.rd enc_bool).run_at (P := Tryz.prog) el_bool.under el_bool.size .i64 (k : Int) (by omega) (by omega) W
    simp only [Nat.mul_one, Int.toNat_natCast] at ix
    obtain ⟨e1, e2, e3, e4, e5⟩ := hO.at hy
    have HX := η hx
    have HO5 := η (e5 true)
    clear hx hy e5 hO e3
    go_wp2_with fail
    have hE2 : Ext w _ := HO5.out.2 _ _ hwr (Nat.le_refl _)
    refine (p_Next _ L k x _ (HD.out.ext hE2) HL.out HX.out).mono ?_
    rintro e w5 ⟨rfl, hE5⟩
    have HE5 := η hE5
    clear hE5
    go_wp2_with fail
    go_roundw
    case rel =>
     obtain ⟨q1, q2, q3⟩ := st_step HSD.out HX.out
     have hkn : k < n3 := by omega
     refine ⟨nextI x k, rfl, by unfold nextI; split <;> omega, hE2.trans' HE5.out, η q2, η ⟨T.set k true, by simpa using HTL.out, HO5.out.1.ext HE5.out, fun i hi => ?_, fun i hi hi2 => ?_⟩⟩
     ·by_cases h1 : i = k
      ·subst h1
       rw [q1, List.getElem?_set_self (by have := HTL.out; omega)]
      ·rw [List.getElem?_set_ne (Ne.symm h1)]
       by_cases h2 : i < k
       ·exact HT1.out i h2
       ·have h3 : x.op = 24 ∧ i = k + 1 := by
         unfold nextI at hi
         split at hi
         ·rename_i hop; exact ⟨hop, by omega⟩
         ·omega
        obtain ⟨hop, rfl⟩ := h3
        by_cases h4 : k + 1 < n3
        ·rw [HT2.out _ (by omega) h4, q3 hop (by have := hN.out; omega)]
        ·rw [List.getElem?_eq_none (by have := HTL.out; omega), List.getElem?_eq_none (by rw [stF_length]; have := hN.out; omega)]
     ·have : k < nextI x k := by unfold nextI; split <;> omega
      rw [List.getElem?_set_ne (by omega)]
      exact HT2.out i (by omega) hi2
    case measure =>
     have : k < nextI x k := by unfold nextI; split <;> omega
     simp [intOf]
     omega
   ·have hT : T = stF false L := by
     apply List.ext_getElem?
     intro i
     by_cases h1 : i < k
     ·exact HT1.out i h1
     ·rw [List.getElem?_eq_none (by have := HTL.out; omega), List.getElem?_eq_none (by rw [stF_length]; have := hN.out; omega)]
    subst hT
    have HO := η hO
    clear hO
    go_wp2_with fail
    go_returns
    exact ⟨_, rfl, HO.out, hwr⟩
def whatZ (x : Ins) : Wh := (whatS x).getD Wh.zero
def toS (x : Ins) (k : Nat) : Option Int := if (whatZ x).kind = 9 ∨ (whatZ x).kind = 10 then some (k + 1 + if x.op = 6 then x.imm else x.off) else none
def InsOk (L : List Ins) : Prop := ∀ x ∈ L, x.Ok
theorem InsOk.at {L : List Ins} (h : InsOk L) {k : Nat} {x : Ins} (hx : L[k]? = some x) : x.Ok := h x (List.mem_of_getElem? hx)
def OptA (o : Option Int) (w : World) (e : Ending) (w' : World) : Prop := e = .returned (.tuple #[.int .i64 (o.getD 0), .bool o.isSome]) ∧ Ext w w'
set_option maxHeartbeats 2000000 in
theorem p_to (v : Value) (L : List Ins) (k : Nat) (x : Ins) (w : World) (h : Rd w 5 Ins.enc v L) (hl : L.length ≤ 1000000) (hx : L[k]? = some x) (hok : x.Ok) : Calls Tryz.prog 83 #[v, .int .i64 k] w (OptA (toS x k) w) := by
 obtain ⟨a, n, c, rfl, hn, hN⟩ := h.val
 have hk : k < n := by rw [hN.out]; exact (List.getElem?_eq_some_iff.1 hx).1
 have hk2 : n ≤ 1000000 := by rw [hN.out]; exact hl
 have ix := fun W => h.run_at (P := Tryz.prog) el_ins.under el_ins.size .i64 (k : Int) (by omega) (by omega) W
 simp only [Int.toNat_natCast] at ix
 have HD := η h
 have HX := η hx
 have HOK := η hok
 have w0 : wrap64 ((k : Int) + 1) = k + 1 := by unfold wrap64; omega
 have w1 : wrap64 ((k : Int) + 1 + x.off) = k + 1 + x.off := by have := hok.off; unfold wrap64; omega
 have w2 : wrap64 ((k : Int) + 1 + x.imm) = k + 1 + x.imm := by have := hok.imm; unfold wrap64; omega
 unfold toS whatZ
 obtain ⟨y, hy⟩ : ∃ y, (whatS x).getD Wh.zero = y := ⟨_, rfl⟩
 obtain ⟨bb, hbb⟩ : ∃ y, (whatS x).isSome = y := ⟨_, rfl⟩
 obtain ⟨k9, hk9⟩ : ∃ z, (y.kind != 9) = z := ⟨_, rfl⟩
 obtain ⟨k10, hk10⟩ : ∃ z, (y.kind != 10) = z := ⟨_, rfl⟩
 obtain ⟨k6, hk6⟩ : ∃ z, (x.op == 6) = z := ⟨_, rfl⟩
 have b1 : (y.kind = 9) = (k9 = false) := by rw [← hk9]; simp
 have b2 : (y.kind = 10) = (k10 = false) := by rw [← hk10]; simp
 have b3 : (x.op = 6) = (k6 = true) := by rw [← hk6]; simp
 simp only [hy, b1, b2, b3]
 obtain ⟨R, hR⟩ : ∃ R : Option Int, R = if k9 = false ∨ k10 = false then some (k + 1 + if k6 = true then x.imm else x.off) else none := ⟨_, rfl⟩
 rw [← hR]
 have HR := η hR
 have w3 : wrap64 x.off = x.off := by have := hok.off; unfold wrap64; omega
 have w4 : wrap64 x.imm = x.imm := by have := hok.imm; unfold wrap64; omega
 clear hR
 have HY := η hy
 have HB := η hbb
 clear h hx hok hy hbb b1 b2 b3
 obtain ⟨c0, c1, c2, c3, c4⟩ := ins_cells HD.out HX.out
 go_enter Tryz.func83, Tryz.ntmps83
 go_upto_region 1 with fail
 go_cut [6] (fun v6 wx => ∃ q, v6 = .pointer (some ⟨q, 0, none⟩) ∧ Hid (Ext w wx ∧ wx.heap[q]? = some (whObj y) ∧ w.heap.size ≤ q))
 case first =>
  go_wp2_with fail
  refine (p_What x _ HOK.out).mono ?_
  unfold WhatA
  rw [HY.out, HB.out]
  rintro e w5 ⟨rfl, hE⟩
  have HE5 := η hE
  clear hE
  go_wp2_with fail
  go_meet
  refine ⟨_, rfl, η ⟨?_, ?_, HE5.out.size⟩⟩
  ·have := HE5.out
   (repeat (first|exact xE0 _|assumption|refine xE1 ?_ _|refine xE2 ?_|refine xE3 ?_ _|refine xE4 ?_ (by assumption)))
  ·(repeat (first | (refine obj_top _ _ ?_; simp; done) | refine obj_old _ ?_))
 case rest =>
  obtain ⟨q, rfl, HW⟩ := hcut
  have q0 := cO (i := 0) HW.out.2.1
  simp only [gA, gB, gC] at q0
  clear c0 c1 c2 c3 c4
  obtain ⟨c0, c1, c2, c3, c4⟩ := ins_cells (HD.out.ext HW.out.1) HX.out
  cases k9
  ·cases k6
   all_goals
    go_wp2_with fail
    go_returns
    exact ⟨by rw [HR.out]; simp, HW.out.1⟩
  ·cases k10
   ·cases k6
    all_goals
     go_wp2_with fail
     go_returns
     exact ⟨by rw [HR.out]; simp, HW.out.1⟩
   ·go_wp2_with fail
    go_returns
    exact ⟨by rw [HR.out]; simp, HW.out.1⟩
def targetS (L : List Ins) (x : Ins) (k : Nat) : Option Int := match toS x k with | none => none | some t => if 0 ≤ t ∧ t < L.length then some t else none
set_option maxHeartbeats 2000000 in
theorem p_Target (v : Value) (L : List Ins) (k : Nat) (x : Ins) (w : World) (h : Rd w 5 Ins.enc v L) (hl : L.length ≤ 1000000) (hx : L[k]? = some x) (hok : x.Ok) : Calls Tryz.prog 58 #[v, .int .i64 k] w (OptA (targetS L x k) w) := by
 obtain ⟨a, n, c, rfl, hn, hN⟩ := h.val
 have hk : k < n := by rw [hN.out]; exact (List.getElem?_eq_some_iff.1 hx).1
 have hk2 : n ≤ 1000000 := by rw [hN.out]; exact hl
 have HD := η h
 have HX := η hx
 have HOK := η hok
 have HL := η hl
 obtain ⟨R, hR⟩ : ∃ R, R = targetS L x k := ⟨_, rfl⟩
 rw [← hR]
 unfold targetS at hR
 rw [← hN.out] at hR
 have HR := η hR
 clear h hx hok hl hR
 go_enter Tryz.func58, Tryz.ntmps58
 go_wp2_with fail
 refine (p_to _ L k x _ HD.out HL.out HX.out HOK.out).mono ?_
 unfold OptA
 cases ht : toS x k with
 | none =>
  have HT := η ht
  clear ht
  rintro e w5 ⟨rfl, hE⟩
  have HE5 := η hE
  clear hE
  simp only [Option.getD_none, Option.isSome_none]
  go_wp2_with fail
  go_returns
  exact ⟨by rw [HR.out, HT.out]; rfl, HE5.out⟩
 | some t =>
  have HT := η ht
  clear ht
  rintro e w5 ⟨rfl, hE⟩
  have HE5 := η hE
  clear hE
  simp only [Option.getD_some, Option.isSome_some]
  by_cases h1 : 0 ≤ t
  ·by_cases h2 : t < n
   ·go_wp2_with fail
    go_returns
    exact ⟨by rw [HR.out, HT.out]; simp [h1, h2], HE5.out⟩
   ·go_wp2_with fail
    go_returns
    have h3 : ¬ (0 ≤ t ∧ t < (n : Int)) := by omega
    exact ⟨by rw [HR.out, HT.out]; simp only []; rw [if_neg h3]; rfl, HE5.out⟩
  ·go_wp2_with fail
   go_returns
   have h3 : ¬ (0 ≤ t ∧ t < (n : Int)) := by omega
   exact ⟨by rw [HR.out, HT.out]; simp only []; rw [if_neg h3]; rfl, HE5.out⟩
def wholeS (L : List Ins) (x : Ins) (k : Nat) : Bool :=
 (whatS x).isSome && (!(x.op == 24) || match L[k + 1]? with | none => false | some y => y.op == 0 && y.dst == 0 && y.src == 0 && y.off == 0 && ((whatZ x).kind == 3 || y.imm == 0))
set_option maxHeartbeats 2000000 in
theorem p_whole (v : Value) (L : List Ins) (k : Nat) (x : Ins) (w : World) (h : Rd w 5 Ins.enc v L) (hl : L.length ≤ 1000000) (hx : L[k]? = some x) (hok : x.Ok) : Calls Tryz.prog 82 #[v, .int .i64 k] w fun e w' => e = .returned (.bool (wholeS L x k)) ∧ Ext w w' := by
 obtain ⟨a, n, c, rfl, hn, hN⟩ := h.val
 have hk : k < n := by rw [hN.out]; exact (List.getElem?_eq_some_iff.1 hx).1
 have hk2 : n ≤ 1000000 := by rw [hN.out]; exact hl
 have ix := fun W => h.run_at (P := Tryz.prog) el_ins.under el_ins.size .i64 (k : Int) (by omega) (by omega) W
 simp only [Int.toNat_natCast] at ix
 have HD := η h
 have HX := η hx
 have HOK := η hok
 have w0 : wrap64 ((k : Int) + 1) = k + 1 := by unfold wrap64; omega
 obtain ⟨R, hR⟩ : ∃ R, R = wholeS L x k := ⟨_, rfl⟩
 rw [← hR]
 unfold wholeS whatZ at hR
 obtain ⟨y, hy⟩ : ∃ y, (whatS x).getD Wh.zero = y := ⟨_, rfl⟩
 obtain ⟨bb, hbb⟩ : ∃ y, (whatS x).isSome = y := ⟨_, rfl⟩
 obtain ⟨k3, hk3⟩ : ∃ z, (y.kind == 3) = z := ⟨_, rfl⟩
 obtain ⟨k24, hk24⟩ : ∃ z, (x.op == 24) = z := ⟨_, rfl⟩
 rw [hy, hbb, hk3, hk24] at hR
 have HR := η hR
 have HY := η hy
 have HB := η hbb
 have HK := η hk24
 clear h hx hok hy hbb hR hk24
 obtain ⟨c0, c1, c2, c3, c4⟩ := ins_cells HD.out HX.out
 go_enter Tryz.func82, Tryz.ntmps82
 go_upto_region 1 with fail
 go_cut [5, 6] (fun v5 v6 wx => ∃ q, v5 = .pointer (some ⟨q, 0, none⟩) ∧ v6 = .bool bb ∧ Hid (Ext w wx ∧ wx.heap[q]? = some (whObj y) ∧ w.heap.size ≤ q))
 case first =>
  go_wp2_with fail
  refine (p_What x _ HOK.out).mono ?_
  unfold WhatA
  rw [HY.out, HB.out]
  rintro e w5 ⟨rfl, hE⟩
  have HE5 := η hE
  clear hE
  go_wp2_with fail
  go_meet
  refine ⟨_, rfl, rfl, η ⟨?_, ?_, HE5.out.size⟩⟩
  ·have := HE5.out
   (repeat (first|exact xE0 _|assumption|refine xE1 ?_ _|refine xE2 ?_|refine xE3 ?_ _|refine xE4 ?_ (by assumption)))
  ·(repeat (first | (refine obj_top _ _ ?_; simp; done) | refine obj_old _ ?_))
 case rest =>
  obtain ⟨q, rfl, rfl, HW⟩ := hcut
  clear c0 c1 c2 c3 c4
  obtain ⟨c0, c1, c2, c3, c4⟩ := ins_cells (HD.out.ext HW.out.1) HX.out
  cases bb with
  | false =>
   go_wp2_with fail
   go_returns
   exact ⟨by rw [HR.out]; rfl, HW.out.1⟩
  | true =>
   go_wp2_with fail
   refine (p_wideI x _).mono ?_
   rw [HK.out]
   rintro e w5 ⟨rfl, rfl⟩
   have HE2 := η (HW.out.1.alloc' (.cells #[.int .u8 x.op, .int .u8 x.dst, .int .u8 x.src, .int .i16 x.off, .int .i32 x.imm] 58))
   cases k24 with
   | false =>
    go_wp2_with fail
    go_returns
    exact ⟨by rw [HR.out]; rfl, HE2.out⟩
   | true =>
    by_cases hk1 : k + 1 < n
    ·obtain ⟨z, hz⟩ := at_of_lt (xs := L) (k := k + 1) (by rw [← hN.out]; exact hk1)
     have iy := fun W => HD.out.run_at (P := Tryz.prog) el_ins.under el_ins.size .i64 ((k : Int) + 1) (by omega) (by omega) W
     rw [show ((k : Int) + 1).toNat = k + 1 by omega] at iy
     clear c0 c1 c2 c3 c4
     obtain ⟨d0, d1, d2, d3, d4⟩ := ins_cells (HD.out.ext HE2.out) hz
     have HZ := η hz
     clear hz
     go_upto_region 8 with fail
     go_cut [7] (fun v7 wx => ∃ p, v7 = .pointer (some ⟨p, 0, none⟩) ∧ Hid (Ext w wx ∧ wx.heap[p]? = some (insObj z) ∧ wx.heap[q]? = some (whObj y) ∧ w.heap.size ≤ p))
     case first =>
      go_wp2_with fail
      go_meet
      refine ⟨_, rfl, η ⟨?_, ?_, ?_, ?_⟩⟩
      ·have := HE2.out
       (repeat (first|exact xE0 _|assumption|refine xE1 ?_ _|refine xE2 ?_|refine xE3 ?_ _|refine xE4 ?_ (by assumption)))
      ·(repeat (first | (refine obj_top _ _ ?_; simp; done) | refine obj_old _ ?_))
      ·exact obj_old _ (obj_old _ HW.out.2.1)
      ·have := HE2.out.size
       simp at this ⊢
       omega
     case rest =>
      obtain ⟨p, rfl, HP⟩ := hcut
      have q0 := cO (i := 0) HP.out.2.2.1
      have z0 := cO (i := 0) HP.out.2.1
      have z1 := cO (i := 1) HP.out.2.1
      have z2 := cO (i := 2) HP.out.2.1
      have z3 := cO (i := 3) HP.out.2.1
      have z4 := cO (i := 4) HP.out.2.1
      have zf := fun i => frozen_obj (i := i) HP.out.2.1
      simp only [gA, gB, gC] at q0 z0 z1 z2 z3 z4
      clear d0 d1 d2 d3 d4
      cases k3
      all_goals
       go_wp2_with fail
      all_goals
       go_returns
       exact ⟨by rw [HR.out, HZ.out]; simp_all, by first | exact HP.out.1 | exact HP.out.1.setCell HP.out.2.2.2 _⟩
    ·go_wp2_with fail
     go_returns
     exact ⟨by rw [HR.out, List.getElem?_eq_none (by rw [← hN.out]; omega)]; rfl, HE2.out⟩
def lastS (L : List Ins) : Nat → Nat
 | 0 => 0
 | k + 1 => if (stF false L)[k]? = some true then k else lastS L k
def ok1 (L : List Ins) (k : Nat) : Bool := match (stF false L)[k]?, L[k]? with | some true, some x => wholeS L x k | _, _ => true
def jumpOk (L : List Ins) (t : Int) : Bool := decide (0 ≤ t) && (decide (t < L.length) && ((stF false L)[t.toNat]? == some true))
def ok2 (L : List Ins) (k : Nat) : Bool := match (stF false L)[k]?, L[k]? with | some true, some x => (match toS x k with | none => true | some t => jumpOk L t) | _, _ => true
def endS (L : List Ins) : Bool := match L[lastS L L.length]? with | some x => (whatZ x).kind == 12 || (whatZ x).kind == 9 | none => false
def progS (L : List Ins) : Bool := decide (1 ≤ L.length) && (decide (L.length ≤ 512) && ((List.range L.length).all (ok1 L) && ((List.range L.length).all (ok2 L) && endS L)))
theorem lastS_lt (L : List Ins) (n : Nat) (hn : 1 ≤ n) : ∀ k, k ≤ n → lastS L k < n
 | 0, _ => hn
 | k + 1, h => by
  unfold lastS
  split
  ·omega
  ·exact lastS_lt L n hn k (by omega)
def CheckA (L : List Ins) (w : World) (e : Ending) (w' : World) : Prop := ∃ i er : Int, e = .returned (.tuple #[.int .i64 i, .int .i64 er]) ∧ decide (er = 0) = progS L ∧ Ext w w'
theorem prog_not1 {L : List Ins} {k : Nat} (hk : k < L.length) (h : ok1 L k = false) : progS L = false := by
 have : (List.range L.length).all (ok1 L) = false := by
  rw [Bool.eq_false_iff]
  intro h1
  rw [List.all_eq_true] at h1
  have := h1 k (by simpa using hk)
  rw [h] at this; cases this
 simp [progS, this]
theorem prog_not2 {L : List Ins} {k : Nat} (hk : k < L.length) (h : ok2 L k = false) : progS L = false := by
 have : (List.range L.length).all (ok2 L) = false := by
  rw [Bool.eq_false_iff]
  intro h1
  rw [List.all_eq_true] at h1
  have := h1 k (by simpa using hk)
  rw [h] at this; cases this
 simp [progS, this]
theorem prog_end {L : List Ins} (h0 : 1 ≤ L.length) (h5 : L.length ≤ 512) (h1 : ∀ j, j < L.length → ok1 L j = true) (h2 : ∀ j, j < L.length → ok2 L j = true) : progS L = endS L := by
 have a1 : (List.range L.length).all (ok1 L) = true := by rw [List.all_eq_true]; intro j hj; exact h1 j (by simpa using hj)
 have a2 : (List.range L.length).all (ok2 L) = true := by rw [List.all_eq_true]; intro j hj; exact h2 j (by simpa using hj)
 simp [progS, a1, a2, h0, h5]
theorem ok1_skip {L : List Ins} {k : Nat} (h : (stF false L)[k]? = some false) : ok1 L k = true ∧ ok2 L k = true ∧ lastS L (k + 1) = lastS L k := by
 simp [ok1, ok2, lastS, h]
theorem ok1_at {L : List Ins} {k : Nat} {x : Ins} (h : (stF false L)[k]? = some true) (hx : L[k]? = some x) : ok1 L k = wholeS L x k ∧ ok2 L k = (match toS x k with | none => true | some t => jumpOk L t) ∧ lastS L (k + 1) = k := by
 simp [ok1, ok2, lastS, h, hx]
theorem all_succ {P : Nat → Prop} {k : Nat} (h : ∀ j, j < k → P j) (hk : P k) : ∀ j, j < k + 1 → P j := fun j hj => by
 rcases Nat.lt_succ_iff_lt_or_eq.1 hj with h1 | rfl
 ·exact h j h1
 ·exact hk
set_option maxHeartbeats 4000000 in
set_option maxRecDepth 20000 in
theorem p_Check (v : Value) (L : List Ins) (w : World) (h : Rd w 5 Ins.enc v L) (hl : L.length ≤ 1000000) (hok : InsOk L) : Calls Tryz.prog 47 #[v] w (CheckA L w) := by
 obtain ⟨a, n, c, rfl, hn, hN⟩ := h.val
 have hk2 : n ≤ 1000000 := by rw [hN.out]; exact hl
 have HD := η h
 have HOK := η hok
 have HL := η hl
 clear h hok hl
 go_enter Tryz.func47, Tryz.ntmps47
 by_cases h1 : 1 ≤ n
 ·by_cases h5 : n ≤ 512
  ·go_wp2_with fail
   refine (p_Starts _ L _ HD.out HL.out).mono ?_
   rintro e w5 ⟨s, rfl, hO, hE⟩
   have hR := hO.rd enc_bool
   obtain ⟨sa, sn, sc, rfl, hsn, hSN⟩ := hR.val
   obtain rfl : sn = n := by rw [hSN.out, stF_length, hN.out]
   have HR := η hR
   have HE5 := η hE
   clear hO hR hE
   go_wp2_with fail
   go_loopw [26, 5] (fun i e wr => ∃ k : Nat, k ≤ sn ∧ i = .int .i64 k ∧ e = .int .i64 (lastS L k : Nat) ∧ Hid (Ext w wr ∧ Ext w5 wr ∧ ∀ j, j < k → ok1 L j = true)) (fun i _ _ => sn - (intOf i).toNat)
   case atStart => exact ⟨0, Nat.zero_le _, rfl, rfl, η ⟨HE5.out, Ext.rfl' _, fun j hj => absurd hj (Nat.not_lt_zero _)⟩⟩
   case round =>
    obtain ⟨k, hk, rfl, rfl, HI⟩ := hrel
    by_cases hlt : (k : Int) < sn
    ·obtain ⟨b, hb⟩ := at_of_lt (xs := stF false L) (k := k) (by have := hSN.out; omega)
     obtain ⟨x, hx⟩ := at_of_lt (xs := L) (k := k) (by have := hN.out; omega)
     have ix := fun W => (HR.out.ext HI.out.2.1).run_at (P := Tryz.prog) el_bool.under el_bool.size .i64 (k : Int) (by omega) (by omega) W
     have cb := (HR.out.ext HI.out.2.1).cell hb (j := 0) rfl
     simp only [Nat.mul_one, Nat.add_zero, Int.toNat_natCast] at ix cb
     have HB := η hb
     have HX := η hx
     clear hb hx
     cases b with
     | false =>
      go_wp2_with fail
      go_roundw
      case rel => exact ⟨k + 1, by omega, by go_num, by rw [(ok1_skip HB.out).2.2], η ⟨HI.out.1, HI.out.2.1, all_succ HI.out.2.2 (ok1_skip HB.out).1⟩⟩
      case measure => simp [intOf]; omega
     | true =>
      go_wp2_with fail
      refine (p_whole _ L k x _ (HD.out.ext HI.out.1) HL.out HX.out (HOK.out.at HX.out)).mono ?_
      cases hw : wholeS L x k with
      | false =>
       have HW := η hw
       clear hw
       rintro e w6 ⟨rfl, hE6⟩
       have HE6 := η hE6
       clear hE6
       go_wp2_with fail
       go_returns
       exact ⟨_, _, rfl, by rw [prog_not1 (k := k) (by have := hN.out; omega) ((ok1_at HB.out HX.out).1.trans HW.out)]; rfl, HI.out.1.trans' HE6.out⟩
      | true =>
       have HW := η hw
       clear hw
       rintro e w6 ⟨rfl, hE6⟩
       have HE6 := η hE6
       clear hE6
       go_wp2_with fail
       go_roundw
       case rel => exact ⟨k + 1, by omega, by go_num, by rw [(ok1_at HB.out HX.out).2.2], η ⟨HI.out.1.trans' HE6.out, HI.out.2.1.trans' HE6.out, all_succ HI.out.2.2 ((ok1_at HB.out HX.out).1.trans HW.out)⟩⟩
       case measure => simp [intOf]; omega
    ·obtain rfl : k = sn := by omega
     have HK1 := η HI.out.2.2
     have hle := lastS_lt L k h1 k (Nat.le_refl _)
     have HLE := η hle
     clear hle
     go_wp2_with fail
     go_loopw [44] (fun i w2 => ∃ m : Nat, m ≤ k ∧ i = .int .i64 m ∧ Hid (Ext w w2 ∧ Ext w5 w2 ∧ ∀ j, j < m → ok2 L j = true)) (fun i _ => k - (intOf i).toNat)
     case atStart => exact ⟨0, Nat.zero_le _, rfl, η ⟨HI.out.1, HI.out.2.1, fun j hj => absurd hj (Nat.not_lt_zero _)⟩⟩
     case round =>
      obtain ⟨m, hm, rfl, HJ⟩ := hrel
      by_cases hlt2 : (m : Int) < k
      ·obtain ⟨b, hb⟩ := at_of_lt (xs := stF false L) (k := m) (by have := hSN.out; omega)
       obtain ⟨x, hx⟩ := at_of_lt (xs := L) (k := m) (by have := hN.out; omega)
       have ix := fun W => (HR.out.ext HJ.out.2.1).run_at (P := Tryz.prog) el_bool.under el_bool.size .i64 (m : Int) (by omega) (by omega) W
       have cb := (HR.out.ext HJ.out.2.1).cell hb (j := 0) rfl
       simp only [Nat.mul_one, Nat.add_zero, Int.toNat_natCast] at ix cb
       have HB := η hb
       have HX := η hx
       clear hb hx
       cases b with
       | false =>
        go_wp2_with fail
        go_roundw
        case rel => exact ⟨m + 1, by omega, by go_num, η ⟨HJ.out.1, HJ.out.2.1, all_succ HJ.out.2.2 (ok1_skip HB.out).2.1⟩⟩
        case measure => simp [intOf]; omega
       | true =>
        go_wp2_with fail
        refine (p_to _ L m x _ (HD.out.ext HJ.out.1) HL.out HX.out (HOK.out.at HX.out)).mono ?_
        unfold OptA
        cases ht : toS x m with
        | none =>
         have HT := η ht
         clear ht
         simp only [Option.getD_none, Option.isSome_none]
         rintro e w6 ⟨rfl, hE6⟩
         have HE6 := η hE6
         clear hE6
         go_wp2_with fail
         go_roundw
         case rel => exact ⟨m + 1, by omega, by go_num, η ⟨HJ.out.1.trans' HE6.out, HJ.out.2.1.trans' HE6.out, all_succ HJ.out.2.2 (by rw [(ok1_at HB.out HX.out).2.1, HT.out])⟩⟩
         case measure => simp [intOf]; omega
        | some t =>
         have HT := η ht
         clear ht
         simp only [Option.getD_some, Option.isSome_some]
         rintro e w6 ⟨rfl, hE6⟩
         have HE6 := η hE6
         clear hE6
         have hj : ok2 L m = jumpOk L t := by rw [(ok1_at HB.out HX.out).2.1, HT.out]
         have HJO := η hj
         clear hj
         by_cases t1 : 0 ≤ t
         ·by_cases t2 : t < k
          ·obtain ⟨b2, hb2⟩ := at_of_lt (xs := stF false L) (k := t.toNat) (by have := hSN.out; omega)
           have iy := fun W => (HR.out.ext HJ.out.2.1).run_at (P := Tryz.prog) el_bool.under el_bool.size .i64 t (by omega) (by omega) W
           have cy := ((HR.out.ext HJ.out.2.1).ext HE6.out).cell hb2 (j := 0) rfl
           simp only [Nat.mul_one, Nat.add_zero] at iy cy
           have hj2 : jumpOk L t = b2 := by
            unfold jumpOk
            rw [hb2, decide_eq_true t1, decide_eq_true (by have := hN.out; omega)]
            cases b2 <;> rfl
           have HJ2 := η hj2
           clear hj2 hb2
           cases b2 with
           | true =>
            go_wp2_with fail
            go_roundw
            case rel => exact ⟨m + 1, by omega, by go_num, η ⟨HJ.out.1.trans' HE6.out, HJ.out.2.1.trans' HE6.out, all_succ HJ.out.2.2 (HJO.out.trans HJ2.out)⟩⟩
            case measure => simp [intOf]; omega
           | false =>
            go_wp2_with fail
            go_returns
            exact ⟨_, _, rfl, by rw [prog_not2 (k := m) (by have := hN.out; omega) (HJO.out.trans HJ2.out)]; rfl, HJ.out.1.trans' HE6.out⟩
          ·have hj2 : jumpOk L t = false := by
            unfold jumpOk
            rw [decide_eq_false (by have := hN.out; omega : ¬ t < (L.length : Int))]
            simp
           have HJ2 := η hj2
           clear hj2
           go_wp2_with fail
           go_returns
           exact ⟨_, _, rfl, by rw [prog_not2 (k := m) (by have := hN.out; omega) (HJO.out.trans HJ2.out)]; rfl, HJ.out.1.trans' HE6.out⟩
         ·have hj2 : jumpOk L t = false := by
           unfold jumpOk
           rw [decide_eq_false t1]
           simp
          have HJ2 := η hj2
          clear hj2
          go_wp2_with fail
          go_returns
          exact ⟨_, _, rfl, by rw [prog_not2 (k := m) (by have := hN.out; omega) (HJO.out.trans HJ2.out)]; rfl, HJ.out.1.trans' HE6.out⟩
      ·obtain rfl : m = k := by omega
       have HP : Hid (progS L = endS L) := η (prog_end (by rw [← hN.out]; exact h1) (by rw [← hN.out]; exact h5) (by rw [← hN.out]; exact HK1.out) (by rw [← hN.out]; exact HJ.out.2.2))
       obtain ⟨x, hx⟩ := at_of_lt (xs := L) (k := lastS L m) (by have := hN.out; have := HLE.out; omega)
       have hes : endS L = ((whatZ x).kind == 12 || (whatZ x).kind == 9) := by unfold endS; rw [← hN.out, hx]
       have ix := fun W => (HD.out.ext HJ.out.1).run_at (P := Tryz.prog) el_ins.under el_ins.size .i64 (lastS L m : Nat) (by omega) (by have := HLE.out; omega) W
       simp only [Int.toNat_natCast] at ix
       obtain ⟨c0, c1, c2, c3, c4⟩ := ins_cells (HD.out.ext HJ.out.1) hx
       have HX := η hx
       unfold whatZ at hes
       obtain ⟨y, hy⟩ : ∃ y, (whatS x).getD Wh.zero = y := ⟨_, rfl⟩
       rw [hy] at hes
       have HES := η hes
       have HY := η hy
       clear hx hes hy
       go_upto_region 20 with fail
       go_cut [12] (fun v6 wx => ∃ q, v6 = .pointer (some ⟨q, 0, none⟩) ∧ Hid (Ext w wx ∧ wx.heap[q]? = some (whObj y)))
       case first =>
        go_wp2_with fail
        refine (p_What x _ (HOK.out.at HX.out)).mono ?_
        unfold WhatA
        rw [HY.out]
        rintro e w7 ⟨rfl, hE7⟩
        have HE7 := η hE7
        clear hE7
        go_wp2_with fail
        go_meet
        refine ⟨_, rfl, η ⟨(HJ.out.1.trans' HE7.out).alloc' _, ?_⟩⟩
        (repeat (first | (refine obj_top _ _ ?_; simp; done) | refine obj_old _ ?_))
       case rest =>
        obtain ⟨q, rfl, HW⟩ := hcut
        have q0 := cO (i := 0) HW.out.2
        simp only [gA, gB, gC] at q0
        clear c0 c1 c2 c3 c4
        obtain ⟨k12, hk12⟩ : ∃ z, (y.kind != 12) = z := ⟨_, rfl⟩
        obtain ⟨k9, hk9⟩ : ∃ z, (y.kind != 9) = z := ⟨_, rfl⟩
        have b1 : (y.kind == 12) = !k12 := by rw [← hk12]; simp [bne]
        have b2 : (y.kind == 9) = !k9 := by rw [← hk9]; simp [bne]
        have HB1 := η b1
        have HB2 := η b2
        clear b1 b2
        cases k12
        ·go_wp2_with fail
         go_returns
         exact ⟨_, _, rfl, by rw [HP.out, HES.out, HB1.out]; rfl, HW.out.1⟩
        ·cases k9
         all_goals
          go_wp2_with fail
          go_returns
          exact ⟨_, _, rfl, by rw [HP.out, HES.out, HB1.out, HB2.out]; rfl, HW.out.1⟩
  ·go_wp2_with fail
   go_returns
   exact ⟨_, _, rfl, by rw [progS, decide_eq_false (by rw [← hN.out]; omega : ¬ L.length ≤ 512)]; simp, Ext.rfl' _⟩
 ·go_wp2_with fail
  go_returns
  exact ⟨_, _, rfl, by rw [progS, decide_eq_false (by rw [← hN.out]; omega : ¬ 1 ≤ L.length)]; simp, Ext.rfl' _⟩
def tolds (id : Int) : List Int := if id = 1 ∨ id = 3 then [1, 2] else if id = 2 then [1, 2, 3, 4] else if id = 6 then [4, 4] else []
def tells (id : Int) : Int := if id = 1 then 2 else if id = 2 ∨ id = 3 ∨ id = 5 ∨ id = 6 ∨ id = 7 ∨ id = 8 then 1 else 0
def draws (id : Int) : Bool := id == 5 || id == 7 || id == 8
def most (id : Int) : Int := if id = 2 ∨ id = 3 ∨ id = 5 then 18446744073709551615 else if id = 7 then 4294967295 else if id = 8 then 63 else 0
def helper (id : Int) : Bool := id == 1 || id == 2 || id == 3 || id == 5 || id == 6 || id == 7 || id == 8
theorem ids (id : Int) : id = 1 ∨ id = 2 ∨ id = 3 ∨ id = 5 ∨ id = 6 ∨ id = 7 ∨ id = 8 ∨ ((id == 1) = false ∧ (id == 2) = false ∧ (id == 3) = false ∧ (id == 5) = false ∧ (id == 6) = false ∧ (id == 7) = false ∧ (id == 8) = false) := by
 simp only [beq_eq_false_iff_ne, ne_eq]; omega
def SigAns (id : Int) (w : World) (e : Ending) (w' : World) : Prop :=
 ∃ v, e = .returned (.tuple #[.agg #[v, .int .u8 (tells id), .bool (draws id), .int .u64 (most id)], .bool (helper id)]) ∧ Sl w' .u8 v (tolds id) ∧ Ext w w'
theorem World.alloc_top {w : World} (c : Array Value) (t : TypeId) (b : Nat) (hb : b = w.heap.size) : (w.alloc (.cells c t)).drew.heap[b]? = some (.cells c t (0, 0)) := by
 subst hb; exact heap_alloc_new w _
def SigOwn (id : Int) (w : World) (e : Ending) (w' : World) : Prop :=
 ∃ v, e = .returned (.tuple #[.agg #[v, .int .u8 (tells id), .bool (draws id), .int .u64 (most id)], .bool (helper id)]) ∧ Own w' w.heap.size 5 1 (fun x => [Value.int .u8 x]) v (tolds id) ∧ Ext w w'
theorem SigOwn.ans {id : Int} {w w' : World} {e : Ending} (h : SigOwn id w e w') : SigAns id w e w' := by
 obtain ⟨v, h1, h2, h3⟩ := h
 exact ⟨v, h1, h2.rd (enc_int _), h3⟩
theorem own_top {w : World} {k : IntKind} {base b : Nat} {t : TypeId} (xs : List Int) (hb : b = w.heap.size) (hle : base ≤ w.heap.size) (hm : xs.length ≤ maxLen := by decide) :
  Own (w.alloc (.cells (xs.map (Value.int k)).toArray t)) base t 1 (fun x => [Value.int k x]) (.slice (some ⟨b, 0, none⟩) xs.length xs.length) xs := by
 have h := Own.lit (enc_int k) (w := w) (base := base) (e := t) xs hb rfl hle hm
 rwa [flat1] at h
set_option maxHeartbeats 1000000 in
theorem psig_own (id : Int) (w : World) : Calls Tryz.prog 113 #[.int .i64 id] w (SigOwn id w) := by
 rcases ids id with h | h | h | h | h | h | h | ⟨h1, h2, h3, h5, h6, h7, h8⟩
 all_goals
  try subst h
  go_enter Tryz.func113, Tryz.ntmps113
  go_wp2
  go_returns
 ·exact ⟨_, rfl, own_top [1, 2] (by simp) (by simp <;> omega), by go_grown⟩
 ·refine ⟨_, rfl, ?_, by go_grown⟩
  have hge : 4 ≤ (Question.appendCap 4 2 5).cut (w.tape w.drawn (Question.appendCap 4 2 5)) := Nat.le_add_right _ _
  have hle : (Question.appendCap 4 2 5).cut (w.tape w.drawn (Question.appendCap 4 2 5)) ≤ maxLen := cut_le 4 2 _ _ (by decide)
  refine ⟨by simp [tolds], .inr ⟨_, _, _, rfl, ?_, World.alloc_top _ _ _ (by simp), hge, hle, ?_, ?_⟩⟩
  ·omega
  ·simp [Builtin.zeroCells]; omega
  ·simp [tolds]
 ·exact ⟨_, rfl, own_top [1, 2] (by simp) (by simp <;> omega), by go_grown⟩
 ·exact ⟨_, rfl, Own.nil _ _ _ _ _, by go_grown⟩
 ·exact ⟨_, rfl, own_top [4, 4] (by simp) (by simp <;> omega), by go_grown⟩
 ·exact ⟨_, rfl, Own.nil _ _ _ _ _, by go_grown⟩
 ·exact ⟨_, rfl, Own.nil _ _ _ _ _, by go_grown⟩
 ·simp only [beq_eq_false_iff_ne, ne_eq] at h1 h2 h3 h5 h6 h7 h8
  exact ⟨.slice none 0 0, by simp [tells, draws, most, helper, *], by simp only [tolds]; rw [if_neg (by omega), if_neg (by omega), if_neg (by omega)]; exact Own.nil _ _ _ _ _, by go_grown⟩
theorem psig (id : Int) (w : World) : Calls Tryz.prog 113 #[.int .i64 id] w (SigAns id w) := (psig_own id w).mono fun _ _ h => h.ans
theorem el_u64 : El Tryz.prog 26 29 1 8 (.int .u64 0) := ⟨Tryz.underlying26, by kernel_rfl, rfl, by decide, fun _ => by kernel_rfl⟩
set_option maxHeartbeats 400000 in
theorem clone_u64 (v : Value) (xs : List Int) (w : World) (h : Sl w .u64 v xs) (hb : xs.length * 8 ≤ 140737488355328) :
  Calls Tryz.prog 51 #[v] w (CloneAns 29 1 (fun x => [Value.int .u64 x]) xs w) := by
 obtain ⟨a, n, c, rfl, hn, hN⟩ := h.val
 have hnil := fun W => h.run_nil (P := Tryz.prog) Tryz.underlying26 W
 have HS := η h
 cases a with
 | none =>
  obtain ⟨rfl, rfl, rfl⟩ := h.of_isNil
  clear h
  go_enter Tryz.func51, Tryz.ntmps51
  go_wp2
  go_ret
  exact ⟨_, rfl, Own.nil _ _ _ _ _, Below.refl _ _⟩
 | some a =>
  clear h
  simp only [isNilV] at hnil
  go_enter Tryz.func51, Tryz.ntmps51
  go_wp2_with (at_builtin; refine app_own el_u64 (enc_int .u64) rfl _ _ rfl rfl (Own.made w w.heap.size _ _ _ rfl (Nat.le_refl _)) rfl (ys := xs) ?q1 ?q2 ?q3 ?q4)
  case q1 => exact HS.out.ext (by go_grown)
  case q2 => exact ⟨by simpa using hb, by simp; omega⟩
  case q3 => simp
  intro v' w1 hown hgrow hbel
  go_wp2
  go_ret
  exact ⟨v', rfl, hown, hbel _ _ (by go_grown) (Nat.le_refl _)⟩
end Go.Proofs.YtppefchjoodgnaaGreat
