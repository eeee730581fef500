/- graph: comes, Loops. -/
import Derived.Test.YtkogkcjiachphaaGrP
import Derived.Test.YtkogkcjiachphaaApp
namespace Go.Proofs.Ytkogkcjiachphaa
open Go.RowKit
set_option linter.unusedVariables false
set_option linter.unusedSimpArgs false

def loopC (f : Nat → List Int → Bool × List Int) : List Int → List Int → Bool × List Int
  | [], wh => (false, wh)
  | t :: ts, wh =>
    if wh.getD t.toNat 2 = 1 then (true, wh)
    else if wh.getD t.toNat 2 = 0 then (if (f t.toNat wh).1 then (true, (f t.toNat wh).2) else loopC f ts (f t.toNat wh).2)
    else loopC f ts wh
def aheadAt (L : List Ins) (k : Nat) : List Int := match L[k]? with | some x => aheadL L x k | none => []
def comesF (L : List Ins) : Nat → Nat → List Int → Bool × List Int
  | 0, _, wh => (false, wh)
  | m + 1, k, wh => if (loopC (comesF L m) (aheadAt L k) (wh.set k 1)).1 then (true, (loopC (comesF L m) (aheadAt L k) (wh.set k 1)).2) else (false, ((loopC (comesF L m) (aheadAt L k) (wh.set k 1)).2).set k 2)
/-- How many places have not been come to. -/
def fresh : List Int → Nat
  | [] => 0
  | x :: xs => (if x = 0 then 1 else 0) + fresh xs
theorem fresh_set : ∀ (wh : List Int) (k : Nat) (v : Int), v ≠ 0 → fresh (wh.set k v) ≤ fresh wh ∧ (wh[k]? = some 0 → fresh (wh.set k v) + 1 = fresh wh)
  | [], k, v, hv => by simp [fresh]
  | x :: xs, 0, v, hv => by
    simp only [List.set_cons_zero, fresh, if_neg hv, List.getElem?_cons_zero, Option.some.injEq]
    refine ⟨by omega, fun h => by rw [if_pos h]; omega⟩
  | x :: xs, k + 1, v, hv => by
    have h := fresh_set xs k v hv
    simp only [List.set_cons_succ, fresh, List.getElem?_cons_succ]
    exact ⟨by omega, fun h1 => by have := h.2 h1; omega⟩
theorem loopC_fresh {f : Nat → List Int → Bool × List Int} (hf : ∀ k wh, fresh (f k wh).2 ≤ fresh wh ∧ (f k wh).2.length = wh.length) : ∀ (ts wh : List Int), fresh (loopC f ts wh).2 ≤ fresh wh ∧ (loopC f ts wh).2.length = wh.length
  | [], wh => ⟨Nat.le_refl _, rfl⟩
  | t :: ts, wh => by
    unfold loopC
    split
    · exact ⟨Nat.le_refl _, rfl⟩
    · split
      · split
        · exact hf _ _
        · have h1 := hf t.toNat wh
          have h2 := loopC_fresh hf ts (f t.toNat wh).2
          exact ⟨Nat.le_trans h2.1 h1.1, h2.2.trans h1.2⟩
      · exact loopC_fresh hf ts wh
theorem comesF_fresh (L : List Ins) : ∀ (m k : Nat) (wh : List Int), fresh (comesF L m k wh).2 ≤ fresh wh ∧ (comesF L m k wh).2.length = wh.length
  | 0, k, wh => ⟨Nat.le_refl _, rfl⟩
  | m + 1, k, wh => by
    have h := loopC_fresh (comesF_fresh L m) (aheadAt L k) (wh.set k 1)
    have h1 := (fresh_set wh k 1 (by decide)).1
    unfold comesF
    split
    · exact ⟨Nat.le_trans h.1 h1, by simpa using h.2⟩
    · have h2 := (fresh_set (loopC (comesF L m) (aheadAt L k) (wh.set k 1)).2 k 2 (by decide)).1
      exact ⟨Nat.le_trans h2 (Nat.le_trans h.1 h1), by simpa using h.2⟩
def whO (wh : List Int) : Obj := .cells (wh.map (Value.int .i64)).toArray 3 (0, 0)
theorem wh_cell {w : World} {g : Nat} {wh : List Int} (h : w.heap[g]? = some (whO wh)) {k : Nat} {u : Int} (hk : wh[k]? = some u) : w.cell? ⟨g, k, none⟩ = some (.int .i64 u) := by
  rw [cell_obj h]
  simp [hk]
theorem wh_set {w : World} {g : Nat} {wh : List Int} (h : w.heap[g]? = some (whO wh)) (k : Nat) (u : Int) : (w.setCell ⟨g, k, none⟩ (.int .i64 u)).heap[g]? = some (whO (wh.set k u)) := by
  rw [heap_setCell_same w g k _ _ _ h, whO]
  congr 2
  apply Array.toList_inj.1
  simp [List.map_set]
/-- Ints at block g, of this length: an index into them. -/
theorem wh_rd {w : World} {g : Nat} {wh : List Int} (h : w.heap[g]? = some (whO wh)) (hl : wh.length ≤ 1000000) : Rd w 1 encI (.slice (some ⟨g, 0, none⟩) wh.length wh.length) wh :=
  (own_obj (base := 0) (n := wh.length) (e := 3) (enc_int .i64) (by rw [h, whO, flat1]) (Nat.zero_le _) rfl (by simp [maxLen]; omega)).rd (enc_int _)
def ComesA (g : Nat) (r : Bool × List Int) (w : World) (e : Ending) (w' : World) : Prop := e = .returned (.bool r.1) ∧ w'.heap[g]? = some (whO r.2) ∧ Keep [g] w w'
set_option maxRecDepth 20000 in
set_option maxHeartbeats 8000000 in
theorem p_comes (a : Option Addr) (n c : Nat) (L : List Ins) (g : Nat) (hp : Hid (ProgF L)) (hok : InsOk L) (hN : Hid (n = L.length)) : ∀ (m k : Nat) (wh : List Int) (w : World), w.heap[g]? = some (whO wh) → (∀ W, Keep [g] w W → Rd W 5 Ins.enc (.slice a n c) L) →
    wh.length = n → wh[k]? = some 0 → (stF false L)[k]? = some true → fresh wh ≤ m → Calls Try.prog 69 #[.slice a n c, .int .i64 k, .slice (some ⟨g, 0, none⟩) n n] w (ComesA g (comesF L m k wh) w) := by
  intro m
  have HOK := Lib.hid hok
  clear hok
  have hn512 : n ≤ 512 := by rw [hN.out]; exact hp.out.len.2
  have HL : Hid (L.length ≤ 1000000) := Lib.hid (by have := hp.out.len.2; omega)
  induction m with
  | zero =>
    intro k wh w hg hrd hlen hk0 hs hf
    have := (fresh_set wh k 1 (by decide)).2 hk0
    omega
  | succ m ih =>
    intro k wh w hg hrd hlen hk0 hs hf
    have HIH := Lib.hid ih
    have hkn : k < n := by rw [← hlen]; exact (List.getElem?_eq_some_iff.1 hk0).1
    obtain ⟨x, hx⟩ := at_of_lt (xs := L) (k := k) (by rw [← hN.out]; exact hkn)
    have hfr := (fresh_set wh k 1 (by decide)).2 hk0
    have HFR : Hid (fresh (wh.set k 1) ≤ m) := Lib.hid (by omega)
    have hrw := wh_rd hg (by omega)
    rw [hlen] at hrw
    have i0 := fun W => hrw.run_at (P := Try.prog) el_int.under el_int.size .i64 (k : Int) (by omega) (by omega) W
    have hcell := wh_cell hg hk0
    have hfz := frozen_obj (i := k) hg
    have helt : elt (.slice (some ⟨g, 0, none⟩) n n) k = ⟨g, k, none⟩ := by simp [elt, Addr.add_lit]
    simp only [Nat.mul_one, Int.toNat_natCast, helt] at i0
    have hglt := heap_lt hg
    have HG1 := Lib.hid (wh_set hg k 1)
    have HK1 : Hid (Keep [g] w (w.setCell ⟨g, k, none⟩ (.int .i64 1))) := Lib.hid ((Keep.rfl' _ _).setCell (by simp) _)
    have HRD := Lib.hid hrd
    have HX := Lib.hid hx
    have HS := Lib.hid hs
    have HLEN := Lib.hid hlen
    have hA : aheadAt L k = aheadL L x k := by unfold aheadAt; rw [hx]
    have HA := Lib.hid hA
    obtain ⟨r, hr⟩ : ∃ r, loopC (comesF L m) (aheadAt L k) (wh.set k 1) = r := ⟨_, rfl⟩
    have hcm : comesF L (m + 1) k wh = if r.1 then (true, r.2) else (false, r.2.set k 2) := by unfold comesF; rw [hr]
    rw [hcm]
    obtain ⟨RR, hRR⟩ : ∃ RR, RR = if r.1 then (true, r.2) else (false, r.2.set k 2) := ⟨_, rfl⟩
    rw [← hRR]
    have HQQ := Lib.hid hRR
    clear hRR
    have HRR := Lib.hid hr
    have HRL : Hid (r.2.length = n) := Lib.hid (by rw [← hr, (loopC_fresh (comesF_fresh L m) _ _).2]; simpa using hlen)
    clear hg hrd hlen hk0 hs hf ih hx hfr hrw hA hr hcm
    go_enter Try.func69, Try.ntmps69
    go_wp2_with fail
    refine (p_ahead _ L k x _ (HRD.out _ HK1.out) HL.out HX.out (HOK.out.at HX.out)).mono ?_
    rintro e w6 ⟨v6, rfl, hO6, hE6⟩
    obtain ⟨sa, sn, sc, hsv, hsn, hSN⟩ := (hO6.rd (enc_int .i64)).val
    subst hsv
    have HO6 := Lib.hid hO6
    have HE6 := Lib.hid hE6
    clear hO6 hE6 i0 hcell hfz
    have hsz : g < w6.heap.size := by have := HE6.out.size; simp at this; omega
    generalize hF : w.setCell ⟨g, k, none⟩ (.int .i64 1) = wS at HG1 HK1 HO6 HE6 ⊢
    clear hF
    go_wp2_with fail
    go_loopw [16] (fun q wr => ∃ (j : Nat) (whj : List Int), j ≤ sn ∧ q = .int .i64 j ∧ Hid (wr.heap[g]? = some (whO whj) ∧ Keep [g] w6 wr ∧ whj.length = n ∧ fresh whj ≤ m ∧ r = loopC (comesF L m) ((aheadL L x k).drop j) whj)) (fun q _ => sn - (intOf q).toNat)
    case atStart => exact ⟨0, wh.set k 1, Nat.zero_le _, rfl, Lib.hid ⟨HE6.out.obj HG1.out, Keep.rfl' _ _, by simpa using HLEN.out, HFR.out, by rw [← HRR.out, HA.out]; rfl⟩⟩
    case round =>
      obtain ⟨j, whj, hj, rfl, HI⟩ := hrel
      have HKW : Hid (Keep [g] w wr) := Lib.hid ((HK1.out.trans (Keep.of_ext HE6.out)).trans HI.out.2.1)
      have hgs : g < wS.heap.size := heap_lt HG1.out
      have HO : Hid (Own wr wS.heap.size 3 1 encI (.slice sa sn sc) (aheadL L x k)) := Lib.hid (HO6.out.keep HI.out.2.1 (fun i hi hm => by
        have := (HO6.out.lt hi).1
        simp at hm
        omega))
      by_cases hlt : (j : Int) < sn
      · obtain ⟨t, ht⟩ := at_of_lt (xs := aheadL L x k) (k := j) (by have := hSN.out; omega)
        obtain ⟨ht0, ht1, ht2⟩ := ahead_start hp.out HS.out HX.out (List.mem_of_getElem? ht)
        obtain ⟨tn, rfl⟩ : ∃ tn : Nat, t = tn := ⟨t.toNat, by omega⟩
        have htn : (tn : Int) < n := by rw [hN.out]; exact ht1
        obtain ⟨u, hu⟩ := at_of_lt (xs := whj) (k := tn) (by have := HI.out.2.2.1; omega)
        have hrs := HO.out.rd (enc_int .i64)
        have ix := fun W => hrs.run_at (P := Try.prog) el_int.under el_int.size .i64 (j : Int) (by omega) (by omega) W
        have cx := hrs.cell ht (j := 0) rfl
        have hrw := wh_rd HI.out.1 (by have := HI.out.2.2.1; omega)
        rw [HI.out.2.2.1] at hrw
        have iy := fun W => hrw.run_at (P := Try.prog) el_int.under el_int.size .i64 (tn : Int) (by omega) (by omega) W
        have helt2 : elt (.slice (some ⟨g, 0, none⟩) n n) tn = ⟨g, tn, none⟩ := by simp [elt, Addr.add_lit]
        simp only [Nat.mul_one, Nat.add_zero, Int.toNat_natCast, helt2] at ix iy cx
        have cy := wh_cell HI.out.1 hu
        have hgd : whj.getD tn 2 = u := by rw [List.getD_eq_getElem?_getD, hu]; rfl
        have hst : r = if u = 1 then (true, whj) else if u = 0 then (if (comesF L m tn whj).1 then (true, (comesF L m tn whj).2) else loopC (comesF L m) ((aheadL L x k).drop (j + 1)) (comesF L m tn whj).2) else loopC (comesF L m) ((aheadL L x k).drop (j + 1)) whj := by
          rw [HI.out.2.2.2.2, drop_cons ht, loopC, Int.toNat_natCast, hgd]
        have HST := Lib.hid hst
        have HU := Lib.hid hu
        have HT2 : Hid ((stF false L)[tn]? = some true) := Lib.hid (by simpa using ht2)
        clear hst hgd hu hrw hrs ht ht0 ht1 ht2
        by_cases h1 : u = 1
        · subst h1
          have hr2 := HST.out
          rw [if_pos rfl] at hr2
          have HR2 := Lib.hid hr2
          clear hr2
          go_wp2_with fail
          go_returns
          exact ⟨by rw [HQQ.out, HR2.out]; rfl, by rw [HQQ.out, HR2.out]; exact HI.out.1, HKW.out⟩
        · by_cases h0 : u = 0
          · subst h0
            have hr2 := HST.out
            rw [if_neg (by decide), if_pos rfl] at hr2
            have HR2 := Lib.hid hr2
            clear hr2
            go_wp2_with fail
            refine (HIH.out tn whj _ HI.out.1 (fun W hW => HRD.out W (HKW.out.trans hW)) HI.out.2.2.1 HU.out HT2.out HI.out.2.2.2.1).mono ?_
            have hfr2 := comesF_fresh L m tn whj
            obtain ⟨rb, hrb⟩ : ∃ rb, comesF L m tn whj = rb := ⟨_, rfl⟩
            rw [hrb] at hfr2 ⊢
            have HRB := Lib.hid hrb
            have HF2 := Lib.hid hfr2
            clear hrb hfr2
            obtain ⟨b, wh2⟩ := rb
            rintro e w8 ⟨rfl, hg8, hk8⟩
            have HG8 := Lib.hid hg8
            have HK8 := Lib.hid hk8
            clear hg8 hk8
            cases b with
            | true =>
              go_wp2_with fail
              go_returns
              exact ⟨by rw [HQQ.out, HR2.out, HRB.out]; rfl, by rw [HQQ.out, HR2.out, HRB.out]; exact HG8.out, HKW.out.trans HK8.out⟩
            | false =>
              go_wp2_with fail
              go_roundw
              case rel => exact ⟨j + 1, wh2, by omega, by go_num, Lib.hid ⟨HG8.out, HI.out.2.1.trans HK8.out, by have := HF2.out.2; have := HI.out.2.2.1; simp at *; omega, by have := HF2.out.1; have := HI.out.2.2.2.1; simp at *; omega, by rw [HR2.out, HRB.out]; rfl⟩⟩
              case measure => simp [intOf]; omega
          · have b1 : (u == 1) = false := by simpa using h1
            have b0 : (u == 0) = false := by simpa using h0
            have hr2 := HST.out
            rw [if_neg h1, if_neg h0] at hr2
            have HR2 := Lib.hid hr2
            clear hr2 h1 h0
            go_wp2_with fail
            go_roundw
            case rel => exact ⟨j + 1, whj, by omega, by go_num, Lib.hid ⟨HI.out.1, HI.out.2.1, HI.out.2.2.1, HI.out.2.2.2.1, HR2.out⟩⟩
            case measure => simp [intOf]; omega
      · have hend : r = (false, whj) := by
          rw [HI.out.2.2.2.2, List.drop_eq_nil_of_le (by have := hSN.out; omega)]
          rfl
        have HEND := Lib.hid hend
        obtain ⟨u, hu⟩ := at_of_lt (xs := whj) (k := k) (by have := HI.out.2.2.1; omega)
        have hrw := wh_rd HI.out.1 (by have := HI.out.2.2.1; omega)
        rw [HI.out.2.2.1] at hrw
        have iy := fun W => hrw.run_at (P := Try.prog) el_int.under el_int.size .i64 (k : Int) (by omega) (by omega) W
        simp only [Nat.mul_one, Nat.add_zero, Int.toNat_natCast, helt] at iy
        have cy := wh_cell HI.out.1 hu
        have cf := frozen_obj (i := k) HI.out.1
        clear hend hu hrw
        go_wp2_with fail
        go_returns
        exact ⟨by rw [HQQ.out, HEND.out]; rfl, by rw [HQQ.out, HEND.out]; exact wh_set HI.out.1 k 2, HKW.out.setCell (by simp) _⟩
theorem fresh_zeros : ∀ n, fresh (List.replicate n 0) = n
  | 0 => rfl
  | n + 1 => by rw [List.replicate_succ, fresh, fresh_zeros n]; simp; omega
theorem run_make_int (n : Nat) (hn : n ≤ 1000000) (u : World) : (Instr.makeSlice 25 (.int .i64 (n : Int)) (.int .i64 (n : Int))).run Try.prog u = .ok (.slice (some ⟨u.heap.size, 0, none⟩) n n) (u.alloc (.cells (madeCells #[.int .i64 0] n) 3)) := by
  obtain ⟨i0, hi0, hz0, hz1, hz2⟩ := info_parts el_int.info
  have h := run_make (P := Try.prog) u 25 3 i0 (.int .i64 0) el_int.under hi0 hz0 .i64 .i64 (n : Int) (n : Int) (by omega) (Int.le_refl _) (by rw [hz2]; omega) (by omega)
  simpa [hz1, Value.cells] using h
theorem whO_zeros (n : Nat) : (.cells (madeCells #[.int .i64 0] n) 3 : Obj) = whO (List.replicate n 0) := by
  unfold whO
  congr 1
  apply Array.toList_inj.1
  rw [toList_madeCells_one, List.map_replicate]
/-- Does a program come back? -/
def loopsL (L : List Ins) : Bool := progS L && (comesF L L.length 0 (List.replicate L.length 0)).1
set_option maxRecDepth 20000 in
set_option maxHeartbeats 2000000 in
theorem p_Loops (v : Value) (L : List Ins) (w : World) (h : Rd w 5 Ins.enc v L) (hl : L.length ≤ 1000000) (hok : InsOk L) : Calls Try.prog 26 #[v] w fun e w' => e = .returned (.bool (loopsL L)) ∧ Ext w w' := by
  obtain ⟨a, n, c, rfl, hn, hN⟩ := h.val
  have hk2 : n ≤ 1000000 := by rw [hN.out]; exact hl
  have HD := Lib.hid h
  have HOK := Lib.hid hok
  have HL := Lib.hid hl
  have HN := Lib.hid hN.out
  have hmk := run_make_int n hk2
  clear h hok hl
  obtain ⟨R, hR⟩ : ∃ R, R = loopsL L := ⟨_, rfl⟩
  rw [← hR]
  unfold loopsL at hR
  rw [← HN.out] at hR
  cases hb : progS L with
  | false =>
    rw [hb] at hR
    have HR := Lib.hid hR
    have HB := Lib.hid hb
    clear hb hR
    go_enter Try.func26, Try.ntmps26
    go_wp2_with fail
    refine (p_right _ L _ HD.out HL.out HOK.out).mono ?_
    rw [HB.out]
    rintro e w5 ⟨rfl, hE⟩
    have HE := Lib.hid hE
    clear hE
    go_wp2_with fail
    go_returns
    exact ⟨by rw [HR.out]; rfl, HE.out⟩
  | true =>
    have HP := Lib.hid (ProgF.of hb)
    rw [hb] at hR
    have HR := Lib.hid hR
    have HB := Lib.hid hb
    clear hb hR
    go_enter Try.func26, Try.ntmps26
    go_wp2_with fail
    refine (p_right _ L _ HD.out HL.out HOK.out).mono ?_
    rw [HB.out]
    rintro e w5 ⟨rfl, hE⟩
    have HE := Lib.hid hE
    clear hE
    go_wp2_with fail
    refine (p_comes a n c L w5.heap.size HP HOK.out HN n 0 (List.replicate n 0) _ (by rw [← whO_zeros]; exact heap_alloc_new _ _) (fun W hW => HD.out.ext (hW.below (HE.out.alloc' _) (HE.out.alloc' _).size (by simpa using HE.out.size))) (by simp) (by rw [List.getElem?_replicate, if_pos (by have := HP.out.len.1; have := HN.out; omega)]) (st_head rfl (by have := HP.out.len.1; omega)) (by rw [fresh_zeros]; exact Nat.le_refl _)).mono ?_
    rintro e w6 ⟨rfl, hg, hk⟩
    have HE6 : Hid (Ext w w6) := Lib.hid (hk.below (HE.out.alloc' _) (HE.out.alloc' _).size (by simpa using HE.out.size))
    clear hg hk
    go_wp2_with fail
    go_returns
    exact ⟨by rw [HR.out]; rfl, HE6.out⟩
end Go.Proofs.Ytkogkcjiachphaa
