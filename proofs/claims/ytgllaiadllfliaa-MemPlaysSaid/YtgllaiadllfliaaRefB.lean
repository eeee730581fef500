/- The document's memory: Area, Read, Load. -/
import Derived.Test.YtgllaiadllfliaaRef
namespace Go.Proofs.Ytgllaiadllfliaa
open Go.RowKit
set_option linter.unusedVariables false
set_option linter.unusedSimpArgs false

/-- What it says of the pointer and the list: for the walk. -/
theorem RefAt.open {w : World} {base b : Nat} {lv : Value} {L : List RR} (h : RefAt w base b lv L) : ∃ a n c, lv = .slice a n c ∧ n ≤ 9223372036854775807 ∧ Hid (n = L.length) ∧ Hid (Rd w 4 RR.enc (.slice a n c) L) ∧ w.cell? ⟨b, 0, none⟩ = some (.slice a n c) := by
  have R := h.list.rd enc_rr
  obtain ⟨a, n, c, rfl, hn, hN⟩ := R.val
  exact ⟨a, n, c, rfl, hn, hN, Lib.hid R, cell_obj h.head⟩
theorem RefAt.u8 {w : World} {base b : Nat} {lv : Value} {L : List RR} (h : RefAt w base b lv L) : ∀ q ∈ viewR L, ∀ x ∈ q.2.bytes, 0 ≤ x ∧ x ≤ 255 := by
  intro q hq x hx
  obtain ⟨y, hy, rfl⟩ := List.mem_map.1 hq
  exact (h.ok y hy).2.2.1 x hx

/-- What asking for a whole area tells: a slice that reads so. -/
def RAreaAns (M : Areas) (n : Int) (w : World) (e : Ending) (w' : World) : Prop :=
  ∃ v, e = .returned (.tuple #[v, .bool (marea M n).2]) ∧ Rd w 1 encB v (marea M n).1 ∧ w' = w
set_option maxHeartbeats 400000 in
theorem ref_area (base b : Nat) (lv : Value) (L : List RR) (k : Int) (w : World) (h : RefAt w base b lv L) :
    Calls Try.prog 23 #[.pointer (some ⟨b, 0, none⟩), .int .i64 k] w (RAreaAns (viewR L) k w) := by
  obtain ⟨a, n, c, rfl, hn, hN, RL, hb⟩ := h.open
  have HR := Lib.hid h
  clear h
  go_enter Try.func23, Try.ntmps23
  go_wp2_with fail
  refine (ref_find base b _ L k _ HR.out).mono ?_
  rintro e w1 ⟨rfl, ⟨hf, rfl⟩ | ⟨i, x, hx, hxn, hf, rfl⟩⟩
  · have HF := Lib.hid hf
    clear hf
    go_wp2_with fail
    go_returns
    exact ⟨.slice none 0 0, by simp [marea, HF.out], by simp only [marea, HF.out]; exact Rd.nil _ _ _, rfl⟩
  · have c1 := (HR.out.cells hx).2.1
    have hlt : i < n := by rw [hN.out]; exact (List.getElem?_eq_some_iff.1 hx).1
    have ix := fun W => RL.out.run_at (P := Try.prog) el_area.under el_area.size .i64 (i : Int) (by omega) (by omega) W
    simp only [Int.toNat_natCast] at ix
    have HX := Lib.hid hx
    have HF := Lib.hid hf
    rw [RR.bv] at c1
    clear hx hxn hf
    have hi0 : decide ((i : Int) < 0) = false := by simp
    go_wp2_with fail
    go_returns
    refine ⟨x.bv, by simp [marea, HF.out, RR.bv], by simp only [marea, HF.out]; exact (HR.out.bytes x (List.mem_of_getElem? HX.out)).rd (enc_int _), rfl⟩

theorem put_cut {P : List Bool} {o n : Nat} (h : ∀ j, j < n → P[o + j]? = some true) : (cutL P o n).contains false = false := by
  rw [Bool.eq_false_iff]
  intro hc
  obtain ⟨i, hi⟩ := List.getElem?_of_mem (List.contains_iff_mem.1 hc)
  rw [cutL_at] at hi
  by_cases hin : i < n
  · rw [if_pos hin, h i hin] at hi; simp at hi
  · rw [if_neg hin] at hi; cases hi
theorem put_cut' {P : List Bool} {o n j : Nat} (hj : j < n) (h : P[o + j]? = some false) : (cutL P o n).contains false = true :=
  List.contains_iff_mem.2 (List.mem_of_getElem? (i := j) (by rw [cutL_at, if_pos hj]; exact h))
set_option maxHeartbeats 1000000 in
theorem ref_read (base b : Nat) (lv : Value) (L : List RR) (p s : Int) (w : World) (h : RefAt w base b lv L) (hp : 0 ≤ p) (H : Hid (p ≤ 18446744073709551615)) :
    Calls Try.prog 20 #[.pointer (some ⟨b, 0, none⟩), .int .u64 p, .int .i64 s] w (ReadAns (viewR L) p s w) := by
  obtain ⟨a, n, c, rfl, hn, hN, RL, hb⟩ := h.open
  have HR := Lib.hid h
  clear h
  by_cases hbad : s < 0 ∨ 1024 < s
  · have e1 := read_bad (M := viewR L) (p := p) hbad
    have E1 := Lib.hid e1
    clear e1
    rcases hbad with hs | hs
    all_goals
      go_enter Try.func20, Try.ntmps20
      go_wp2_with fail
      go_returns
      exact ⟨.slice none 0 0, by rw [E1.out]; rfl, by rw [E1.out]; exact Own.nil _ _ _ _ _, by (repeat (first | exact Ext.rfl' _ | assumption | refine Ext.drewN' ?_ _ | refine Ext.drew' ?_ | refine Ext.alloc' ?_ _ | refine Ext.trans' ?_ (by assumption)))⟩
  · have HB := Lib.hid hbad
    have hs0 : 0 ≤ s := by omega
    have hs1 : s ≤ 1024 := by omega
    clear hbad
    go_enter Try.func20, Try.ntmps20
    go_wp2_with fail
    refine (ref_where base b _ L p s _ HR.out hp hs0 hs1 H).mono ?_
    rintro e w1 ⟨rfl, ⟨hf, rfl⟩ | ⟨i, x, hx, hxn, hf, rfl⟩⟩
    · have HF := Lib.hid hf
      clear hf
      go_wp2_with fail
      go_returns
      exact ⟨.slice none 0 0, by rw [read_none HB.out HF.out]; rfl, by rw [read_none HB.out HF.out]; exact Own.nil _ _ _ _ _, by (repeat (first | exact Ext.rfl' _ | assumption | refine Ext.drewN' ?_ _ | refine Ext.drew' ?_ | refine Ext.alloc' ?_ _ | refine Ext.trans' ?_ (by assumption)))⟩
    · obtain ⟨c0, c1, c2, c3⟩ := HR.out.cells hx
      have hlt : i < n := by rw [hN.out]; exact (List.getElem?_eq_some_iff.1 hx).1
      have ix := fun W => RL.out.run_at (P := Try.prog) el_area.under el_area.size .i64 (i : Int) (by omega) (by omega) W
      simp only [Int.toNat_natCast] at ix
      obtain ⟨hle, hoo⟩ := find_le hp hs0 hf
      have hm := List.mem_of_getElem? hx
      obtain ⟨hpl, hsm, hu8, _⟩ := HR.out.ok x hm
      have RB := Lib.hid ((HR.out.bytes x hm).rd (enc_int _))
      have RP := Lib.hid ((HR.out.put x hm).rd enc_p)
      have HF := Lib.hid hf
      have HP := Lib.hid hpl
      rw [RR.bv] at c1 RB
      rw [RR.pv] at c2 RP
      rw [hpl] at c2 RP
      clear hx hxn hf hm hpl c0 c3
      obtain ⟨o, ho⟩ : ∃ o : Nat, (p % 4294967296).toNat = o := ⟨_, rfl⟩
      rw [ho] at hle hoo HF
      rw [← hoo]
      clear ho hoo
      have hi0 : decide ((i : Int) < 0) = false := by simp
      go_wp2_with fail
      go_loopw [10] (fun t wr => ∃ j : Nat, j ≤ s.toNat ∧ t = .int .i64 ((o : Int) + j) ∧ wr = w1 ∧ Hid (∀ q, q < j → x.A.put[o + q]? = some true)) (fun t _ => o + s.toNat - (intOf t).toNat)
      case atStart => exact ⟨0, Nat.zero_le _, by simp, rfl, Lib.hid fun q hq => absurd hq (Nat.not_lt_zero _)⟩
      case round =>
        obtain ⟨j, hj, rfl, rfl, HJ⟩ := hrel
        by_cases hlt' : (j : Int) < s
        · obtain ⟨y, hy⟩ := at_of_lt (xs := x.A.put) (k := o + j) (by have := HP.out; omega)
          have iy := fun W => RP.out.run_at (P := Try.prog) el_bool.under el_bool.size .i64 ((o : Int) + j) (by omega) (by omega) W
          have cy := RP.out.cell hy (j := 0) rfl
          simp only [Nat.mul_one, Nat.add_zero, show ((o : Int) + j).toNat = o + j from by omega] at iy cy
          have HY := Lib.hid hy
          clear hy
          cases y with
          | true =>
            go_wp2_with fail
            go_roundw
            case rel =>
              refine ⟨j + 1, by omega, by go_num, trivial, Lib.hid fun q hq => ?_⟩
              rcases Nat.lt_succ_iff_lt_or_eq.1 hq with hq | rfl
              · exact HJ.out q hq
              · exact HY.out
            case measure => simp [intOf]; omega
          | false =>
            have HC := Lib.hid (put_cut' (n := s.toNat) (by omega) HY.out)
            go_wp2_with fail
            go_returns
            exact ⟨.slice none 0 0, by rw [read_blank HB.out HF.out HC.out]; rfl, by rw [read_blank HB.out HF.out HC.out]; exact Own.nil _ _ _ _ _, by (repeat (first | exact Ext.rfl' _ | assumption | refine Ext.drewN' ?_ _ | refine Ext.drew' ?_ | refine Ext.alloc' ?_ _ | refine Ext.trans' ?_ (by assumption)))⟩
        · have hjs : j = s.toNat := by omega
          have hos : (o : Int) + j = (o : Int) + s := by omega
          rw [hos]
          have HJS := Lib.hid hjs
          clear hjs hos hlt' hj
          have HC := Lib.hid (put_cut (n := s.toNat) (by rw [← HJS.out]; exact HJ.out))
          have kb := fun W => RB.out.run_cut_lh (P := Try.prog) el_u8.under el_u8.size .i64 .i64 (o : Int) ((o : Int) + s) (by omega) (by omega) (by omega) W
          have CB := Lib.hid (RB.out.cut (l := o) (m := o + s.toNat) (by omega) hle)
          simp only [Int.toNat_natCast, show ((o : Int) + s).toNat = o + s.toNat from by omega] at kb
          simp only [show o + s.toNat - o = s.toNat from by omega] at CB
          have hxw := (Ext.rfl' wr).alloc' (.cells #[] 5)
          have hb' := hxw.cellOf hb
          have c1' := hxw.cellOf c1
          have hxl : (cutL x.A.bytes o s.toNat).length = s.toNat := cutL_len _ _ _ hle
          have HXL := Lib.hid hxl
          have hd : decide ((o : Int) + s < (o : Int) + s) = false := by simp
          clear hxl
          go_wp2_with (at_builtin; refine app_own el_u8 (enc_int .u8) rfl _ _ rfl rfl (Own.made wr wr.heap.size _ _ _ rfl (Nat.le_refl _)) rfl (ys := cutL x.A.bytes o s.toNat) ?q1 ?q2 ?q3 ?q4)
          case q1 => exact CB.out.ext hxw
          case q2 => exact ⟨by have := HXL.out; simp; omega, by have := HXL.out; simp; omega⟩
          case q3 => simp
          intro v' w2 hown hgrow hbel
          have HO := Lib.hid hown
          clear hown hgrow
          go_wp2_with fail
          go_returns
          exact ⟨v', by rw [read_ok HB.out HF.out HC.out]; rfl, by rw [read_ok HB.out HF.out HC.out]; simpa using HO.out, hbel _ _ hxw (Nat.le_refl _)⟩

theorem pow_le7 : ∀ k : Nat, k ≤ 7 → (256 : Int) ^ k ≤ 72057594037927936 := by decide
def RLoadAns (M : Areas) (p s : Int) (w : World) (e : Ending) (w' : World) : Prop :=
  e = .returned (.tuple #[.int .u64 (mload M p s).1, .int .i64 (mload M p s).2]) ∧ Ext w w'
theorem le_drop {l : List Int} {k : Nat} {x : Int} (hx : l[k]? = some x) : le (l.drop k) = x + 256 * le (l.drop (k + 1)) := by
  have hk := (List.getElem?_eq_some_iff.1 hx).1
  rw [List.drop_eq_getElem_cons hk, le]
  have := (List.getElem?_eq_some_iff.1 hx).2
  rw [this]
theorem mread_err {M : Areas} {p s : Int} (h : (mread M p s).2 ≠ 0) : (mread M p s).1 = [] := by
  revert h
  unfold mread
  split
  · simp
  · split
    · simp
    · split <;> simp
set_option maxHeartbeats 1000000 in
theorem ref_load (base b : Nat) (lv : Value) (L : List RR) (p s : Int) (w : World) (h : RefAt w base b lv L) (hp : 0 ≤ p) (H : Hid (p ≤ 18446744073709551615)) :
    Calls Try.prog 19 #[.pointer (some ⟨b, 0, none⟩), .int .u64 p, .int .i64 s] w (RLoadAns (viewR L) p s w) := by
  have HM := Lib.hid h
  clear h
  cases hz : sized s with
  | false =>
    have HZ := Lib.hid hz
    clear hz
    go_enter Try.func19, Try.ntmps19
    go_wp2_with fail
    refine (ref_fits s _).mono ?_
    rintro e w1 ⟨rfl, rfl⟩
    rw [HZ.out]
    go_wp2_with fail
    go_returns
    exact ⟨by simp [mload, HZ.out], by (repeat (first | exact Ext.rfl' _ | assumption | refine Ext.drewN' ?_ _ | refine Ext.drew' ?_ | refine Ext.alloc' ?_ _ | refine Ext.trans' ?_ (by assumption)))⟩
  | true =>
    have HZ := Lib.hid hz
    clear hz
    go_enter Try.func19, Try.ntmps19
    go_wp2_with fail
    refine (ref_fits s _).mono ?_
    rintro e w1 ⟨rfl, rfl⟩
    rw [HZ.out]
    go_wp2_with fail
    refine (ref_read base b _ L p s _ HM.out hp H).mono ?_
    rintro e w2 ⟨v, rfl, hv, he⟩
    have RV := Lib.hid (hv.rd (enc_int _))
    have HU := Lib.hid (mread_u8 HM.out.u8 p s)
    have HS : Hid (s.toNat ≤ 8) := by
      have := HZ.out
      simp only [sized, Bool.or_eq_true, beq_iff_eq] at this
      show _ ≤ _; omega
    clear hv
    obtain ⟨va, vn, vc, rfl, hvn, hVN⟩ := RV.out.val
    by_cases hne : (mread (viewR L) p s).2 = 0
    case neg =>
      have h1 : ((mread (viewR L) p s).2 != 0) = true := by simpa using hne
      have HE := Lib.hid (mread_err hne)
      clear hne
      go_wp2_with fail
      go_returns
      exact ⟨by simp only [mload, HZ.out, if_true, HE.out]; rfl, by (repeat (first | exact Ext.rfl' _ | assumption | refine Ext.drewN' ?_ _ | refine Ext.drew' ?_ | refine Ext.alloc' ?_ _ | refine Ext.trans' ?_ (by assumption)))⟩
    case pos =>
      have h1 : ((mread (viewR L) p s).2 != 0) = false := by simp [hne]
      have HE := Lib.hid hne
      clear hne
      have hv8 : vn ≤ 8 := by have h1 := HU.out.2; have h2 := HS.out; have h3 := hVN.out; omega
      go_wp2_with fail
      go_loop [11, 10] (fun i n => ∃ k : Nat, k ≤ vn ∧ i = .int .i64 ((k : Int) - 1) ∧ n = .int .u64 (le ((mread (viewR L) p s).1.drop k))) (fun i _ => (intOf i + 1).toNat)
      case atStart => exact ⟨vn, Nat.le_refl _, rfl, by rw [List.drop_of_length_le (by have := hVN.out; omega)]; rfl⟩
      case round =>
        obtain ⟨k, hk, rfl, rfl⟩ := hrel
        cases k with
        | succ k =>
          obtain ⟨x, hx⟩ := at_of_lt (xs := (mread (viewR L) p s).1) (k := k) (by have := hVN.out; omega)
          have ia := fun W => RV.out.run_at (P := Try.prog) el_u8.under el_u8.size .i64 (k : Int) (by omega) (by omega) W
          have ca := RV.out.cell hx (j := 0) rfl
          simp only [Nat.mul_one, Nat.add_zero, Int.toNat_natCast] at ia ca
          have HX := Lib.hid hx
          clear hx
          have hx0 : 0 ≤ x := (HU.out.1 x (List.mem_of_getElem? HX.out)).1
          have hx1 : x ≤ 255 := (HU.out.1 x (List.mem_of_getElem? HX.out)).2
          have hb := le_lt ((mread (viewR L) p s).1.drop (k + 1)) (fun x hx => HU.out.1 x (List.mem_of_mem_drop hx))
          have hb0 : 0 ≤ le ((mread (viewR L) p s).1.drop (k + 1)) := hb.1
          have hb1 : le ((mread (viewR L) p s).1.drop (k + 1)) < 72057594037927936 := by
            refine Int.lt_of_lt_of_le hb.2 ?_
            rw [List.length_drop]
            exact pow_le7 _ (by have := hVN.out; omega)
          have hk1 : ((k + 1 : Nat) : Int) - 1 = k := by omega
          have hkk : decide ((0 : Int) ≤ k) = true := by simp
          rw [hk1]
          clear hb hk1
          obtain ⟨N, hN⟩ : ∃ N, le ((mread (viewR L) p s).1.drop (k + 1)) = N := ⟨_, rfl⟩
          have HN := Lib.hid hN
          rw [hN] at hb0 hb1 ⊢
          clear hN
          go_wp2
          go_round
          case rel => exact ⟨k, by omega, by go_num, by rw [le_drop HX.out, HN.out]; congr 1; omega⟩
          case measure => simp [intOf]
        | zero =>
          go_wp2
          go_returns
          refine ⟨?_, by (repeat (first | exact Ext.rfl' _ | assumption | refine Ext.drewN' ?_ _ | refine Ext.drew' ?_ | refine Ext.alloc' ?_ _ | refine Ext.trans' ?_ (by assumption)))⟩
          simp only [mload, HZ.out, if_true, HE.out]
          rfl
end Go.Proofs.Ytgllaiadllfliaa
