/- MemReads: what its code does. -/
import Derived.Test.YtgllaiadllfliaaMKeeps
namespace Go.Proofs.Ytgllaiadllfliaa
open Go.RowKit
set_option linter.unusedVariables false
set_option linter.unusedSimpArgs false

theorem r_make (x : List Int) (blank : Bool) (h : x.length ≤ 1024) : mmake [] 3 x blank false = ([(3, kA x blank)], 0) := by
  rw [mmake, if_neg (by simp), if_neg (by omega)]; simp [kA, List.map_const']
/-- Storing one byte in an area that may be changed: it stays such an area, as long as it was. -/
structure Fit (L : Nat) (A : Ar) : Prop where
  len : A.bytes.length = L
  put : A.put.length = L
  free : A.fixed = false
  u8 : ∀ b ∈ A.bytes, 0 ≤ b ∧ b ≤ 255
theorem r_store (L : Nat) (hL : L ≤ 1024) (A : Ar) (h : Fit L A) (o : Nat) (ho : o ≤ 255) (n : Int) : ∃ B e, mstore [(3, A)] (mat 3 o) 1 n = ([(3, B)], e) ∧ Fit L B := by
  by_cases hin : o + 1 ≤ A.bytes.length
  · have h1 := h.len
    have h2 := h.put
    refine ⟨A.write o (bytesOf n 1), 0, store_one (k := 1) (by decide) (by decide) (by omega) h.free rfl hin, ⟨?_, ?_, h.free, ?_⟩⟩
    · rw [write_len (by rw [bytesOf_len]; omega)]; exact h.len
    · simp only [Ar.write]; rw [over_len _ _ _ (by rw [List.length_map, bytesOf_len]; omega)]; exact h.put
    · intro b hb
      simp only [Ar.write, over, List.mem_append] at hb
      rcases hb with (hb | hb) | hb
      · exact h.u8 b (List.mem_of_mem_take hb)
      · exact bytesOf_u8 _ _ b hb
      · exact h.u8 b (List.mem_of_mem_drop hb)
  · exact ⟨A, 80, mstore_off (k := 1) (A := A) (by decide) (by decide) (by simp [List.lookup]) rfl (by omega) hin, h⟩
/-- One byte at a place that is there and put; and what that says of many. -/
def okAt (A : Ar) (i : Nat) : Bool := decide (i < A.bytes.length) && A.put[i]? == some true
theorem load_ok {L : Nat} {A : Ar} (h : Fit L A) (hL : L ≤ 1024) (i : Nat) (hi : i < 1000) : ∃ c e, mload [(3, A)] (mat 3 i) 1 = (c, e) ∧ ((e = 0 ∧ okAt A i = true ∧ A.bytes[i]? = some c ∧ 0 ≤ c ∧ c ≤ 255) ∨ ((e == 0) = false ∧ (e != 0) = true ∧ okAt A i = false)) := by
  have h1 := h.len
  have h2 := h.put
  have hl : List.lookup 3 [((3 : Int), A)] = some A := by simp [List.lookup]
  by_cases hin : i + 1 ≤ A.bytes.length
  · have hr := mread_at (o := i) (k := 1) (a := 3) (by decide) (by decide) hl (by omega) hin
    obtain ⟨b, hb⟩ := at_of_lt (xs := A.bytes) (k := i) (by omega)
    obtain ⟨p, hp⟩ := at_of_lt (xs := A.put) (k := i) (by omega)
    have e1 : cutL A.bytes i 1 = [b] := by
      apply List.ext_getElem?
      intro j
      rw [cutL_at]
      cases j with
      | zero => simpa using hb
      | succ j => simp
    have e2 : cutL A.put i 1 = [p] := by
      apply List.ext_getElem?
      intro j
      rw [cutL_at]
      cases j with
      | zero => simpa using hp
      | succ j => simp
    rw [e1, e2] at hr
    cases p with
    | true =>
      have hr' : mread [(3, A)] (mat 3 i) 1 = ([b], 0) := hr
      exact ⟨b, 0, (mload_of rfl hr').trans (by simp [le]), .inl ⟨rfl, by simp [okAt, hp]; omega, hb, h.u8 b (List.mem_of_getElem? hb)⟩⟩
    | false =>
      have hr' : mread [(3, A)] (mat 3 i) 1 = ([], 81) := hr
      exact ⟨_, 81, mload_of rfl hr', .inr ⟨rfl, rfl, by simp [okAt, hp]⟩⟩
  · exact ⟨_, 80, mload_of (s := 1) rfl (mread_off (o := i) (k := 1) (a := 3) (by decide) (by decide) hl (by omega) (by decide) (by omega) hin), .inr ⟨rfl, rfl, by simp [okAt]; omega⟩⟩
/-- Many: there and put, each one, or an error. -/
theorem read_ok' {L : Nat} {A : Ar} (h : Fit L A) (hL : L ≤ 1024) (o n : Nat) (hn : n ≤ 40) (ho : o ≤ 200) : ∃ xs e, mread [(3, A)] (mat 3 o) n = (xs, e) ∧
    ((e = 0 ∧ xs.length = n ∧ o + n ≤ L ∧ (∀ i < n, okAt A (o + i) = true) ∧ ∀ i < n, xs[i]? = A.bytes[o + i]?) ∨ ((e == 0) = false ∧ (e != 0) = true ∧ xs = [] ∧ ((∃ i < n, okAt A (o + i) = false) ∨ (n = 0 ∧ L < o)))) := by
  have h1 := h.len
  have h2 := h.put
  have hl : List.lookup 3 [((3 : Int), A)] = some A := by simp [List.lookup]
  by_cases hin : o + n ≤ A.bytes.length
  · have hr := mread_at (o := o) (k := n) (a := 3) (by decide) (by decide) hl (by omega) hin
    cases hc : (cutL A.put o n).contains false with
    | false =>
      rw [hc] at hr
      refine ⟨_, 0, hr, .inl ⟨rfl, cutL_len _ _ _ hin, by omega, fun i hi => ?_, fun i hi => ?_⟩⟩
      · obtain ⟨p, hp⟩ := at_of_lt (xs := A.put) (k := o + i) (by omega)
        have hm : p ∈ cutL A.put o n := List.mem_of_getElem? (i := i) (by rw [cutL_at, if_pos hi]; exact hp)
        cases p with
        | true => simp [okAt, hp]; omega
        | false => exact absurd hm (by simpa using hc)
      · rw [cutL_at, if_pos hi]
    | true =>
      rw [hc] at hr
      refine ⟨_, 81, hr, .inr ⟨rfl, rfl, rfl, .inl ?_⟩⟩
      obtain ⟨i, hi⟩ := List.getElem?_of_mem (List.contains_iff_mem.1 hc)
      rw [cutL_at] at hi
      by_cases hin : i < n
      · rw [if_pos hin] at hi
        exact ⟨i, hin, by simp [okAt, hi]⟩
      · rw [if_neg hin] at hi; cases hi
  · refine ⟨_, 80, mread_off (o := o) (k := n) (a := 3) (by decide) (by decide) hl (by omega) (by omega) (by omega) hin, .inr ⟨rfl, rfl, rfl, ?_⟩⟩
    by_cases hz : n = 0
    · exact .inr ⟨hz, by omega⟩
    · exact .inl ⟨n - 1, by omega, by simp [okAt]; omega⟩
def LoadIn (W : World) (b : Nat) (M : Areas) (r : Value) (w : World) (e : Ending) (w' : World) : Prop := e = .returned r ∧ MemIn W w' b M ∧ Ext w w'
theorem in_load' {W w : World} {b : Nat} {M : Areas} (h : MemIn W w b M) (p s : Int) (hp : 0 ≤ p) (H : Hid (p ≤ 18446744073709551615)) :
    Calls Try.prog 14 #[.pointer (some ⟨b, 0, none⟩), .int .u64 p, .int .i64 s] w (LoadIn W b M (.tuple #[.int .u64 (mload M p s).1, .int .i64 (mload M p s).2]) w) := by
  have h' := h
  obtain ⟨he, r, L, h1, rfl, h3⟩ := h
  refine (mem_load b r L p s w h1 hp H).mono ?_
  rintro e w' ⟨rfl, hk⟩
  exact ⟨rfl, h'.go hk, hk⟩
set_option maxRecDepth 20000 in
set_option maxHeartbeats 2000000 in
theorem mreads_any (va vp : Value) (x ps : List Int) (o n : Int) (w : World) (sx : Sl w .u8 va x) (sp : Sl w .u8 vp ps) (ux : ∀ q ∈ x, 0 ≤ q ∧ q ≤ 255) (up : ∀ q ∈ ps, 0 ≤ q ∧ q ≤ 255)
    (ho : 0 ≤ o ∧ o ≤ 255) (hn : 0 ≤ n ∧ n ≤ 255) :
    Calls Try.prog 4 #[va, vp, .int .u8 o, .int .u8 n] w (LawAns w) := by
  obtain ⟨xa, xn, xc, rfl, hxn, hXN⟩ := sx.val
  obtain ⟨pa, pn, pc, rfl, hpn, hPN⟩ := sp.val
  have SX := Lib.hid sx
  have SP := Lib.hid sp
  have UX := Lib.hid (fun q (hq : q ∈ x.take 100) => ux q (List.mem_of_mem_take hq))
  have UP := Lib.hid up
  clear sx ux sp up
  go_enter Try.func4, Try.ntmps4
  go_wp2_with fail
  refine (mem_shown w).mono ?_
  rintro e w1 ⟨rfl, he1⟩
  go_wp2_with fail
  refine (in_new he1).mono ?_
  rintro e w2 ⟨m, rfl, h2⟩
  have H2 := Lib.hid h2
  have hx2 := h2.ext
  clear h2
  go_upto_region 3 with fail
  go_cut [11] (fun v13 wx => Ext w2 wx ∧ Sl w .u8 v13 (x.take 100))
  case first =>
    have h1 : (xn : Int) ≤ 100 ∨ (100 : Int) < xn := by omega
    rcases h1 with h1 | h1
    · have c1 := fun W => SX.out.run_cut_h (P := Try.prog) el_u8.under el_u8.size .i64 (xn : Int) (by omega) (by omega) W
      have E := Lib.hid (take_cutK 100 SX.out xn (Nat.le_refl _) (by omega))
      go_wp2_with fail
      go_meet
      exact ⟨by (repeat (first | exact Ext.rfl' _ | assumption | refine Ext.drewN' ?_ _ | refine Ext.drew' ?_ | refine Ext.alloc' ?_ _ | refine Ext.trans' ?_ (by assumption))), E.out⟩
    · have c1 := fun W => SX.out.run_cut_h (P := Try.prog) el_u8.under el_u8.size .i64 100 (by omega) (by omega) W
      have E := Lib.hid (take_cutK 100 SX.out 100 (by omega) (by omega))
      go_wp2_with fail
      go_meet
      exact ⟨by (repeat (first | exact Ext.rfl' _ | assumption | refine Ext.drewN' ?_ _ | refine Ext.drew' ?_ | refine Ext.alloc' ?_ _ | refine Ext.trans' ?_ (by assumption))), E.out⟩
  case rest =>
    obtain ⟨he3, r1⟩ := hcut
    generalize hx' : x.take 100 = x' at r1 UX
    have hxl : x'.length ≤ 100 := by rw [← hx', List.length_take]; omega
    clear hx' SX hXN
    obtain ⟨za, zn, zc, rfl, hzn, hZN⟩ := r1.val
    have R1 := Lib.hid r1
    have hzl : zn ≤ 100 := by rw [hZN.out]; exact hxl
    have H3 := Lib.hid (H2.out.go he3)
    clear r1 H2
    go_wp2_with fail
    refine (in_make H3.out 3 _ x' _ false (R1.out.ext H3.out.ext) UX.out).mono ?_
    rintro e' w3 ⟨rfl, h3⟩
    rw [r_make x' _ (by omega)] at h3 ⊢
    have H4 := Lib.hid h3
    have HF := Lib.hid (show Fit x'.length (kA x' (decide (0 < pn))) from ⟨rfl, by simp [kA], rfl, UX.out⟩)
    clear h3 H3
    go_wp2_with fail
    go_loopw [41] (fun i wr => ∃ j : Nat, j ≤ pn ∧ i = .int .i64 j ∧ ∃ A, Fit x'.length A ∧ MemIn w wr m [(3, A)]) (fun i _ => pn - (intOf i).toNat)
    case atStart => exact ⟨0, Nat.zero_le _, rfl, _, HF.out, H4.out⟩
    case round =>
      obtain ⟨j, hj, rfl, A, hA, hM⟩ := hrel
      have HA := Lib.hid hA
      have HM := Lib.hid hM
      clear hA hM H4 HF
      by_cases hlt : (j : Int) < pn
      · obtain ⟨y, hy⟩ := at_of_lt (xs := ps) (k := j) (by have := hPN.out; omega)
        have iy := fun W => SP.out.run_at (P := Try.prog) el_u8.under el_u8.size .i64 (j : Int) (by omega) (by omega) W
        have cy := (SP.out.ext HM.out.ext).cell hy (j := 0) rfl
        have hyb := UP.out y (List.mem_of_getElem? hy)
        simp only [Nat.mul_one, Nat.add_zero, Int.toNat_natCast] at iy cy
        clear hy
        by_cases h100 : (j : Int) < 100
        · go_wp2_with fail
          refine (in_at 3 y _).mono ?_
          rintro e' w4 ⟨rfl, rfl⟩
          go_wp2_with fail
          refine (in_store HM.out (mat 3 y) 1 j (mat_le _ _).1 (Lib.hid (mat_le _ _).2) (by omega)).mono ?_
          rintro e' w5 ⟨rfl, h5⟩
          obtain ⟨yn, hyn⟩ : ∃ yn : Nat, (yn : Int) = y := ⟨y.toNat, by omega⟩
          obtain ⟨B, eB, hB, hF⟩ := r_store x'.length (by omega) A HA.out yn (by omega) j
          rw [hyn] at hB
          rw [hB] at h5 ⊢
          have H5 := Lib.hid h5
          have HB := Lib.hid hF
          clear hB h5 hF hyn
          go_wp2_with fail
          go_roundw
          case rel => exact ⟨j + 1, by omega, by go_num, B, HB.out, H5.out⟩
          case measure => simp [intOf]; omega
        · go_wp2_with fail
          go_roundw
          case rel => exact ⟨j + 1, by omega, by go_num, A, HA.out, HM.out⟩
          case measure => simp [intOf]; omega
      · obtain ⟨q, hq⟩ : ∃ q : Nat, (q : Int) = o % 110 := ⟨(o % 110).toNat, by omega⟩
        obtain ⟨k, hk⟩ : ∃ k : Nat, (k : Int) = n % 40 := ⟨(n % 40).toNat, by omega⟩
        obtain ⟨xs, eR, hrd, hcase⟩ := read_ok' HA.out (by omega) q k (by omega) (by omega)
        rw [hq, hk] at hrd
        have HQ := Lib.hid hq
        have HK := Lib.hid hk
        have HRD := Lib.hid hrd
        have HC := Lib.hid hcase
        clear hq hk hrd hcase
        go_wp2_with fail
        refine (in_at 3 (o % 110) _).mono ?_
        rintro e' w4 ⟨rfl, rfl⟩
        go_wp2_with fail
        refine (in_read HM.out (mat 3 (o % 110)) (n % 40) (mat_le _ _).1 (Lib.hid (mat_le _ _).2)).mono ?_
        rintro e' w5 ⟨v, rfl, hv, h5, hx5⟩
        rw [HRD.out] at hv ⊢
        have RV := Lib.hid (hv.rd (enc_int _))
        obtain ⟨b1, n1, k1, rfl, hn1, hN1⟩ := RV.out.val
        have H5 := Lib.hid h5
        clear h5 hv
        have HL := Lib.hid (fun i (hi : i < 1000) => load_ok HA.out (by omega) i hi)
        clear HA HM
        rcases HC.out with ⟨rfl, hl, hle, hok, hxs⟩ | ⟨he0, he1, rfl, hbad⟩
        · have hnk : n1 = k := by rw [hN1.out, hl]
          have HOK := Lib.hid hok
          have HXS := Lib.hid hxs
          clear hok hxs HC
          have hkn := HK.out
          subst hnk
          have HKN := Lib.hid hkn
          clear hkn
          go_wp2_with fail
          go_loopw [71] (fun i wr => ∃ j : Nat, j ≤ n1 ∧ i = .int .i64 j ∧ MemIn w wr m [(3, A)] ∧ Ext w5 wr) (fun i _ => n1 - (intOf i).toNat)
          case atStart => exact ⟨0, Nat.zero_le _, rfl, H5.out, Ext.rfl' _⟩
          case round =>
            obtain ⟨j, hj, rfl, hM, hwr⟩ := hrel
            have HM := Lib.hid hM
            clear hM
            by_cases hlt : (j : Int) < n % 40
            · have hjk : j < n1 := by have := HK.out; omega
              obtain ⟨c, f, hld, hcase⟩ := HL.out (q + j) (by have := HQ.out; omega)
              have hqj : ((q + j : Nat) : Int) = o % 110 + j := by have := HQ.out; omega
              rw [hqj] at hld
              have hok1 := HOK.out j hjk
              rcases hcase with ⟨rfl, hk1, hc, hc0, hc1⟩ | ⟨h1, h2, h3⟩
              · have hx : xs[j]? = some c := by rw [HXS.out j hjk]; exact hc
                have iy := fun W => RV.out.run_at (P := Try.prog) el_u8.under el_u8.size .i64 (j : Int) (by omega) (by omega) W
                simp only [Nat.mul_one, Nat.add_zero, Int.toNat_natCast] at iy
                have HX := Lib.hid hx
                have d1 : ((n1 : Int) != n % 40) = false := by have := HKN.out; simp; omega
                clear hx hc hok1 hk1 hqj
                have HLD := Lib.hid hld
                clear hld
                go_wp2_with fail
                refine (in_at 3 (o % 110 + j) _).mono ?_
                rintro e' w6 ⟨rfl, rfl⟩
                go_wp2_with fail
                refine (in_load' HM.out (mat 3 (o % 110 + j)) 1 (mat_le _ _).1 (Lib.hid (mat_le _ _).2)).mono ?_
                rintro e' w7 ⟨rfl, h7, hx7⟩
                rw [HLD.out]
                have H7 := Lib.hid h7
                have hx7' := hwr.trans' hx7
                have cy := (RV.out.ext hx7').cell HX.out (j := 0) rfl
                simp only [Nat.mul_one, Nat.add_zero, Int.toNat_natCast] at cy
                clear h7
                go_wp2_with fail
                exact ⟨⟨j + 1, by omega, by go_num, H7.out, hx7'⟩, by simp [intOf]; omega⟩
              · rw [h3] at hok1; cases hok1
            · have d1 : decide ((n1 : Int) ≤ n % 40) = true := by have := HKN.out; simp; omega
              rcases Int.lt_or_le 0 (n % 40) with hp | hp
              · have d2 : decide (0 < n % 40) = true := by simpa using hp
                go_wp2_with fail
                go_returns
                exact ⟨rfl, HM.out.ext⟩
              · have d2 : decide (0 < n % 40) = false := by simpa using hp
                have d3 : decide (o % 110 ≤ (zn : Int)) = true := by
                  have := HKN.out
                  have := HQ.out
                  have := hZN.out
                  simp; omega
                go_wp2_with fail
                go_returns
                exact ⟨rfl, HM.out.ext⟩
        · have hz : n1 = 0 := by rw [hN1.out]; rfl
          subst hz
          have HBAD := Lib.hid hbad
          clear hbad HC
          go_wp2_with fail
          go_loopw [71] (fun i wr => ∃ j : Nat, j ≤ k ∧ i = .int .i64 j ∧ MemIn w wr m [(3, A)] ∧ Ext w5 wr ∧ ∀ i < j, okAt A (q + i) = true) (fun i _ => k - (intOf i).toNat)
          case atStart => exact ⟨0, Nat.zero_le _, rfl, H5.out, Ext.rfl' _, fun i hi => absurd hi (Nat.not_lt_zero _)⟩
          case round =>
            obtain ⟨j, hj, rfl, hM, hwr, hall⟩ := hrel
            have HM := Lib.hid hM
            have HA := Lib.hid hall
            clear hM hall
            by_cases hlt : (j : Int) < n % 40
            · have hjk : j < k := by have := HK.out; omega
              obtain ⟨c, f, hld, hcase⟩ := HL.out (q + j) (by have := HQ.out; omega)
              have hqj : ((q + j : Nat) : Int) = o % 110 + j := by have := HQ.out; omega
              rw [hqj] at hld
              clear hqj
              have HLD := Lib.hid hld
              clear hld
              rcases hcase with ⟨rfl, hk1, hc, hc0, hc1⟩ | ⟨h1, h2, h3⟩
              · have HK1 := Lib.hid hk1
                clear hc hk1 hc0 hc1
                go_wp2_with fail
                refine (in_at 3 (o % 110 + j) _).mono ?_
                rintro e' w6 ⟨rfl, rfl⟩
                go_wp2_with fail
                refine (in_load' HM.out (mat 3 (o % 110 + j)) 1 (mat_le _ _).1 (Lib.hid (mat_le _ _).2)).mono ?_
                rintro e' w7 ⟨rfl, h7, hx7⟩
                rw [HLD.out]
                have H7 := Lib.hid h7
                have hx7' := hwr.trans' hx7
                clear h7
                go_wp2_with fail
                go_roundw
                case rel =>
                  refine ⟨j + 1, by omega, by go_num, H7.out, hx7', fun i hi => ?_⟩
                  rcases Nat.lt_succ_iff_lt_or_eq.1 hi with hi | rfl
                  · exact HA.out i hi
                  · exact HK1.out
                case measure => simp [intOf]; omega
              · clear h3
                go_wp2_with fail
                refine (in_at 3 (o % 110 + j) _).mono ?_
                rintro e' w6 ⟨rfl, rfl⟩
                go_wp2_with fail
                refine (in_load' HM.out (mat 3 (o % 110 + j)) 1 (mat_le _ _).1 (Lib.hid (mat_le _ _).2)).mono ?_
                rintro e' w7 ⟨rfl, h7, hx7⟩
                rw [HLD.out]
                have H7 := Lib.hid h7
                clear h7
                go_wp2_with fail
                go_returns
                exact ⟨rfl, H7.out.ext⟩
            · have hjk : j = k := by have := HK.out; omega
              have hlast : k = 0 ∧ x'.length < q := by
                rcases HBAD.out with ⟨i, hi, hb⟩ | h
                · rw [HA.out i (by omega)] at hb; cases hb
                · exact h
              have d2 : decide (0 < n % 40) = false := by have := HK.out; have := hlast.1; simp; omega
              have d3 : decide (o % 110 ≤ (zn : Int)) = false := by have := HQ.out; have := hZN.out; have := hlast.2; simp; omega
              have d4 : decide (((0 : Nat) : Int) ≤ n % 40) = true := by simp; omega
              have d5 : decide ((0 : Int) ≤ n % 40) = true := by simp; omega
              clear hlast
              go_wp2_with fail
              go_returns
              exact ⟨rfl, HM.out.ext⟩
end Go.Proofs.Ytgllaiadllfliaa
