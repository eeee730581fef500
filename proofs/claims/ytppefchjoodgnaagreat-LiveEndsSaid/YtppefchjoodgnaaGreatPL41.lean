/- What the claim leans on: LEnds. -/
import Derived.Test.YtppefchjoodgnaaGreatPL40
import Derived.Test.YtppefchjoodgnaaGreatPL37
import Derived.Test.YtppefchjoodgnaaGreatPL38
namespace Go.Proofs.YtppefchjoodgnaaGreat
open Go.RowKit
set_option linter.unusedVariables false
set_option linter.unusedSimpArgs false
abbrev endObj (a b c d : Int) (cv mv : Value) : Obj := .cells #[.int .i64 a, .int .i64 b, .int .u64 c, .int .i64 d, cv, mv] 45 (0, 0)
theorem envR_nil (w : World) : EnvR w ⟨[], [], [], []⟩ (.slice none 0 0) (.slice none 0 0) (.slice none 0 0) (.slice none 0 0) [] :=
 ⟨Rd.nil _ _ _, (fun _ h => by cases h), Rd.nil _ _ _, Rd.nil _ _ _, Rd.nil _ _ _, rfl, (fun i row l h => by simp at h), (fun _ h => by cases h)⟩
set_option maxRecDepth 20000 in
theorem new_empty {L : List Ins} (hp : progS L = true) (hok : InsOk L) : ∃ σ, RS.new L ⟨[], [], [], []⟩ = some σ ∧ σ.Inv ∧ σ.L = L ∧ σ.D = [] ∧ σ.over = false ∧ σ.steps = 0 ∧ σ.place = 0 ∧ σ.calls = [] ∧ σ.code = 0 ∧ BytesOk σ.V.1 ∧ ∀ d, σ.S d = (d == 1 || d == 10) := by
 have h : RS.new L ⟨[], [], [], []⟩ = some (((RS.zero L [] [] (areas0 [], [])).setR 1 4294967296).setR 10 8589935104) := by
  unfold RS.new
  rw [if_neg (by rw [hp]; simp)]
  generalize areas0 [] = A
  have : rnew A [] = some (A, []) := by unfold rnew; rw [if_pos (by decide)]; rfl
  show (rnew A []).bind _ = _
  rw [this]
  rfl
 obtain ⟨h1, h2, h3, h4, h5, h6, h7, h8, h9⟩ := new_inv h hok (fun _ h => by cases h) (by simp)
 refine ⟨_, h, h1, h2, h3, h5, h6, h7, h8, h9, ?_, fun d => ?_⟩
 ·show BytesOk (areas0 [])
  unfold areas0
  exact mmake_bytes (mmake_bytes (fun q hq => by cases hq) _ (fun x hx => by cases hx) _ _) _ small_512 _ _
 ·show updN (updN (fun _ => false) 1 true) 10 true d = _
  unfold updN
  by_cases h10 : d = 10
  ·subst h10; rfl
  ·by_cases h1 : d = 1
   ·subst h1; rfl
   ·rw [if_neg h10, if_neg h1]
    simp [h1, h10]
theorem need_at {L : List Ins} (hp : progS L = true) {i a : Nat} (ha : (liveA L)[i]? = some a) : a = bitsOf (fun r => Need (rdN L) (wrN L) (ahN L) r i) := by
 have hi : i < L.length := by rw [← liveA_length hp]; exact lt_at ha
 unfold liveA at ha
 rw [hp] at ha
 simp only [if_true, List.getElem?_map, List.getElem?_range hi, Option.map_some] at ha
 exact (Option.some.inj ha).symm
theorem needB_at {L : List Ins} (hp : progS L = true) {i a : Nat} (hi : i < L.length) (ha : (liveB L)[i]? = some a) : a = bitsOf (fun r => NeedB (rdN L) (wrN L) (ahN L) r i) := by
 unfold liveB at ha
 rw [hp] at ha
 simp only [if_true, List.getElem?_map, List.getElem?_range hi, Option.map_some] at ha
 exact (Option.some.inj ha).symm
theorem live_ends {L : List Ins} (hp : progS L = true) {i : Nat} {x : Ins} {a b : Nat} {s : Bool} (hx : L[i]? = some x) (hs : (stF false L)[i]? = some s) (ha : (liveA L)[i]? = some a) (hb : (liveB L)[i]? = some b) :
  (s = true → (whatZ x).kind = 12 → a = 1 ∧ b = 0) ∧ (s = false → a = 0 ∧ b = 0) := by
 have hi := (List.getElem?_eq_some_iff.1 hx).1
 have h1 := need_at hp ha
 have h2 := needB_at hp hi hb
 refine ⟨fun e hk => ?_, fun e => ?_⟩
 ·subst e
  have hbg := begins_st hp hs
  have hah : ahN L i = [] := by
   unfold ahN
   rw [aheadV_at hbg]
   unfold aheadAt
   have h5 : (L[((i : Int)).toNat]?) = some x := by simpa using hx
   rw [hx]
   refine List.eq_nil_iff_forall_not_mem.2 (fun t ht => ?_)
   rcases mem_ahead.1 ht with ⟨h, _⟩ | h
   ·unfold goesOn at h; rw [hk] at h; simp at h
   ·have : targetS L x i = none := by
     unfold targetS toS
     rw [hk]
     simp
    rw [this] at h
    cases h
  have hB : ∀ r, ¬ NeedB (rdN L) (wrN L) (ahN L) r i := fun r hr => by
   obtain ⟨t, ht, _⟩ := hr
   rw [hah] at ht
   cases ht
  have hrd : rdN L i = 1 := by
   rw [rdN_at hbg hx]
   unfold readsS readsK
   rw [if_neg (by omega), if_neg (by omega), if_neg (by omega), if_pos hk]
  refine ⟨?_, ?_⟩
  ·rw [h1]
   refine (eq_bitsOf (by decide) (fun r hr => ?_)).symm
   rw [need_iff, hrd]
   exact ⟨.inl, fun h => h.elim id (fun h => absurd h.2 (hB r))⟩
  ·rw [h2]
   refine (eq_bitsOf (by decide) (fun r hr => ?_)).symm
   exact ⟨fun h => by simp at h, fun h => absurd h (hB r)⟩
 ·subst e
  have hbg : beginsS L i = false := by
   cases hq : beginsS L i
   ·rfl
   ·have := (begins_iff.1 hq).2.2.2
    rw [Int.toNat_natCast, hs] at this
    cases this
  have hB : ∀ r, ¬ NeedB (rdN L) (wrN L) (ahN L) r i := fun r hr => by
   obtain ⟨t, ht, _⟩ := hr
   rw [ahN_not hbg] at ht
   cases ht
  refine ⟨?_, ?_⟩
  ·rw [h1]
   refine (eq_bitsOf (by decide) (fun r hr => ?_)).symm
   rw [need_iff, rdN_not hbg]
   exact ⟨fun h => by simp at h, fun h => h.elim (fun h => by simp at h) (fun h => absurd h.2 (hB r))⟩
  ·rw [h2]
   refine (eq_bitsOf (by decide) (fun r hr => ?_)).symm
   exact ⟨fun h => by simp at h, fun h => absurd h (hB r)⟩
theorem start_set {L : List Ins} (hp : progS L = true) (hok : InsOk L) {a : Nat} (ha : (liveA L)[0]? = some a) (h : bits .andNot .u16 (a : Int) 1026 = 0) {σ : RS} (hL : σ.L = L) (hpl : σ.place = 0) (hc : σ.code = 0) (hS : ∀ d, σ.S d = (d == 1 || d == 10)) : AllSet σ := by
 refine .inr ⟨by rw [hc]; decide, fun _ d hd => ?_⟩
 rw [hL, hpl] at hd
 have h1 := need_at hp ha
 have hlt : a < 65536 := by rw [h1]; exact bitsOf_lt _
 have hbit : a.testBit d = true := by
  rw [h1, bitsOf_bit]
  exact ⟨Need.lt (rdN_lt hok) hd, hd⟩
 have h2 := andnot_u16 hlt (show 1026 < 65536 by decide)
 rw [show ((1026 : Nat) : Int) = 1026 from rfl, h] at h2
 have h3 : a &&& (65535 - 1026) = 0 := by omega
 have h4 := congrArg (fun z => z.testBit d) h3
 simp only [Nat.testBit_and, hbit, Bool.true_and, Nat.zero_testBit] at h4
 have hd16 := bit_lt hlt hbit
 rw [hS]
 have : d = 0 ∨ d = 1 ∨ d = 2 ∨ d = 3 ∨ d = 4 ∨ d = 5 ∨ d = 6 ∨ d = 7 ∨ d = 8 ∨ d = 9 ∨ d = 10 ∨ d = 11 ∨ d = 12 ∨ d = 13 ∨ d = 14 ∨ d = 15 := by omega
 rcases this with rfl | rfl | rfl | rfl | rfl | rfl | rfl | rfl | rfl | rfl | rfl | rfl | rfl | rfl | rfl | rfl <;> revert h4 <;> decide
set_option maxRecDepth 20000 in
set_option maxHeartbeats 4000000 in
theorem lends_any (v : Value) (L0 : List Ins) (w : World) (h : Rd w 5 Ins.enc v L0) (hok0 : InsOk L0) : Calls Tryz.prog 5 #[v] w fun e w' => e = .returned (.bool true) ∧ Ext w w' := by
 have HD0 := η h
 have hok : InsOk (L0.take 150) := fun x hx => hok0 x (List.mem_of_mem_take hx)
 have hl : (L0.take 150).length ≤ 1000000 := by simp; omega
 have HFEW := η (fun W => l_few v L0 W)
 obtain ⟨L, hL⟩ : ∃ L, L0.take 150 = L := ⟨_, rfl⟩
 rw [hL] at hok hl
 have HTK := η hL
 have HOK := η hok
 have HL := η hl
 clear h hok0 hok hl hL
 go_enter Tryz.func5, Tryz.ntmps5
 go_wp2_with fail
 refine (l_shown _).mono ?_
 rintro e w1 ⟨rfl, hE⟩
 have HE1 := η hE
 clear hE
 go_wp2_with fail
 refine (HFEW.out _ (HD0.out.ext HE1.out)).mono ?_
 rw [HTK.out]
 rintro e w2 ⟨v2, rfl, hR2, hE2⟩
 have HD2 := η hR2
 have HE2 := η (HE1.out.trans' hE2)
 obtain ⟨xa, xn, xc, hxv, hxn, hXN⟩ := hR2.val
 subst hxv
 clear hR2 hE2
 go_wp2_with fail
 refine (l_Ahead _ L _ HD2.out HL.out HOK.out).mono ?_
 rintro e w3 ⟨va, rfl, hO, hE⟩
 have HA := η (hO.rd enc_nat)
 have HE3 := η (HE2.out.trans' hE)
 have HD3 := η (HD2.out.ext hE)
 clear hO hE HE2 HD2
 go_wp2_with fail
 refine (l_Behind _ L _ HD3.out HL.out HOK.out).mono ?_
 rintro e w4 ⟨vb, rfl, hO, hE⟩
 have HB := η (hO.rd enc_nat)
 replace HA := η (HA.out.ext hE)
 have HE4 := η (HE3.out.trans' hE)
 have HD4 := η (HD3.out.ext hE)
 clear hO hE HE3 HD3
 obtain ⟨aa, an, ac, hav, han, hAN⟩ := HA.out.val
 obtain ⟨ba, bn, bc, hbv, hbn, hBN⟩ := HB.out.val
 subst hav; subst hbv
 cases hp : progS L with
 | false =>
  have HP := η hp
  obtain rfl : an = 0 := by rw [hAN.out, liveA_none hp]; rfl
  obtain rfl : bn = 0 := by rw [hBN.out, liveB_none hp]; rfl
  clear hp
  go_wp2_with fail
  refine (r_Check _ L _ HD4.out HL.out HOK.out).mono ?_
  rintro e w5 ⟨at_, er, rfl, her, hE⟩
  rw [HP.out] at her
  have hne : (er != 0) = true := by simpa using her
  have HE5 := η (HE4.out.trans' hE)
  clear hE her
  go_wp2_with fail
  go_returns
  exact ⟨rfl, HE5.out⟩
 | true =>
  have HP := η hp
  obtain rfl : xn = an := by rw [hXN.out, hAN.out, liveA_length hp]
  obtain rfl : xn = bn := by rw [hXN.out, hBN.out, liveB_length hp]
  have hnn : ((xn : Int) != (xn : Int)) = false := by simp
  have hn0 : 0 < xn := by rw [hXN.out]; exact (ProgF.of hp).len.1
  have hn1 : ((xn : Int) == 0) = false := by simp; omega
  have hn2 : ((xn : Int) != 0) = true := by simp; omega
  clear hp
  go_wp2_with fail
  refine (r_Starts _ L _ HD4.out HL.out).mono ?_
  rintro e w5 ⟨vs, rfl, hO, hE⟩
  have HS := η (hO.rd enc_bool)
  have HE5 := η (HE4.out.trans' hE)
  have HD5 := η (HD4.out.ext hE)
  have HA5 := η (HA.out.ext hE)
  have HB5 := η (HB.out.ext hE)
  clear hO hE HE4 HD4 HA HB
  obtain ⟨sa, sn, sc, hsv, hsn, hSN⟩ := HS.out.val
  subst hsv
  obtain rfl : xn = sn := by rw [hXN.out, hSN.out, stF_length]
  go_wp2_with fail
  go_loopw [56] (fun q wr => ∃ k : Nat, k ≤ xn ∧ q = .int .i64 k ∧ Hid (Ext w5 wr)) (fun q _ => xn - (intOf q).toNat)
  case atStart => exact ⟨0, Nat.zero_le _, rfl, η (Ext.rfl' _)⟩
  case round =>
   obtain ⟨k, hk, rfl, HX⟩ := hrel
   by_cases hlt : (k : Int) < xn
   ·obtain ⟨x, hx⟩ := at_of_lt (xs := L) (k := k) (by have := hXN.out; omega)
    obtain ⟨s, hs⟩ := at_of_lt (xs := stF false L) (k := k) (by have := hSN.out; omega)
    obtain ⟨a, ha⟩ := at_of_lt (xs := liveA L) (k := k) (by have := hAN.out; omega)
    obtain ⟨b, hb⟩ := at_of_lt (xs := liveB L) (k := k) (by have := hBN.out; omega)
    have ix := fun W => HD5.out.run_at (P := Tryz.prog) el_ins.under el_ins.size .i64 (k : Int) (by omega) (by omega) W
    have is := fun W => HS.out.run_at (P := Tryz.prog) el_bool.under el_bool.size .i64 (k : Int) (by omega) (by omega) W
    have ia := fun W => HA5.out.run_at (P := Tryz.prog) el_u16.under el_u16.size .i64 (k : Int) (by omega) (by omega) W
    have ib := fun W => HB5.out.run_at (P := Tryz.prog) el_u16.under el_u16.size .i64 (k : Int) (by omega) (by omega) W
    obtain ⟨i0, i1, i2, i3, i4⟩ := ins_cells (HD5.out.ext HX.out) hx
    have cs := (HS.out.ext HX.out).cell hs (j := 0) rfl
    have HCA := η (fun W (he : Ext wr W) => ((HA5.out.ext HX.out).ext he).cell ha (j := 0) rfl)
    have HCB := η (fun W (he : Ext wr W) => ((HB5.out.ext HX.out).ext he).cell hb (j := 0) rfl)
    simp only [Nat.mul_one, Nat.add_zero, Int.toNat_natCast] at ix is ia ib cs
    have HLE := η (live_ends HP.out hx hs ha hb)
    have HXO := HOK.out.at hx
    clear ha hb hs hx
    go_wp2_with fail
    refine (r_What x _ HXO).mono ?_
    rintro e w6 ⟨rfl, hE6⟩
    have HX6 := η (HX.out.trans' hE6)
    obtain ⟨y, hy⟩ : ∃ y, (whatS x).getD Wh.zero = y := ⟨_, rfl⟩
    have hz : whatZ x = y := by unfold whatZ; rw [hy]
    rw [hy]
    rw [hz] at HLE
    have ca := HCA.out (w6.alloc (whObj y)) (hE6.alloc' _)
    have cb := HCB.out (w6.alloc (whObj y)) (hE6.alloc' _)
    simp only [Nat.mul_one, Nat.add_zero] at ca cb
    clear hy hz hE6 i0 i1 i2 i3 i4 cs
    cases s with
    | false =>
     obtain ⟨rfl, rfl⟩ := HLE.out.2 rfl
     simp only [show ((0 : Nat) : Int) = 0 from rfl] at ca cb
     go_wp2_with fail
     go_roundw
     case rel => exact ⟨k + 1, by omega, by go_num, η (by have := HX6.out; (repeat (first|exact xE0 _|assumption|refine xE1 ?_ _|refine xE2 ?_|refine xE3 ?_ _|refine xE4 ?_ (by assumption))))⟩
     case measure => simp [intOf]; omega
    | true =>
     by_cases hk12 : y.kind = 12
     ·obtain ⟨rfl, rfl⟩ := HLE.out.1 rfl hk12
      simp only [show ((1 : Nat) : Int) = 1 from rfl, show ((0 : Nat) : Int) = 0 from rfl] at ca cb
      obtain ⟨yk, yo, yw, yr, ys, yz⟩ := y
      simp only at hk12
      subst hk12
      simp only [whObj] at ca cb
      go_wp2_with fail
      go_roundw
      case rel => exact ⟨k + 1, by omega, by go_num, η (by have := HX6.out; (repeat (first|exact xE0 _|assumption|refine xE1 ?_ _|refine xE2 ?_|refine xE3 ?_ _|refine xE4 ?_ (by assumption))))⟩
      case measure => simp [intOf]; omega
     ·have hkb : (y.kind == 12) = false := by simpa using hk12
      go_wp2_with fail
      go_roundw
      case rel => exact ⟨k + 1, by omega, by go_num, η (by have := HX6.out; (repeat (first|exact xE0 _|assumption|refine xE1 ?_ _|refine xE2 ?_|refine xE3 ?_ _|refine xE4 ?_ (by assumption))))⟩
      case measure => simp [intOf]; omega
   ·have HX6 := η (HE5.out.trans' HX.out)
    have HD6 := η (HD5.out.ext HX.out)
    have HA6 := η (HA5.out.ext HX.out)
    clear HE5 HD5 HA5 HB5 HS HX
    obtain ⟨σ, hσ, hinv, hsL, hsD, hov, hst, hpl, hcl, hcd, hby, hSS⟩ := new_empty HP.out HOK.out
    have HNEW := η (fun W (he : Ext wr W) => m_New (.slice xa xn xc) (.slice none 0 0) (.slice none 0 0) (.slice none 0 0) (.slice none 0 0) [] L ⟨[], [], [], []⟩ W (HD6.out.ext he) HL.out HOK.out (envR_nil W) (by simp))
    rw [hσ] at HNEW
    have HINV := η hinv
    obtain ⟨a0, ha0⟩ := at_of_lt (xs := liveA L) (k := 0) (by have := hAN.out; omega)
    have HEND : Hid (bits .andNot .u16 (a0 : Int) 1026 = 0 → (σ.run 300).endV.code ≠ 110 ∨ (σ.run 300).endV.calls ≠ []) := η (fun h0 => ends_law hinv hby (start_set HP.out HOK.out ha0 h0 hsL hpl hcd hSS) 300)
    have HDD : Hid (σ.D.length ≤ 1000000) := η (by rw [hsD]; decide)
    have ia := fun W => HA6.out.run_at (P := Tryz.prog) el_u16.under el_u16.size .i64 0 (by omega) (by omega) W
    have HCA := η (fun W (he : Ext wr W) => (HA6.out.ext he).cell ha0 (j := 0) rfl)
    clear hσ hinv hsL hsD hov hst hpl hcl hcd hby hSS ha0
    go_wp2_with fail
    refine (HNEW.out _ (Ext.rfl' _)).mono ?_
    rintro e w7 ⟨mb, rfl, hM⟩
    have HM := η hM
    have hE7 : Ext wr w7 := hM.keep.ext (fun _ h => by cases h)
    have HE7 := η hE7
    clear hM hE7
    go_wp2_with fail
    refine (m_Run 300 HM.out HINV.out (by omega) HDD.out).mono ?_
    rintro e w8 ⟨cv, mv, rfl, hM8, hEnd⟩
    obtain ⟨cs, rows, hcs, hcsm, -, hmr, -⟩ := hEnd [] w8 (fun _ h => by cases h) (Keep.rfl' _ _)
    obtain ⟨ma, mn, mc, hmv, -, -⟩ := hmr.val
    subst hmv
    obtain ⟨ca, cn, cc, hcv, hcn, hCN⟩ := hcs.val
    subst hcv
    have hE8 : Ext wr w8 := hM8.keep.ext (fun _ h => by cases h)
    have HE8 := η hE8
    have hlen : cn = (σ.run 300).endV.calls.length := by rw [hCN.out, ← hcsm]; simp
    have ca0 := HCA.out (w8.alloc (endObj (σ.run 300).endV.code (σ.run 300).endV.at_ (σ.run 300).endV.r0 (σ.run 300).endV.steps (.slice ca cn cc) (.slice ma mn mc))) (hE8.alloc' _)
    simp only [Nat.mul_one, Nat.add_zero] at ca0
    simp only [show ((0 : Int)).toNat = 0 from rfl] at ia
    obtain ⟨ec, hec⟩ : ∃ c, (σ.run 300).endV.code = c := ⟨_, rfl⟩
    obtain ⟨ea, hea⟩ : ∃ c, (σ.run 300).endV.at_ = c := ⟨_, rfl⟩
    obtain ⟨er, her⟩ : ∃ c, (σ.run 300).endV.r0 = c := ⟨_, rfl⟩
    obtain ⟨es, hes⟩ : ∃ c, (σ.run 300).endV.steps = c := ⟨_, rfl⟩
    rw [hec] at HEND
    rw [hec, hea, her, hes] at ca0 ⊢
    have HLEN := η hlen
    clear hM8 hEnd hcs hcsm hE8 hlen hec hea her hes
    by_cases hb0 : bits .andNot .u16 (a0 : Int) 1026 = 0
    ·have hbb : (bits .andNot .u16 (a0 : Int) 1026 != 0) = false := by rw [hb0]; rfl
     by_cases hcode : ec = 110
     ·subst hcode
      have hcl : 0 < (cn : Int) := by
       have : (σ.run 300).endV.calls ≠ [] := (HEND.out hb0).elim (fun h => absurd rfl h) id
       have := List.length_pos_iff.2 this
       have := HLEN.out
       omega
      have hcl2 : decide (0 < cn) = true := by simpa using hcl
      go_wp2_with fail
      go_returns
      exact ⟨rfl, by have := HX6.out; have := HE8.out; (repeat (first|exact xE0 _|assumption|refine xE1 ?_ _|refine xE2 ?_|refine xE3 ?_ _|refine xE4 ?_ (by assumption)))⟩
     ·have hcc : (ec != 110) = true := by simpa using hcode
      go_wp2_with fail
      go_returns
      exact ⟨rfl, by have := HX6.out; have := HE8.out; (repeat (first|exact xE0 _|assumption|refine xE1 ?_ _|refine xE2 ?_|refine xE3 ?_ _|refine xE4 ?_ (by assumption)))⟩
    ·have hbb : (bits .andNot .u16 (a0 : Int) 1026 != 0) = true := by simpa using hb0
     go_wp2_with fail
     go_returns
     exact ⟨rfl, by have := HX6.out; have := HE8.out; (repeat (first|exact xE0 _|assumption|refine xE1 ?_ _|refine xE2 ?_|refine xE3 ?_ _|refine xE4 ?_ (by assumption)))⟩
end Go.Proofs.YtppefchjoodgnaaGreat
