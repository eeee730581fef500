/- What the claim leans on: LSound. -/
import Derived.Test.YtppefchjoodgnaaGreatPL42
import Derived.Test.YtppefchjoodgnaaGreatPL37
import Derived.Test.YtppefchjoodgnaaGreatPL38
namespace Go.Proofs.YtppefchjoodgnaaGreat
open Go.RowKit
set_option linter.unusedVariables false
set_option linter.unusedSimpArgs false
abbrev arrN (n : Nat → Int) : Array Value := #[.int .u64 (n 0), .int .u64 (n 1), .int .u64 (n 2), .int .u64 (n 3), .int .u64 (n 4), .int .u64 (n 5), .int .u64 (n 6), .int .u64 (n 7), .int .u64 (n 8), .int .u64 (n 9), .int .u64 (n 10)]
abbrev arrB (s : Nat → Bool) : Array Value := #[.bool (s 0), .bool (s 1), .bool (s 2), .bool (s 3), .bool (s 4), .bool (s 5), .bool (s 6), .bool (s 7), .bool (s 8), .bool (s 9), .bool (s 10)]
theorem arrN_at (n : Nat → Int) {d : Nat} (h : d ≤ 10) : (arrN n)[d]? = some (.int .u64 (n d)) := by
 rcases ten h with rfl | rfl | rfl | rfl | rfl | rfl | rfl | rfl | rfl | rfl | rfl <;> rfl
theorem arrB_at (n : Nat → Bool) {d : Nat} (h : d ≤ 10) : (arrB n)[d]? = some (.bool (n d)) := by
 rcases ten h with rfl | rfl | rfl | rfl | rfl | rfl | rfl | rfl | rfl | rfl | rfl <;> rfl
theorem need_at {L : List Ins} (hp : progS L = true) {i a : Nat} (ha : (liveA L)[i]? = some a) : a = bitsOf (fun r => Need (rdN L) (wrN L) (ahN L) r i) := by
 have hi : i < L.length := by rw [← liveA_length hp]; exact lt_at ha
 unfold liveA at ha
 rw [hp] at ha
 simp only [if_true, List.getElem?_map, List.getElem?_range hi, Option.map_some] at ha
 exact (Option.some.inj ha).symm
theorem bit_u16 {a : Nat} (ha : a < 65536) (k : Nat) : (bits .and .u16 ((a : Int) / 2 ^ k) 1 == 0) = !a.testBit k := by
 have e : (a : Int) / 2 ^ k = ((a / 2 ^ k : Nat) : Int) := by simp
 have hle : a / 2 ^ k ≤ a := Nat.div_le_self _ _
 rw [e, show (1 : Int) = ((1 : Nat) : Int) from rfl, and_u16 (by omega) (by omega), nat_beq, Nat.and_one_is_mod]
 rw [Nat.testBit_eq_decide_div_mod_eq]
 rcases Nat.mod_two_eq_zero_or_one (a / 2 ^ k) with h | h <;> rw [h] <;> rfl
structure SoundI (av : Value) (ba bb bA a b : Nat) (τ : RS) (R : Nat → Int) (S : Nat → Bool) (L : List Ins) (p : Nat) (w0 w : World) : Prop where
 two : Mat2 (av.ownBlock.toList ++ []) w ba bb a b τ (τ.rs R S)
 agr : Agr (Nd L p) τ R S
 rng : ∀ d, d ≤ 10 → u64R (R d)
 ext : Ext w0 w
 own : Own w bA 51 1 encN av (liveA L)
theorem SoundI.put {av : Value} {ba bb bA a b : Nat} {τ : RS} {R : Nat → Int} {S : Nat → Bool} {L : List Ins} {p : Nat} {w0 w : World} (h : SoundI av ba bb bA a b τ R S L p w0 w) {k : Nat} (hk : k ≤ 10) (hb : w0.heap.size ≤ b) (hQ : b ∉ av.ownBlock.toList ++ []) (hN : ¬ Nd L p k) {n : Int} (hn : u64R n) (s : Bool) :
  SoundI av ba bb bA a b τ (updN R k n) (updN S k s) L p w0 ((w.setCell ⟨b, 1 + k, none⟩ (.int .u64 n)).setCell ⟨b, 12 + k, none⟩ (.bool s)).drew := by
 have hd : Ext ((w.setCell ⟨b, 1 + k, none⟩ (.int .u64 n)).setCell ⟨b, 12 + k, none⟩ (.bool s)) ((w.setCell ⟨b, 1 + k, none⟩ (.int .u64 n)).setCell ⟨b, 12 + k, none⟩ (.bool s)).drew := Ext.drew' (Ext.rfl' _)
 have k2 : Keep [b] w ((w.setCell ⟨b, 1 + k, none⟩ (.int .u64 n)).setCell ⟨b, 12 + k, none⟩ (.bool s)) := ((Keep.rfl' _ _).setCell (by simp) _).setCell (by simp) _
 refine ⟨(h.two.cells (1 + k) (12 + k) _ _ (fun l => by rw [rset_R _ l hk, rset_S _ l hk]; rfl)).ext hd, h.agr.put hN _ _, fun d hd => ?_, (show Ext w0 _ from k2.below h.ext h.ext.size (fun q hq => by rw [List.mem_singleton] at hq; subst hq; exact hb)).trans' hd, (h.own.keep k2 (fun j hj hjb => ?_)).ext hd⟩
 ·unfold updN
  split
  ·exact hn
  ·exact h.rng d hd
 ·rw [List.mem_singleton] at hjb
  subst hjb
  exact hQ (by simp [hj])
set_option maxRecDepth 20000 in
set_option maxHeartbeats 8000000 in
theorem lsound_any (v cv dv iv rv : Value) (L0 : List Ins) (e : EnvD) (rows : List SV) (st : Int) (n : Nat → Int) (s : Nat → Bool) (w : World) (h : Rd w 5 Ins.enc v L0) (hok0 : InsOk L0) (he : EnvR w e cv dv iv rv rows) (hu : U64s e.draws) (hst : 0 ≤ st ∧ st ≤ 255) (hn : ∀ d, d ≤ 10 → u64R (n d)) :
  Calls Tryz.prog 3 #[v, .agg #[cv, dv, iv, rv], .int .u8 st, .agg (arrN n), .agg (arrB s)] w fun e w' => e = .returned (.bool true) ∧ Ext w w' := by
 have HD0 := η h
 have hok : InsOk (L0.take 150) := fun x hx => hok0 x (List.mem_of_mem_take hx)
 have hl : (L0.take 150).length ≤ 1000000 := by simp; omega
 have HFEW := η (fun W => l_few v L0 W)
 obtain ⟨L, hL⟩ : ∃ L, L0.take 150 = L := ⟨_, rfl⟩
 rw [hL] at hok hl
 have HTK := η hL
 have HOK := η hok
 have HL := η hl
 have HE := η he
 have HU := η hu
 have HNN := η hn
 obtain ⟨ca, cn, cc, rfl, hcn, hCN⟩ := he.ctx.val
 obtain ⟨da, dn, dc, rfl, hdn, hDN⟩ := he.defs.val
 obtain ⟨ia, inn, ic, rfl, hin, hIN⟩ := he.rowsR.val
 obtain ⟨ra, rn, rc, rfl, hrn, hRN⟩ := he.draws.val
 have HLEN := η he.len
 have hIN0 := hIN
 clear h hok0 hok hl hL he hu hn
 go_enter Tryz.func3, Tryz.ntmps3
 go_upto_region 1 with fail
 obtain ⟨wb, hwb⟩ : ∃ u, ((w.alloc (envObj (.slice ca cn cc) (.slice da dn dc) (.slice ia inn ic) (.slice ra rn rc))).alloc (.cells (arrN n) 30)).alloc (.cells (arrB s) 31) = u := ⟨_, rfl⟩
 have HEB : Hid (Ext w wb) := η (by rw [← hwb]; (repeat (first|exact xE0 _|assumption|refine xE1 ?_ _|refine xE2 ?_|refine xE3 ?_ _|refine xE4 ?_ (by assumption))))
 have HB1 : Hid (wb.heap[w.heap.size]? = some (envObj (.slice ca cn cc) (.slice da dn dc) (.slice ia inn ic) (.slice ra rn rc))) := η (by rw [← hwb]; exact obj_old _ (obj_old _ (obj_top _ _ rfl)))
 have HB2 : Hid (wb.heap[w.heap.size + 1]? = some (.cells (arrN n) 30)) := η (by rw [← hwb]; exact obj_old _ (obj_top _ _ (by simp)))
 have HB3 : Hid (wb.heap[w.heap.size + 1 + 1]? = some (.cells (arrB s) 31)) := η (by rw [← hwb]; exact obj_top _ _ (by simp))
 rw [hwb]
 clear hwb
 go_wp2_with fail
 refine (l_shown _).mono ?_
 rintro e1 w1 ⟨rfl, hE⟩
 have HE1 := η hE
 clear hE
 go_wp2_with fail
 refine (HFEW.out _ (HD0.out.ext (HEB.out.trans' HE1.out))).mono ?_
 rw [HTK.out]
 rintro e2 w2 ⟨v2, rfl, hR2, hE2⟩
 have HD2 := η hR2
 have HE2 := η (HE1.out.trans' hE2)
 obtain ⟨xa, xn, xc, hxv, hxn, hXN⟩ := hR2.val
 subst hxv
 clear hR2 hE2 HE1
 have HBF : Hid (∀ W, Ext w2 W → W.cell? ⟨w.heap.size, 0, none⟩ = some (.slice ca cn cc) ∧ W.cell? ⟨w.heap.size, 1, none⟩ = some (.slice da dn dc) ∧ W.cell? ⟨w.heap.size, 2, none⟩ = some (.slice ia inn ic) ∧ W.cell? ⟨w.heap.size, 3, none⟩ = some (.slice ra rn rc)) := η (fun W k => by
  have := k.obj (HE2.out.obj HB1.out)
  exact ⟨cO this, cO this, cO this, cO this⟩)
 obtain ⟨b0, b1, b2, b3⟩ := HBF.out _ (Ext.rfl' _)
 have HEW2 := η (HEB.out.trans' HE2.out)
 by_cases g1 : 10 < (dn : Int)
 ·go_wp2_with fail
  go_returns
  exact ⟨rfl, HEW2.out⟩
 by_cases g2 : 10 < (inn : Int)
 ·go_wp2_with fail
  go_returns
  exact ⟨rfl, HEW2.out⟩
 by_cases g3 : 100 < (rn : Int)
 ·go_wp2_with fail
  go_returns
  exact ⟨rfl, HEW2.out⟩
 by_cases g4 : 100 < (cn : Int)
 ·go_wp2_with fail
  go_returns
  exact ⟨rfl, HEW2.out⟩
 have HRN : Hid (e.draws.length ≤ 1000000) := η (by rw [← hRN.out]; omega)
 have HEI : Hid (Rd w 1 encW (.slice ia inn ic) rows) := η HE.out.rowsR
 have HII : Hid (inn = rows.length) := hIN
 have HEL : Hid (rows.length = e.items.length) := HLEN
 go_wp2_with fail
 go_loopw [53] (fun q wr => ∃ k : Nat, k ≤ inn ∧ q = .int .i64 k ∧ Hid (Ext w2 wr)) (fun q _ => inn - (intOf q).toNat)
 case atStart => exact ⟨0, Nat.zero_le _, rfl, η (Ext.rfl' _)⟩
 case round =>
  obtain ⟨k, hk, rfl, HX⟩ := hrel
  by_cases hlt : (k : Int) < inn
  ·obtain ⟨row, hrow⟩ := at_of_lt (xs := rows) (k := k) (by have := HII.out; omega)
   obtain ⟨l, hl⟩ := at_of_lt (xs := e.items) (k := k) (by have := HII.out; have := HEL.out; omega)
   obtain ⟨I, hI, hIS, hIl⟩ := HE.out.items k row l hrow hl
   have ix := fun W => HEI.out.run_at (P := Tryz.prog) el_irows.under el_irows.size .i64 (k : Int) (by omega) (by omega) W
   have cx := (HEI.out.ext (HEW2.out.trans' HX.out)).cell hrow (j := 0) rfl
   simp only [Nat.mul_one, Nat.add_zero, Int.toNat_natCast, SV.v] at ix cx
   obtain ⟨wa, wn, wc⟩ := row
   simp only [SV.v] at cx hI
   obtain ⟨wa', wn', wc', hwv, hwn, hWN⟩ := hI.val
   injection hwv with z1 z2 z3
   subst z1 z2 z3
   have HI := η hI
   have HIS := η hIS
   clear hrow hl hI hIS hIl
   go_wp2_with fail
   obtain ⟨wo, rfl⟩ : ∃ u, u = wr := ⟨_, rfl⟩
   go_loopw [59] (fun q wr2 => ∃ m : Nat, m ≤ wn ∧ q = .int .i64 m ∧ Hid (Ext wo wr2)) (fun q _ => wn - (intOf q).toNat)
   case atStart => exact ⟨0, Nat.zero_le _, rfl, η (Ext.rfl' _)⟩
   case round =>
    obtain ⟨m, hm, rfl, HY⟩ := hrel
    have HY2 := η (HX.out.trans' HY.out)
    by_cases hlm : (m : Int) < wn
    ·obtain ⟨y, hy⟩ := at_of_lt (xs := I) (k := m) (by have := hWN.out; omega)
     have iy := fun W => HI.out.run_at (P := Tryz.prog) el_item.under el_item.size .i64 (m : Int) (by omega) (by omega) W
     obtain ⟨c0, c1⟩ := item_cells (HI.out.ext (HEW2.out.trans' HY2.out)) hy
     simp only [Int.toNat_natCast] at iy
     rw [IT.kv] at c0
     rw [IT.vv] at c1
     obtain ⟨kn, hkn⟩ : ∃ q, y.key.length = q := ⟨_, rfl⟩
     obtain ⟨vn, hvn⟩ : ∃ q, y.val.length = q := ⟨_, rfl⟩
     rw [hkn] at c0
     rw [hvn] at c1
     clear hy hkn hvn
     by_cases h20 : 20 ≤ (m : Int)
     ·go_wp2_with fail
      go_returns
      exact ⟨rfl, by have := HEW2.out; have := HY2.out; (repeat (first|exact xE0 _|assumption|refine xE1 ?_ _|refine xE2 ?_|refine xE3 ?_ _|refine xE4 ?_ (by assumption)))⟩
     by_cases h80 : 80 < (kn : Int)
     ·go_wp2_with fail
      go_returns
      exact ⟨rfl, by have := HEW2.out; have := HY2.out; (repeat (first|exact xE0 _|assumption|refine xE1 ?_ _|refine xE2 ?_|refine xE3 ?_ _|refine xE4 ?_ (by assumption)))⟩
     by_cases h81 : 80 < (vn : Int)
     ·go_wp2_with fail
      go_returns
      exact ⟨rfl, by have := HEW2.out; have := HY2.out; (repeat (first|exact xE0 _|assumption|refine xE1 ?_ _|refine xE2 ?_|refine xE3 ?_ _|refine xE4 ?_ (by assumption)))⟩
     go_wp2_with fail
     go_roundw
     case rel => exact ⟨m + 1, by omega, by go_num, η (by have := HY.out; (repeat (first|exact xE0 _|assumption|refine xE1 ?_ _|refine xE2 ?_|refine xE3 ?_ _|refine xE4 ?_ (by assumption))))⟩
     case measure => simp [intOf]; omega
    ·go_wp2_with fail
     go_roundw
     case rel => exact ⟨k + 1, by omega, by go_num, HY2⟩
     case measure => simp [intOf]; omega
  ·clear b0 b1 b2 b3
   obtain ⟨b0, b1, b2, b3⟩ := HBF.out _ HX.out
   have HX3 := η HX.out
   have HBS : Hid (w.heap.size + 3 ≤ wr.heap.size) := η (by have h1 := heap_lt (HX.out.obj (HE2.out.obj HB3.out)); omega)
   obtain ⟨res, hres⟩ : ∃ r, RS.new L e = r := ⟨_, rfl⟩
   have HNEW := η (fun W (k : Ext wr W) => m_New (.slice xa xn xc) (.slice ca cn cc) (.slice da dn dc) (.slice ia inn ic) (.slice ra rn rc) rows L e W (HD2.out.ext (HX3.out.trans' k)) HL.out HOK.out (HE.out.ext (HEW2.out.trans' (HX3.out.trans' k))) HRN.out)
   rw [hres] at HNEW
   have HAH := η (fun W (k : Ext wr W) => l_Ahead (.slice xa xn xc) L W (HD2.out.ext (HX3.out.trans' k)) HL.out HOK.out)
   cases res with
   | none =>
    clear hres
    go_wp2_with fail
    refine (HNEW.out _ (Ext.rfl' _)).mono ?_
    rintro e3 w3 ⟨rfl, hE3⟩
    have HE3 := η hE3
    clear b0 b1 b2 b3 hE3
    obtain ⟨b0, b1, b2, b3⟩ := HBF.out _ (HX.out.trans' HE3.out)
    go_wp2_with fail
    refine (HNEW.out _ HE3.out).mono ?_
    rintro e4 w4 ⟨rfl, hE4⟩
    have HE4 := η (HE3.out.trans' hE4)
    clear b0 b1 b2 b3 hE4 HE3
    go_wp2_with fail
    refine (HAH.out _ HE4.out).mono ?_
    rintro e5 w5 ⟨va, rfl, hO, hE5⟩
    have HE5 := η (HE4.out.trans' hE5)
    clear hO hE5 HE4
    go_wp2_with fail
    go_returns
    exact ⟨rfl, HEW2.out.trans' (HX.out.trans' HE5.out)⟩
   | some σ =>
    obtain ⟨hinv, hsL, hsD, hd8, hov, hstp, hpl, hcl, hcd⟩ := new_inv hres HOK.out HU.out HRN.out
    have hby := new_bytes hres HE.out.u8 HE.out.ib
    have hprog : progS L = true := by rw [← hsL]; exact hinv.prog
    have HINV := η (And.intro hinv hby)
    have HSL := η hsL
    have HDD : Hid (σ.D.length ≤ 1000000) := η (by rw [hsD]; omega)
    have HPR := η hprog
    clear hinv hsL hsD hd8 hov hstp hpl hcl hcd hby hprog hres
    go_wp2_with fail
    refine (HNEW.out _ (Ext.rfl' _)).mono ?_
    rintro e3 w3 ⟨a, rfl, hMa⟩
    have HMA := η hMa
    have hE3 : Ext wr w3 := hMa.keep.ext (fun _ h => by cases h)
    have HE3 := η hE3
    clear b0 b1 b2 b3 hMa hE3
    obtain ⟨b0, b1, b2, b3⟩ := HBF.out _ (HX.out.trans' HE3.out)
    go_wp2_with fail
    refine (HNEW.out _ HE3.out).mono ?_
    rintro e4 w4 ⟨b, rfl, hMb⟩
    have hZ : ∀ j ∈ fblk (.slice xa xn xc) ++ fblk (.slice da dn dc), j < wr.heap.size ∨ w3.heap.size ≤ j := fun j hj => .inl ((List.mem_append.1 hj).elim ((HD2.out.ext HX3.out).fblk_lt (fun x => ⟨_, rfl⟩) j) ((HE.out.defs.ext (HEW2.out.trans' HX3.out)).fblk_lt (fun x => ⟨_, rfl⟩) j))
    have HM2 := η (Mat2.made HMA.out (Ext.rfl' _) hMb hZ)
    have hE4 : Ext w3 w4 := hMb.keep.ext (fun _ h => by cases h)
    have HE4 := η (HE3.out.trans' hE4)
    have HE3S := η HE3.out.size
    clear b0 b1 b2 b3 hMb hE4 hZ HMA HE3
    go_wp2_with fail
    refine (HAH.out _ HE4.out).mono ?_
    rintro e5 w5 ⟨va, rfl, hO, hE5⟩
    obtain ⟨aa, an, ac, hav, han, hAN⟩ := (hO.rd enc_nat).val
    subst hav
    have HA := η hO
    have HE5 := η (HE4.out.trans' hE5)
    have HM2' := η (HM2.out.more hE5 (Q' := (Value.slice aa an ac).ownBlock.toList) (fun q hq => hO.lt (by simpa using hq)))
    obtain rfl : an = xn := by rw [hXN.out, hAN.out, liveA_length HPR.out]
    have hne : ((an : Int) != an) = false := by simp
    clear hO hE5 HE4 HM2
    have hr : st % 101 ≤ 100 ∧ 0 ≤ st % 101 := by omega
    have hs34 : wr.heap.size ≤ w3.heap.size := HE3S.out
    obtain ⟨τ, hτ⟩ : ∃ τ, σ.run (st % 101) = τ := ⟨_, rfl⟩
    have hrun := run_inv HINV.out.1 HINV.out.2 (st % 101)
    rw [hτ, HSL.out] at hrun
    have HTI := η (And.intro hrun.1 hrun.2.1)
    have HTL := η hrun.2.2.1
    have HTD : Hid (τ.D.length ≤ 1000000) := η (by rw [hrun.2.2.2]; exact HDD.out)
    have HTR := η hτ
    clear hrun hτ
    -- a, up to there
    obtain ⟨F, Z1, Fb, Zb, hMA, hFb, hF, hG, hback⟩ := HM2'.out.both
    have HMA := η hMA
    have HFF := η hF
    have HBK := η hback
    clear hMA hFb hF hback HM2'
    go_wp2_with fail
    refine (m_Run (st % 101) HMA.out HINV.out.1 (by omega) HDD.out).mono ?_
    rw [HTR.out]
    rintro e6 w6 ⟨cv1, mv1, rfl, hM6, -⟩
    have HM6 := η (HBK.out _ _ hM6).2
    have HE6 : Hid (Ext wr w6) := η (hM6.keep.below HE5.out HE5.out.size (fun q hq => (HFF.out q hq).1))
    have HA6 := η (HA.out.keep hM6.keep (fun j hj hjF => (HFF.out j hjF).2 (by simp [hj])))
    clear hM6 HMA HFF HBK HA HE5
    -- b, up to there
    obtain ⟨F, Z1, Fb, Zb, hMA, hFb, hF, hG, hback⟩ := HM6.out.symm.both
    have HMA := η hMA
    have HFF := η hF
    have HBK := η hback
    clear hMA hFb hF hback HM6
    go_wp2_with fail
    refine (m_Run (st % 101) HMA.out HINV.out.1 (by omega) HDD.out).mono ?_
    rw [HTR.out]
    rintro e7 w7 ⟨cv2, mv2, rfl, hM7, -⟩
    have HM7 := η (HBK.out _ _ hM7).2.symm
    have HE7 : Hid (Ext wr w7) := η (hM7.keep.below HE6.out HE6.out.size (fun q hq => by have := (HFF.out q hq).1; omega))
    have HA7 := η (HA6.out.keep hM7.keep (fun j hj hjF => (HFF.out j hjF).2 (by simp [hj])))
    clear hM7 HMA HFF HBK HA6 HE6
    have HW7 := η (HEW2.out.trans' (HX3.out.trans' HE7.out))
    obtain ⟨la, lb, g1', g2', g3', g4', g5', g6', g7'⟩ := HM7.out
    have ov := g1'.cell 28 rfl
    clear g1' g2' g3' g4' g5' g6' g7'
    cases hov : τ.over with
    | true =>
     rw [hov] at ov
     go_wp2_with fail
     go_returns
     exact ⟨rfl, HW7.out⟩
    | false =>
     have HOV := η hov
     rw [hov] at ov
     obtain ⟨p, hp⟩ : ∃ p : Nat, τ.place = p := ⟨τ.place.toNat, by have := HTI.out.1.place.1; omega⟩
     have HP := η hp
     have hpn : p < an := by
      have h1 := HTI.out.1.place.2
      rw [hp, HTL.out, Int.toNat_natCast] at h1
      have h2 := (List.getElem?_eq_some_iff.1 h1).1
      rw [stF_length] at h2
      rw [hXN.out]; exact h2
     obtain ⟨A, hA⟩ := at_of_lt (xs := liveA L) (k := p) (by rw [← hAN.out]; exact hpn)
     have hAe := need_at HPR.out hA
     have hA16 : A < 65536 := by rw [hAe]; exact bitsOf_lt _
     have HNB : Hid (∀ d, A.testBit d = false → ¬ Nd L p d) := η (fun d hd hN => by
      have : A.testBit d = true := by rw [hAe, bitsOf_bit]; exact ⟨Need.lt (rdN_lt HOK.out) hN, hN⟩
      rw [hd] at this; cases this)
     have HAP := η hA
     clear hA hAe hp
     go_wp2_with fail
     obtain ⟨wp, rfl⟩ : ∃ u, u = wr := ⟨_, rfl⟩
     go_loopw [117] (fun q wr2 => ∃ (k : Nat) (R : Nat → Int) (S : Nat → Bool), k ≤ 11 ∧ q = .int .i64 k ∧ Hid (SoundI (.slice aa an ac) wp.heap.size w3.heap.size w4.heap.size a b τ R S L p wp wr2)) (fun q _ => 11 - (intOf q).toNat)
     case atStart => exact ⟨0, τ.R, τ.S, by omega, rfl, η ⟨HM7.out, fun d _ => ⟨rfl, rfl⟩, HTI.out.1.core.ok, HE7.out, HA7.out⟩⟩
     case round =>
      obtain ⟨k, R, S, hk, rfl, HI⟩ := hrel
      obtain ⟨la, lb, j1, j2, j3, j4, j5, j6, j7⟩ := HI.out.two
      by_cases hk11 : (k : Int) < 11
      ·have c27 := j2.cell 27 rfl
       have c0 := j2.cell 0 rfl
       have f1 := j2.cell (1 + k) (rcell_R _ lb (by omega))
       have f2 := j2.cell (12 + k) (rcell_S _ lb (by omega))
       have hfz := fun i => frozen_obj (i := i) j2.head
       have hpl : (τ.rs R S).place = (p : Int) := HP.out
       rw [hpl] at c27
       have ia := fun W => (HI.out.own.rd enc_nat).run_at (P := Tryz.prog) el_u16.under el_u16.size .i64 (p : Int) (by omega) (by omega) W
       have ca' := (HI.out.own.rd enc_nat).cell HAP.out (j := 0) rfl
       simp only [Nat.mul_one, Nat.add_zero, Int.toNat_natCast] at ia ca'
       have hbit := bit_u16 hA16 k
       have n0 := cO (i := k) (HI.out.ext.obj ((HE2.out.trans' HX3.out).obj HB2.out))
       have s0 := cO (i := k) (HI.out.ext.obj ((HE2.out.trans' HX3.out).obj HB3.out))
       rw [arrN_at n (by omega)] at n0
       rw [arrB_at s (by omega)] at s0
       have hlb := j2.low
       have hs34 := HE3S.out
       have hlb2 : wp.heap.size ≤ b := by omega
       have hbQ : b ∉ (Value.slice aa an ac).ownBlock.toList ++ [] := fun h => (j7 b h).2.2 (by simp [mfoot])
       clear j1 j2 j3 j4 j5 j6 j7 c0
       cases hbt : A.testBit k with
       | true =>
        rw [hbt] at hbit
        go_wp2_with fail
        go_roundw
        case rel => exact ⟨k + 1, R, S, by omega, by go_num, HI⟩
        case measure => simp [intOf]; omega
       | false =>
        rw [hbt] at hbit
        have hb1 : w.heap.size + 1 ≠ b := by have := HBS.out; omega
        have hb2 : w.heap.size + 1 + 1 ≠ b := by have := HBS.out; omega
        go_upto_region 31 with fail
        go_region_law ((fail))
        all_goals
         have HI2 := η (SoundI.put HI.out (by omega) hlb2 hbQ (HNB.out k hbt) (HNN.out k (by omega)) (s k))
         go_wp2_with fail
         go_roundw
         case rel => exact ⟨k + 1, _, _, by omega, by go_num, HI2⟩
         case measure => simp [intOf]; omega
      ·have HTT : Hid ((τ.rs R S).Inv) := η (HTI.out.1.rs HI.out.rng)
       have HEQ : Hid (((τ.rs R S).run 600).endV = (τ.run 600).endV) := η (run_agr HTI.out.1 HTI.out.2 HOV.out (by rw [HTL.out, HP.out, Int.toNat_natCast]; exact HI.out.agr) 600)
       obtain ⟨F, Z1, Fb, Zb, hMA, hFb, hF, hG, hback⟩ := HI.out.two.both
       have HMA := η hMA
       have HFB := η hFb
       have HFF := η hF
       have HBK := η hback
       clear hMA hFb hF hback
       have hs34 := HE3S.out
       go_wp2_with fail
       refine (m_Run 600 HMA.out HTI.out.1 (by omega) HTD.out).mono ?_
       rintro e8 w8 ⟨cv1, mv1, rfl, hM8, hEnd1⟩
       have HN1 := η hEnd1
       have HMB := η (HBK.out _ _ hM8).1
       have HM8 := η (HBK.out _ _ hM8).2
       have HE8 : Hid (Ext wp w8) := η (hM8.keep.below HI.out.ext HI.out.ext.size (fun q hq => (HFF.out q hq).1))
       have HMF : Hid (∀ q ∈ Fb, wp.heap.size ≤ q) := η (fun q hq => Nat.le_trans hs34 (hG q hq))
       clear hM8 hEnd1
       go_wp2_with fail
       refine (m_Run 600 HMB.out HTT.out (by omega) HTD.out).mono ?_
       rintro e9 w9 ⟨cv2, mv2, rfl, hM9, hEnd2⟩
       have HR2 := η (hEnd2 [] w9 (fun _ h => by cases h) (Keep.rfl' _ _))
       have HR1 := η (HN1.out Fb w9 HFB.out hM9.keep)
       have HE9 : Hid (Ext wp w9) := η (hM9.keep.below HE8.out HE8.out.size HMF.out)
       rw [HEQ.out] at HR2 ⊢
       clear hM9 hEnd2
       go_wp2_with fail
       refine (same_end (τ.run 600).endV cv1 mv1 cv2 mv2 _ HR1.out HR2.out).mono ?_
       rintro e10 w10 ⟨rfl, hE10⟩
       have HE10 := η (HE9.out.trans' hE10)
       go_wp2_with fail
       go_returns
       exact ⟨rfl, HEW2.out.trans' (HX3.out.trans' HE10.out)⟩
end Go.Proofs.YtppefchjoodgnaaGreat
