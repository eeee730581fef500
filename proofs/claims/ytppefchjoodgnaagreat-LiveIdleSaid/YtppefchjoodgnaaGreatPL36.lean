/- What the claim leans on: LvF. -/
import Derived.Test.YtppefchjoodgnaaGreatPL32
import Derived.Deep.LoopGhost
import Derived.Deep.CutBlock
import Derived.BigRegion
namespace Go.Proofs.YtppefchjoodgnaaGreat
open Go.RowKit
set_option linter.unusedVariables false
set_option linter.unusedSimpArgs false
def BothA (L : List Ins) (w : World) (e : Ending) (w' : World) : Prop := ∃ va vb, e = .returned (.tuple #[va, vb]) ∧ Own w' w.heap.size 51 1 encN va (liveA L) ∧ Own w' w.heap.size 51 1 encN vb (liveB L) ∧ Ext w w'
set_option maxRecDepth 20000 in
set_option maxHeartbeats 4000000 in
theorem l_both (v : Value) (L : List Ins) (w : World) (h : Rd w 5 Ins.enc v L) (hl : L.length ≤ 1000000) (hok : InsOk L) : Calls Tryz.prog 38 #[v] w (BothA L w) := by
 obtain ⟨a, n, c, rfl, hn, hN⟩ := h.val
 have hk2 : n ≤ 1000000 := by rw [hN.out]; exact hl
 have HD := η h
 have HOK := η hok
 have HL := η hl
 have HN := η hN.out
 have hmk := run_make_u16 n hk2
 have hmr := run_make_rows n hk2
 clear h hok hl
 cases hb : progS L with
 | false =>
  have HB := η hb
  clear hb
  go_enter Tryz.func38, Tryz.ntmps38
  go_wp2_with fail
  refine (p_Check _ L _ HD.out HL.out HOK.out).mono ?_
  rintro e w5 ⟨at_, er, rfl, her, hE⟩
  rw [HB.out] at her
  have hne : (er != 0) = true := by simpa using her
  have HE := η hE
  clear hE her
  go_wp2_with fail
  go_returns
  exact ⟨_, _, rfl, by rw [liveA_none HB.out]; exact Own.nil _ _ _ _ _, by rw [liveB_none HB.out]; exact Own.nil _ _ _ _ _, HE.out⟩
 | true =>
  have h512 : n ≤ 512 := by rw [HN.out]; exact (ProgF.of hb).len.2
  have HB := η hb
  clear hb
  go_enter Tryz.func38, Tryz.ntmps38
  go_wp2_with fail
  refine (p_Check _ L _ HD.out HL.out HOK.out).mono ?_
  rintro e w5 ⟨at_, er, rfl, her, hE⟩
  rw [HB.out] at her
  obtain rfl : er = 0 := by simpa using her
  have HE := η hE
  clear hE her
  go_upto_region 4 with fail
  go_cut [2, 3] from 23 to 29 (fun v2 v3 wx => ∃ ga gb, v2 = .slice (some ⟨ga, 0, none⟩) n n ∧ v3 = .slice (some ⟨gb, 0, none⟩) n n ∧ ga ≠ gb ∧ Hid (Own wx w.heap.size 51 1 encN v2 (List.replicate n 0) ∧ Own wx w.heap.size 51 1 encN v3 (List.replicate n 0) ∧ Ext w wx))
  case first =>
   go_region
   all_goals
    go_wp2_with fail
    go_meet
    refine ⟨_, _, rfl, rfl, by simp, η ⟨?_, ?_, ?_⟩⟩
   all_goals
    have hz := HE.out.size
    have h1 := ((own_made_u16 w5 n hk2 w.heap.size HE.out.size).alloc (.cells (madeCells #[.int .u16 0] n) 51)).drew
    have h2 := (own_made_u16 (w5.alloc (.cells (madeCells #[.int .u16 0] n) 51)) n hk2 w.heap.size (by simp; omega)).drew
    have h3 : Ext w ((w5.alloc (.cells (madeCells #[.int .u16 0] n) 51)).alloc (.cells (madeCells #[.int .u16 0] n) 51)).drew := Ext.drew' (Ext.alloc' (Ext.alloc' HE.out _) _)
    rw [World.size_alloc] at h2
    first
     | exact h1
     | exact h2
     | exact h3
  case rest =>
   obtain ⟨ga, gb, rfl, rfl, hab, HO⟩ := hcut
   clear hmk
   have HE4 := η HO.out.2.2
   have HA4 := η HO.out.1
   have HB4 := η HO.out.2.1
   clear HO
   have hgga := HA4.out.lt (k := ga) rfl
   have hggb := HB4.out.lt (k := gb) rfl
   go_upto_region 7 with fail
   obtain ⟨gf, hgf⟩ : ∃ gf, gf = wc.heap.size := ⟨_, rfl⟩
   have HF5 := η (own_made_rows wc n hk2 w.heap.size HE4.out.size)
   have HA5 := η (HA4.out.alloc (.cells (madeCells #[.slice none 0 0] n) 135))
   have HB5 := η (HB4.out.alloc (.cells (madeCells #[.slice none 0 0] n) 135))
   have HE5 := η (HE4.out.alloc' (.cells (madeCells #[.slice none 0 0] n) 135))
   have hgfw : w.heap.size ≤ gf := by rw [hgf]; exact HE4.out.size
   have hfa : ga ≠ gf := by omega
   have hfb : gb ≠ gf := by omega
   rw [← hgf] at HF5 ⊢
   generalize hF : wc.alloc (.cells (madeCells #[.slice none 0 0] n) 135) = w5 at HF5 HA5 HB5 HE5 ⊢
   clear hF hgf hgga hggb hmr HA4 HB4 HE4
   go_wp2_with fail
   refine (p_Starts _ L _ (HD.out.ext HE5.out) HL.out).mono ?_
   rintro e w6 ⟨s, rfl, hO, hE6⟩
   have hRd := hO.rd enc_bool
   obtain ⟨sa, sn, sc, rfl, hsn, hSN⟩ := hRd.val
   obtain rfl : n = sn := by rw [hSN.out, stF_length, hN.out]
   have HS6 := η hO
   have HF6 := η (HF5.out.ext hE6)
   have HA6 := η (HA5.out.ext hE6)
   have HB6 := η (HB5.out.ext hE6)
   have HE6 : Hid (Ext w w6) := η (HE5.out.trans' hE6)
   have hSgf : ∀ j, (Value.slice sa n sc).ownBlock = some j → j ∉ [gf] := fun j hj hm => by
    have h1 := (hO.lt hj).1
    have h2 := (HF5.out.lt (k := gf) rfl).2
    simp at hm
    omega
   have HSG := η hSgf
   have hgf6 := (HF6.out.lt (k := gf) rfl).2
   clear hO hE6 hRd hSgf HF5 HA5 HB5 HE5
   go_wp2_with fail
   go_loopw [7, 35] (fun v7 q wr => ∃ m : Nat, m ≤ n ∧ q = .int .i64 m ∧ ∃ ta tn tc, v7 = .slice ta tn tc ∧ Hid (∃ vs F T, Fam w6 [gf] w.heap.size (.slice (some ⟨gf, 0, none⟩) n n) (v7 :: vs) (T :: F) vs wr ∧ FInv (ahN L) n m [] F ∧ (∀ t, t ∈ T ↔ ∃ i : Nat, t = i ∧ i < m ∧ (stF false L)[i]? = some true) ∧ T.length ≤ m)) (fun _ q _ => n - (intOf q).toNat)
   case atStart =>
    refine ⟨0, Nat.zero_le _, rfl, _, _, _, rfl, η ⟨_, _, [], ⟨⟨by simp, fun t v xs hv hx => ?_, ?_⟩, HF6.out, Keep.rfl' _ _⟩, FInv.start _ _, fun t => by simp, Nat.le_refl _⟩⟩
    ·cases t with
     | zero => simp at hv hx; subst hv; subst hx; exact Own.nil _ _ _ _ _
     | succ t => exact (IRows.none w6 _ n).own t v xs (by simpa using hv) (by simpa using hx)
    ·intro s t u v j hu hv hj hj'
     cases s with
     | zero => simp at hu; subst hu; cases hj
     | succ s =>
      cases t with
      | zero => simp at hv; subst hv; cases hj'
      | succ t =>
       have := (IRows.none w6 w6.heap.size n).apart s t u v j (by simpa using hu) (by simpa using hv) hj hj'
       omega
   case round =>
    obtain ⟨m, hm, rfl, ta, tn, tc, rfl, HI⟩ := hrel
    obtain ⟨vs, F, T, hFm, hF, hT, hTl⟩ := HI.out
    have HFm := η hFm
    have HFi := η hF
    have HT := η hT
    have HTl := η hTl
    clear hFm hF hT hTl HI
    by_cases hlt : (m : Int) < n
    ·obtain ⟨b, hb⟩ := at_of_lt (xs := stF false L) (k := m) (by rw [stF_length, ← HN.out]; omega)
     have ix := fun W => (HS6.out.rd enc_bool).run_at (P := Tryz.prog) el_bool.under el_bool.size .i64 (m : Int) (by omega) (by omega) W
     have cb := ((HS6.out.keep HFm.out.keep HSG.out).rd enc_bool).cell hb (j := 0) rfl
     simp only [Nat.mul_one, Nat.add_zero, Int.toNat_natCast] at ix cb
     have HBM := η hb
     clear hb
     go_upto_if 40 with fail
     go_cut [7] from 41 to 45 (fun v7 wx => ∃ ta tn tc, v7 = .slice ta tn tc ∧ Hid (∃ T', Fam w6 [gf] w.heap.size (.slice (some ⟨gf, 0, none⟩) n n) (v7 :: vs) (T' :: F) vs wx ∧ (∀ t, t ∈ T' ↔ ∃ i : Nat, t = i ∧ i < m + 1 ∧ (stF false L)[i]? = some true) ∧ T'.length ≤ m + 1))
     case first =>
      cases b with
      | false =>
       go_wp2_with fail
       go_meet
       refine ⟨_, _, _, rfl, η ⟨T, HFm.out, fun t => ?_, by have := HTl.out; omega⟩⟩
       rw [HT.out t]
       constructor
       ·rintro ⟨i, rfl, h1, h2⟩; exact ⟨i, rfl, by omega, h2⟩
       ·rintro ⟨i, rfl, h1, h2⟩
        refine ⟨i, rfl, ?_, h2⟩
        by_cases e : i = m
        ·subst e; rw [HBM.out] at h2; cases h2
        ·omega
      | true =>
       have HRW := η HFm.out.rows.head
       go_wp2_with (at_builtin; refine app_own2 el_int (enc_int .i64) rfl _ _ rfl rfl (HRW.out.alloc _) rfl (ys := [(m : Int)]) ?q1 ?q2 ?q3 ?q4)
       case q1 => exact rd_one _ _
       case q2 => have := HTl.out; simp; omega
       case q3 => have := HFm.out.keep.size; simp; omega
       intro v' w8 hown hgrow hmv
       have HF8 := η ((HFm.out.alloc _).app (t := 0) rfl hown hgrow hmv)
       obtain ⟨a2, n2, c2, hv2, hn2, hN2⟩ := (hown.rd (enc_int .i64)).val
       subst hv2
       clear hown hgrow hmv HRW
       go_wp2_with fail
       go_meet
       refine ⟨_, _, _, rfl, η ⟨_, HF8.out, fun t => ?_, by have := HTl.out; simp; omega⟩⟩
       rw [List.mem_append, HT.out t]
       constructor
       ·rintro (⟨i, rfl, h1, h2⟩ | h1)
        ·exact ⟨i, rfl, by omega, h2⟩
        ·simp at h1
         exact ⟨m, h1, by omega, HBM.out⟩
       ·rintro ⟨i, rfl, h1, h2⟩
        by_cases e : i = m
        ·right; simp [e]
        ·exact .inl ⟨i, rfl, by omega, h2⟩
     case rest =>
      obtain ⟨ta', tn', tc', rfl, HI⟩ := hcut
      obtain ⟨T', hFm, hT, hTl⟩ := HI.out
      have HEx := η (hFm.keep.below HE6.out HE6.out.size (by simpa using hgfw))
      have HFm2 := η hFm
      have HT2 := η hT
      have HTl2 := η hTl
      clear hFm hT hTl HI HFm HT HTl ix cb
      go_wp2_with fail
      refine (p_AheadV _ L m _ (HD.out.ext HEx.out) HL.out HOK.out).mono ?_
      rintro e w9 ⟨v9, rfl, hO9, hE9⟩
      obtain ⟨xa, xn, xc, hxv, hxn, hXN⟩ := (hO9.rd (enc_int .i64)).val
      subst hxv
      have HX : Hid (aheadV L m = ahN L m) := η rfl
      rw [HX.out] at hO9 hXN
      have hx3 := ahN_le L m
      have hx4 : xn ≤ 3 := by rw [hXN.out]; exact hx3
      have HF9 := η ((HFm2.out.ext hE9).cons hO9 HFm2.out.keep.size (fun t u j hu hj => HFm2.out.rows.lt t u j hu hj))
      clear hO9 hE9 HFm2 HEx HX
      go_wp2_with fail
      go_loopw [49] (fun q wr2 => ∃ j : Nat, j ≤ xn ∧ q = .int .i64 j ∧ Hid (∃ vs F, Fam w6 [gf] w.heap.size (.slice (some ⟨gf, 0, none⟩) n n) (.slice xa xn xc :: .slice ta' tn' tc' :: vs) (ahN L m :: T' :: F) vs wr2 ∧ FInv (ahN L) n m ((ahN L m).take j) F)) (fun q _ => xn - (intOf q).toNat)
      case atStart => exact ⟨0, Nat.zero_le _, rfl, η ⟨_, _, HF9.out, HFi.out⟩⟩
      case round =>
       obtain ⟨j, hj, rfl, HI⟩ := hrel
       obtain ⟨vs2, F2, hFm, hFi⟩ := HI.out
       have HF10 := η hFm
       have HFi2 := η hFi
       clear hFm hFi HI HF9 HFi
       by_cases hjx : (j : Int) < xn
       ·obtain ⟨t, ht⟩ := at_of_lt (xs := ahN L m) (k := j) (by have := hXN.out; omega)
        obtain ⟨t0, t1, _⟩ := ahN_in (List.mem_of_getElem? ht)
        obtain ⟨k, rfl⟩ : ∃ k : Nat, t = k := ⟨t.toNat, by omega⟩
        have hkn : k < n := by rw [HN.out]; omega
        have hvl : vs2.length = n := by have := HF10.out.rows.len; have := HFi2.out.len; simp at *; omega
        obtain ⟨ys, hys⟩ := at_of_lt (xs := F2) (k := k) (by rw [HFi2.out.len]; exact hkn)
        obtain ⟨vk, hvk⟩ := at_of_lt (xs := vs2) (k := k) (by omega)
        have HROW := η (HF10.out.rows.own (k + 2) vk ys (by simpa using hvk) (by simpa using hys))
        obtain ⟨ya, yn, yc, hyv, hyn, hYN⟩ := (HROW.out.rd (enc_int .i64)).val
        subst hyv
        have HVK := η hvk
        have HYS := η hys
        have HTJ : Hid ((ahN L m).take (j + 1) = (ahN L m).take j ++ [(k : Int)]) := η (by rw [List.take_add_one, ht]; rfl)
        have HYF := η (HFi2.out.few k ys hys)
        have ix := fun W => (HF10.out.rows.head.rd (enc_int .i64)).run_at (P := Tryz.prog) el_int.under el_int.size .i64 (j : Int) (by omega) (by omega) W
        have cx := (HF10.out.rows.head.rd (enc_int .i64)).cell ht (j := 0) rfl
        have iy := fun W => (ownV_rd HF10.out.tab).run_at (P := Tryz.prog) el_rows.under el_rows.size .i64 (k : Int) (by omega) (by omega) W
        have cy := (ownV_rd HF10.out.tab).cell hvk (j := 0) rfl
        simp only [Nat.mul_one, Nat.add_zero, Int.toNat_natCast] at ix cx iy cy
        clear ht t0 t1 hys hvk hvl
        go_wp2_with (at_builtin; refine app_own2 el_int (enc_int .i64) rfl _ _ rfl rfl (HROW.out.alloc _) rfl (ys := [(m : Int)]) ?r1 ?r2 ?r3 ?r4)
        case r1 => exact rd_one _ _
        case r2 => have := HYF.out; have := ahN_le L m; simp at *; omega
        case r3 => have := HF10.out.keep.size; simp; omega
        intro v' w8 hown hgrow hmv
        have hF8 := (HF10.out.alloc _).app (t := k + 2) (by simpa using HVK.out) hown hgrow hmv
        obtain ⟨a2, n2, c2, hv2, hn2, hN2⟩ := (hown.rd (enc_int .i64)).val
        subst hv2
        obtain ⟨e1, e2, e3, e4, e5⟩ := own_val_at hF8.tab HVK.out
        have HF8 := η (hF8.tabSet HVK.out (by rw [elt_block]; simp) (.slice a2 n2 c2))
        simp only [List.set_cons_succ] at HF8
        clear hown hgrow hmv HROW ix cx cy hF8 e5 e3
        go_wp2_with fail
        go_roundw
        case rel => exact ⟨j + 1, by omega, by go_num, η ⟨_, _, HF8.out, by rw [HTJ.out]; exact HFi2.out.push HYS.out⟩⟩
        case measure => simp [intOf]; omega
       ·have hfull : (ahN L m).take j = ahN L m := List.take_of_length_le (by have := hXN.out; omega)
        have HFi3 := η (HFi2.out.next hfull (ahN_le L m))
        clear hfull
        go_wp2_with fail
        go_roundw
        case rel => exact ⟨m + 1, by omega, by go_num, _, _, _, rfl, η ⟨_, _, _, HF10.out.tail, HFi3.out, HT2.out, HTl2.out⟩⟩
        case measure => simp [intOf]; omega
    ·have hmn : m = n := by omega
     subst hmn
     have HX0 : Hid (∀ (t : Nat) (ys : List Int) (x : Int), F[t]? = some ys → (x ∈ ys ↔ ∃ i : Nat, x = i ∧ (t : Int) ∈ ahN L i)) := η (fun t ys x hy => by
      rw [HFi.out.mem t ys x hy]
      constructor
      ·rintro ⟨i, rfl, ⟨h1, h2⟩ | ⟨h1, h2⟩⟩
       ·exact ⟨i, rfl, h2⟩
       ·cases h2
      ·rintro ⟨i, rfl, h2⟩
       refine ⟨i, rfl, .inl ⟨?_, h2⟩⟩
       rcases Nat.lt_or_ge i m with h3 | h3
       ·exact h3
       ·rw [ahN_not (begins_out (by rw [← HN.out]; exact h3))] at h2
        cases h2)
     have HXF : Hid (∀ (t : Nat) (ys : List Int), F[t]? = some ys → ys.length ≤ 3 * m) := η (fun t ys hy => by have := HFi.out.few t ys hy; simpa using this)
     have hFl : F.length = m := HFi.out.len
     have hVl : vs.length = m := by have := HFm.out.rows.len; simp at this; omega
     have HA7 := η (HA6.out.keep HFm.out.keep (fun j hj => by injection hj with hj; subst hj; simpa using hfa))
     have HB7 := η (HB6.out.keep HFm.out.keep (fun j hj => by injection hj with hj; subst hj; simpa using hfb))
     have HF7 := η (HFm.out.mono (G := [gf, ga, gb]) (fun k hk => by simp at hk; subst hk; simp))
     have HTM : Hid (∀ t ∈ T, ∃ i : Nat, t = i ∧ beginsS L i = true) := η (fun t ht => by
      obtain ⟨i, rfl, h1, h2⟩ := (HT.out t).1 ht
      exact ⟨i, rfl, begins_st HB.out h2⟩)
     have HLI : Hid (LInv (rdN L) (wrN L) (ahN L) m (List.replicate m 0) (List.replicate m 0) (fun i => (i : Int) ∈ T)) := η (linv_start (fun i hi => by
      cases hb : beginsS L i with
      | false => exact .inr (rdN_not hb)
      | true => exact .inl ((HT.out i).2 ⟨i, rfl, hi, by simpa using (begins_iff.1 hb).2.2.2⟩)))
     have HBO : Hid (Both (ahN L) (List.replicate m 0) (List.replicate m 0)) := η (fun i t x y ht hx hy j hj => by
      rw [List.getElem?_replicate] at hx
      split at hx
      ·injection hx with hx
       subst hx
       simp at hj
      ·cases hx)
     obtain ⟨G, hG⟩ : ∃ G, G = m * 65536 * (3 * m + 2) + m := ⟨_, rfl⟩
     have hG2 : G ≤ 60000000000 := by
      have h1 : m * 65536 * (3 * m + 2) ≤ 33554432 * 1538 := Nat.mul_le_mul (by omega) (by omega)
      omega
     have HRM : Hid (room (List.replicate m 0) * (3 * m + 2) + T.length ≤ G) := η (by
      have h1 := room_le (List.replicate m 0)
      rw [List.length_replicate] at h1
      have h2 := Nat.mul_le_mul_right (3 * m + 2) h1
      have := HTl.out
      omega)
     have HGA : Hid (∀ k ∈ [gf, ga, gb], w.heap.size ≤ k) := η (fun k hk => by
      have h1 := (HA6.out.lt (k := ga) rfl).1
      have h2 := (HB6.out.lt (k := gb) rfl).1
      simp at hk
      omega)
     have HW := η (fun i => wrN_lt HOK.out i)
     have HR := η (fun i => rdN_lt HOK.out i)
     clear HFi HFm HA6 HB6 HF6 HS6 HSG HT HTl hG
     go_wp2_with fail
     go_loopg [7] G (fun gk v7 wr => ∃ ta tn tc, v7 = .slice ta tn tc ∧ Hid (∃ a b T, Fam w6 [gf, ga, gb] w.heap.size (.slice (some ⟨gf, 0, none⟩) m m) (v7 :: vs) (T :: F) vs wr ∧ Own wr w.heap.size 51 1 encN (.slice (some ⟨ga, 0, none⟩) m m) a ∧ Own wr w.heap.size 51 1 encN (.slice (some ⟨gb, 0, none⟩) m m) b ∧ LInv (rdN L) (wrN L) (ahN L) m a b (fun i => (i : Int) ∈ T) ∧ Both (ahN L) a b ∧ (∀ t ∈ T, ∃ i : Nat, t = i ∧ beginsS L i = true) ∧ room a * (3 * m + 2) + T.length ≤ gk ∧ gk ≤ G))
     case atStart => exact ⟨_, _, _, rfl, η ⟨_, _, _, HF7.out, HA7.out, HB7.out, HLI.out, HBO.out, HTM.out, HRM.out, Nat.le_refl _⟩⟩
     case round =>
      obtain ⟨sa', sn', sc', rfl, HI⟩ := hrel
      obtain ⟨a, b, T, hFm, hA, hB, hL, hBo, hTm, hRm, hGk⟩ := HI.out
      have HFm := η hFm
      have HA := η hA
      have HBb := η hB
      have HLI := η hL
      have HBo := η hBo
      have HTm := η hTm
      have HRm := η hRm
      clear hFm hA hB hL hBo hTm hRm HI HF7 HA7 HB7 HTM HRM HBO
      rcases T.eq_nil_or_concat with rfl | ⟨T', t, rfl⟩
      ·obtain rfl : sn' = 0 := by simpa using HFm.out.rows.head.len
       have HQ := η (live_done HB.out HOK.out (by rw [← HN.out]; exact HLI.out) (fun i => by simp) HBo.out)
       have HEE := η (HFm.out.keep.below HE6.out HE6.out.size HGA.out)
       go_wp2_with fail
       go_returns
       exact ⟨_, _, rfl, by rw [← HQ.out.1]; exact HA.out, by rw [← HQ.out.2]; exact HBb.out, HEE.out⟩
      ·rw [List.concat_eq_append] at HFm HLI HTm HRm
       obtain ⟨k, hk, hbk⟩ := HTm.out t (by simp)
       subst hk
       obtain ⟨_, hkl, x, hx⟩ : True ∧ k < L.length ∧ ∃ x, L[k]? = some x := by
        obtain ⟨k', e1, e2, x, e3⟩ := begins_at hbk
        obtain rfl : k = k' := by omega
        exact ⟨trivial, e2, x, e3⟩
       have hkn : k < m := by rw [HN.out]; exact hkl
       have HXI := η hx
       have HXOK := η (HOK.out.at hx)
       have HRK := η (rdN_at hbk hx)
       have HWK := η (wrN_at hbk hx)
       have HBK := η hbk
       clear hx hbk hkl
       have hHd := HFm.out.rows.head
       obtain ⟨g, rfl⟩ : ∃ g, sa' = some ⟨g, 0, none⟩ := by
        rcases hHd.2 with ⟨hv, hz⟩ | ⟨g, cap, cur, hv, _⟩
        ·simp at hz
        ·injection hv with e1; exact ⟨g, e1⟩
       have hn1 : sn' = T'.length + 1 := by have := hHd.len; simpa using this
       subst hn1
       have hrd := hHd.rd (enc_int .i64)
       have i0 := fun W => hrd.run_at (P := Tryz.prog) el_int.under el_int.size .i64 (T'.length : Int) (by omega) (by omega) W
       have c0 := hrd.cell (i := T'.length) (x := (k : Int)) (by simp) (j := 0) rfl
       have s0 := fun W => hrd.run_cut_h (P := Tryz.prog) el_int.under el_int.size .i64 (T'.length : Int) (by omega) (by omega) W
       have hcut : cutV (.slice (some ⟨g, 0, none⟩) (T'.length + 1) sc') 0 T'.length 1 = .slice (some ⟨g, 0, none⟩) T'.length sc' := by
        unfold cutV sliced
        simp [Addr.add]
       simp only [Nat.mul_one, Nat.add_zero, Int.toNat_natCast, hcut] at i0 c0 s0
       have hTb : T'.length ≤ 60000000000 := by have := HRm.out; simp at this; omega
       have c1 : wr.cell? ⟨g, T'.length, none⟩ = some (.int .i64 (k : Int)) := by
        rw [show (⟨g, T'.length, none⟩ : Addr) = elt (.slice (some ⟨g, 0, none⟩) (T'.length + 1) sc') T'.length from by simp [elt, Addr.add_lit]]
        exact c0
       have HFs : Hid (Fam w6 [gf, ga, gb] w.heap.size (.slice (some ⟨gf, 0, none⟩) m m) (.slice (some ⟨g, 0, none⟩) T'.length sc' :: vs) (T' :: F) vs wr) := η ⟨HFm.out.rows.short0 (Own.short hHd) rfl, HFm.out.tab, HFm.out.keep⟩
       obtain ⟨x0, hx0⟩ := at_of_lt (xs := a) (k := k) (by rw [HLI.out.la]; exact hkn)
       obtain ⟨y0, hy0⟩ := at_of_lt (xs := b) (k := k) (by rw [HLI.out.lb]; exact hkn)
       have HX0' := η hx0
       have HY0' := η hy0
       have hEw := HFm.out.keep.below HE6.out HE6.out.size HGA.out
       have ixL := fun W => HD.out.run_at (P := Tryz.prog) el_ins.under el_ins.size .i64 (k : Int) (by omega) (by omega) W
       have ixB := fun W => (HBb.out.rd enc_nat).run_at (P := Tryz.prog) el_u16.under el_u16.size .i64 (k : Int) (by omega) (by omega) W
       have ixA := fun W => (HA.out.rd enc_nat).run_at (P := Tryz.prog) el_u16.under el_u16.size .i64 (k : Int) (by omega) (by omega) W
       obtain ⟨l0, l1, l2, l3, l4⟩ := ins_cells (HD.out.ext hEw) HXI.out
       have cB := (HBb.out.rd enc_nat).cell hy0 (j := 0) rfl
       simp only [Nat.mul_one, Nat.add_zero, Int.toNat_natCast] at ixL ixB ixA cB
       have HST : Hid (bits .or .u16 ((readsS x : Nat) : Int) (bits .andNot .u16 (y0 : Int) ((writesS x : Nat) : Int)) = ((stepS (rdN L k) y0 (wrN L k) : Nat) : Int)) := η (by
        rw [HRK.out, HWK.out]
        exact step_u16 (readsS_lt HXOK.out) (HLI.out.ltB HR.out hy0) (writesS_lt HXOK.out))
       have HEW := η hEw
       clear hrd hHd hcut hx0 hy0 hEw
       obtain ⟨S, hS⟩ : ∃ S, stepS (rdN L k) y0 (wrN L k) = S := ⟨_, rfl⟩
       rw [hS] at HST
       have HSS := η hS
       clear hS
       go_upto_region 21 with fail
       clear i0 c0 s0 c1
       go_cut [13] from 79 to 95 (fun v13 wx => v13 = .int .u16 (S : Int) ∧ Hid (Ext wr wx))
       case first =>
        have p0 := Grow.cell l0
        have p1 := Grow.cell l1
        have p2 := Grow.cell l2
        have p3 := Grow.cell l3
        have p4 := Grow.cell l4
        have pB := Grow.cell cB
        clear l0 l1 l2 l3 l4 cB
        refine wp_region_grow (by kernel_rfl) (by kernel_rfl) ?_
        repeat (go_big_quiet_step (first | (go_at_call 70; exact Calls.grow (l_reads x _ HXOK.out)) | (go_at_call 71; exact Calls.grow (l_writes x _ HXOK.out))))
        refine wpQuiet_nil ?_
        rintro _ ⟨⟨wq, hwq⟩, rfl⟩
        go_wp2_with fail
        go_meet
        exact ⟨by rw [HST.out], η hwq⟩
       case rest =>
        obtain ⟨rfl, HE8⟩ := hcut
        clear l0 l1 l2 l3 l4 cB ixL ixB
        have HF8 := η (HFs.out.ext HE8.out)
        have HA8 := η (HA.out.ext HE8.out)
        have HB8 := η (HBb.out.ext HE8.out)
        obtain ⟨e1, e2, e3, e4, e5⟩ := own_nat_at HA8.out HX0'.out
        clear HFs HFm HA HBb HE8 HEW
        by_cases heq : S = x0
        ·subst heq
         have HLs : Hid (LInv (rdN L) (wrN L) (ahN L) m a b (fun i => (i : Int) ∈ T')) := η (HLI.out.stay (fun i hi => (by rcases (by simpa using hi : (i : Int) ∈ T' ∨ (i : Int) = (k : Int)) with h | h; exact .inl h; exact .inr (by omega))) HX0'.out HY0'.out HSS.out)
         have HTm2 : Hid (∀ t ∈ T', ∃ i : Nat, t = i ∧ beginsS L i = true) := η (fun t ht => HTm.out t (List.mem_append_left _ ht))
         have hlen : T'.length + 1 + room a * (3 * m + 2) ≤ gk := by have := HRm.out; simp at this; omega
         clear e3 e5 HLI HTm
         go_wp2_with fail
         go_roundg (gk - 1)
         case measure => omega
         case rel => exact ⟨_, _, _, rfl, η ⟨a, b, T', HF8.out, HA8.out, HB8.out, HLs.out, HBo.out, HTm2.out, by omega, by omega⟩⟩
        ·have hle : S < 65536 := by rw [← HSS.out]; exact step_lt (HR.out k) (HLI.out.ltB HR.out HY0'.out) (HW.out k)
         have hlt0 : x0 < S := by
          have h1 := (HLI.out.sub k x0 y0 HX0'.out HY0'.out).le
          rw [HSS.out] at h1
          omega
         have HRM2 := η (room_set a k x0 S HX0'.out hlt0 hle)
         have hbq : ((S : Int) == (x0 : Int)) = false := by simp; omega
         have HA9 := η (e5 S).1
         have HF9 := η (HF8.out.store HA8.out e3 (by rw [elt_block]; simp) (.int .u16 (S : Int)))
         have HB9 : Hid (Own (wc.setCell (elt (.slice (some ⟨ga, 0, none⟩) m m) k) (.int .u16 (S : Int))) w.heap.size 51 1 encN (.slice (some ⟨gb, 0, none⟩) m m) b) := η (HB8.out.keep (F := [ga]) ((Keep.rfl' _ _).setCell (by rw [elt_block]; simp) _) (fun j hj => by injection hj with hj; subst hj; simpa using fun e => hab e.symm))
         have HLg : Hid (LInv (rdN L) (wrN L) (ahN L) m (a.set k S) b (fun i => (i : Int) ∈ T')) := η (by
          have := HLI.out.grow (T' := fun i => (i : Int) ∈ T') HR.out HW.out (fun i hi => (by rcases (by simpa using hi : (i : Int) ∈ T' ∨ (i : Int) = (k : Int)) with h | h; exact .inl h; exact .inr (by omega))) HX0'.out HY0'.out
          rw [HSS.out] at this
          exact this)
         have HBg : Hid (BothU (ahN L) (a.set k S) b k []) := η (HBo.out.grow (by rw [HLI.out.la]; exact hkn))
         have HTm2 : Hid (∀ t ∈ T', ∃ i : Nat, t = i ∧ beginsS L i = true) := η (fun t ht => HTm.out t (List.mem_append_left _ ht))
         have hlen : T'.length + 1 + room a * (3 * m + 2) ≤ gk := by have := HRm.out; simp at this; omega
         have HSK : Hid ((a.set k S)[k]? = some S) := η (List.getElem?_set_self (by rw [HLI.out.la]; exact hkn))
         obtain ⟨X, hX⟩ := at_of_lt (xs := F) (k := k) (by omega)
         obtain ⟨vk, hvk⟩ := at_of_lt (xs := vs) (k := k) (by omega)
         obtain ⟨xa, xn, xc, hxv, hxn, hXN⟩ := ((HF9.out.rows.own (k + 1) vk X (by simpa using hvk) (by simpa using hX)).rd (enc_int .i64)).val
         subst hxv
         have HVK := η hvk
         have HXX := η hX
         have hx3 := HXF.out k X hX
         have hx4 : xn ≤ 3 * m := by rw [hXN.out]; exact hx3
         have HXM := η (fun x => HX0.out k X x hX)
         have hnl : (a.set k S).length = m := HLg.out.la
         clear hX hvk hx3 e3 e5 HLI HTm HBo HB8 HA8 HF8 HRm HX0' HY0' HSS hle hlt0
         go_upto_region 24 with fail
         generalize hF : World.setCell wc (elt (.slice (some ⟨ga, 0, none⟩) m m) k) (.int .u16 (S : Int)) = w9 at HA9 HF9 HB9 ⊢
         clear hF e1 e2 e4
         have iF := fun W => (ownV_rd HF9.out.tab).run_at (P := Tryz.prog) el_rows.under el_rows.size .i64 (k : Int) (by omega) (by omega) W
         have cF := (ownV_rd HF9.out.tab).cell HVK.out (j := 0) rfl
         simp only [Nat.mul_one, Nat.add_zero, Int.toNat_natCast] at iF cF
         go_wp2_with fail
         go_loopw [7, 110] (fun v7 q wr2 => ∃ j : Nat, j ≤ xn ∧ q = .int .i64 j ∧ ∃ ta tn tc, v7 = .slice ta tn tc ∧ Hid (∃ b T, Fam w6 [gf, ga, gb] w.heap.size (.slice (some ⟨gf, 0, none⟩) m m) (v7 :: vs) (T :: F) vs wr2 ∧ Own wr2 w.heap.size 51 1 encN (.slice (some ⟨ga, 0, none⟩) m m) (a.set k S) ∧ Own wr2 w.heap.size 51 1 encN (.slice (some ⟨gb, 0, none⟩) m m) b ∧ LInv (rdN L) (wrN L) (ahN L) m (a.set k S) b (fun i => (i : Int) ∈ T) ∧ BothU (ahN L) (a.set k S) b k (X.take j) ∧ (∀ t ∈ T, ∃ i : Nat, t = i ∧ beginsS L i = true) ∧ T.length ≤ T'.length + j)) (fun _ q _ => xn - (intOf q).toNat)
         case atStart => exact ⟨0, Nat.zero_le _, rfl, _, _, _, rfl, η ⟨b, T', HF9.out, HA9.out, HB9.out, HLg.out, HBg.out, HTm2.out, Nat.le_refl _⟩⟩
         case round =>
          obtain ⟨j, hj, rfl, ta, tn, tc, rfl, HI⟩ := hrel
          obtain ⟨b2, T2, hFm, hA, hB, hLi, hBu, hTm, hTl⟩ := HI.out
          have HF1 := η hFm
          have HA1 := η hA
          have HB1 := η hB
          have HL1 := η hLi
          have HU1 := η hBu
          have HT1 := η hTm
          have HTl1 := η hTl
          clear hFm hA hB hLi hBu hTm hTl HI HF9 HA9 HB9 HLg HBg HTm2 iF cF
          by_cases hjx : (j : Int) < xn
          ·obtain ⟨t, ht⟩ := at_of_lt (xs := X) (k := j) (by have := hXN.out; omega)
           obtain ⟨i, rfl, hia⟩ := (HXM.out t).1 (List.mem_of_getElem? ht)
           have hbi : beginsS L i = true := by
            cases hb : beginsS L i with
            | true => rfl
            | false => rw [ahN_not hb] at hia; cases hia
           have hin : i < m := by
            have := (begins_iff.1 hbi).2.2.1
            rw [HN.out]; omega
           obtain ⟨y, hy⟩ := at_of_lt (xs := b2) (k := i) (by rw [HL1.out.lb]; exact hin)
           have HY := η hy
           have HBI := η hbi
           have HIA := η hia
           have HTJ : Hid (X.take (j + 1) = X.take j ++ [(i : Int)]) := η (by rw [List.take_add_one, ht]; rfl)
           have hrowX := HF1.out.rows.own (k + 1) (.slice xa xn xc) X (by simpa using HVK.out) (by simpa using HXX.out)
           have iX := fun W => (hrowX.rd (enc_int .i64)).run_at (P := Tryz.prog) el_int.under el_int.size .i64 (j : Int) (by omega) (by omega) W
           have cX := (hrowX.rd (enc_int .i64)).cell ht (j := 0) rfl
           have iB := fun W => (HB1.out.rd enc_nat).run_at (P := Tryz.prog) el_u16.under el_u16.size .i64 (i : Int) (by omega) (by omega) W
           simp only [Nat.mul_one, Nat.add_zero, Int.toNat_natCast] at iX cX iB
           obtain ⟨e1, e2, e3, e4, e5⟩ := own_nat_at HB1.out hy
           have HB2 := η (e5 (y ||| S)).1
           have HF2 := η (HF1.out.store HB1.out e3 (by rw [elt_block]; simp) (.int .u16 ((y ||| S : Nat) : Int)))
           have HA2 : Hid (Own (wr.setCell (elt (.slice (some ⟨gb, 0, none⟩) m m) i) (.int .u16 ((y ||| S : Nat) : Int))) w.heap.size 51 1 encN (.slice (some ⟨ga, 0, none⟩) m m) (a.set k S)) := η (HA1.out.keep (F := [gb]) ((Keep.rfl' _ _).setCell (by rw [elt_block]; simp) _) (fun j hj => by injection hj with hj; subst hj; simpa using hab))
           have hor : bits .or .u16 (y : Int) (S : Int) = ((y ||| S : Nat) : Int) := or_u16 (HL1.out.ltB HR.out hy) (HL1.out.ltA HR.out HSK.out)
           clear hrowX ht hia hbi hy e3 e5
           go_upto_region 28 with fail
           generalize hF : World.setCell wr (elt (.slice (some ⟨gb, 0, none⟩) m m) i) (.int .u16 ((y ||| S : Nat) : Int)) = w9 at HA2 HF2 HB2 ⊢
           clear hF e1 e2 e4 iX cX iB hor HF1 HA1 HB1
           have HRW := η HF2.out.rows.head
           go_wp2_with (at_builtin; refine app_own2 el_int (enc_int .i64) rfl _ _ rfl rfl (HRW.out.alloc _) rfl (ys := [(i : Int)]) ?t1 ?t2 ?t3 ?t4)
           case t1 => exact rd_one _ _
           case t2 => have := HTl1.out; simp; omega
           case t3 => have := HF2.out.keep.size; simp; omega
           intro v' w8' hown hgrow hmv
           have HF3 := η ((HF2.out.alloc _).app (t := 0) rfl hown hgrow hmv)
           have HA3 := η ((HF2.out.alloc _).u16 (t := 0) rfl hgrow (HA2.out.alloc _))
           have HB3 := η ((HF2.out.alloc _).u16 (t := 0) rfl hgrow (HB2.out.alloc _))
           obtain ⟨a2, n2, c2, hv2, hn2, hN2⟩ := (hown.rd (enc_int .i64)).val
           subst hv2
           clear hown hgrow hmv HRW HF2 HA2 HB2
           go_wp2_with fail
           go_roundw
           case rel =>
            refine ⟨j + 1, by omega, by go_num, _, _, _, rfl, η ⟨b2.set i (y ||| S), T2 ++ [(i : Int)], HF3.out, HA3.out, HB3.out, ?_, ?_, fun t ht => ?_, by have := HTl1.out; simp; omega⟩⟩
            ·exact HL1.out.tell HR.out HW.out (fun i hi => List.mem_append_left _ hi) (by simp) HIA.out HSK.out HY.out
            ·rw [HTJ.out]
             exact HU1.out.tell HSK.out HY.out
            ·rcases List.mem_append.1 ht with h | h
             ·exact HT1.out t h
             ·simp at h
              exact ⟨i, h, HBI.out⟩
           case measure => simp [intOf]; omega
          ·have hfull : X.take j = X := List.take_of_length_le (by have := hXN.out; omega)
           have HBo2 : Hid (Both (ahN L) (a.set k S) b2) := η ((by rw [hfull] at HU1; exact HU1.out : BothU (ahN L) (a.set k S) b2 k X).all (fun i hi => (HXM.out i).2 ⟨i, rfl, hi⟩))
           have hmul := Nat.mul_le_mul_right (3 * m + 2) HRM2.out
           rw [Nat.add_mul, Nat.one_mul] at hmul
           have htl := HTl1.out
           clear hfull HU1
           go_wp2_with fail
           go_roundg (gk - 1)
           case measure => omega
           case rel => exact ⟨_, _, _, rfl, η ⟨_, b2, T2, HF1.out, HA1.out, HB1.out, HL1.out, HBo2.out, HT1.out, by omega, by omega⟩⟩
end Go.Proofs.YtppefchjoodgnaaGreat
