/- The document's maps: Drop. -/
import Derived.Test.YtjimmbcihcmfoaaRTD
namespace Go.Proofs.Ytjimmbcihcmfoaa
open Go.RowKit
set_option linter.unusedVariables false
set_option linter.unusedSimpArgs false

def neK (s : ByteArray) (p : ByteArray × Nat) : Bool := !(p.1 == s)
def rdrop (T : List TM) (i : Int) (ks : List Int) : List TM × Int × Int :=
  match tfind T i ks.length with
  | none => (T, 0, 1)
  | some t => if t.hash = false then (T, 18446744073709551594, 0) else
    if (t.slots.filter (neK (strOfNums ks))).length = t.slots.length then (T, 18446744073709551614, 0) else (T.set i.toNat { t with slots := t.slots.filter (neK (strOfNums ks)) }, 0, 0)
def RDropT (base tb : Nat) (S : RTabs) (i : Int) (ks : List Int) (w : World) (e : Ending) (w' : World) : Prop :=
  e = .returned (.tuple #[.int .u64 (rdrop (rview S).2 i ks).2.1, .int .i64 (rdrop (rview S).2 i ks).2.2]) ∧ Keep (rtfoot tb S) w w' ∧ ∃ S', RTabAt w' base tb S' ∧ rview S' = ((rview S).1, (rdrop (rview S).2 i ks).1) ∧ (∀ j ∈ rtfoot tb S', j ∈ rtfoot tb S ∨ w.heap.size ≤ j) ∧ S'.rb = S.rb
theorem rdrop_same {base tb : Nat} {S : RTabs} {i : Int} {ks : List Int} {a b : Int} {w w' : World} (h : RTabAt w base tb S) (he : Ext w w') (e : rdrop (rview S).2 i ks = ((rview S).2, a, b)) : RDropT base tb S i ks w (.returned (.tuple #[.int .u64 a, .int .i64 b])) w' :=
  ⟨by rw [e], Keep.of_ext he, S, h.ext he, by rw [e], fun j hj => .inl hj, rfl⟩
theorem filter_take (s : ByteArray) {L : List (ByteArray × Nat)} {q : Nat} {p : ByteArray × Nat} (h : L[q]? = some p) : (L.take (q + 1)).filter (neK s) = (L.take q).filter (neK s) ++ if neK s p = true then [p] else [] := by
  rw [List.take_add_one, h, List.filter_append]
  congr 1
  simp only [Option.toList_some, List.filter_cons, List.filter_nil]
set_option maxRecDepth 20000 in
set_option maxHeartbeats 8000000 in
theorem rtab_drop (base tb : Nat) (S : RTabs) (i : Int) (kv : Value) (ks : List Int) (w : World) (h : RTabAt w base tb S) (hbase : base ≤ w.heap.size) (HLB : Hid (∀ x ∈ S.R, x.T.slots.length ≤ 1000)) (hk : Sl w .u8 kv ks) :
    Calls Try.prog 36 #[.pointer (some ⟨tb, 0, none⟩), .int .i64 i, kv] w (RDropT base tb S i ks w) := by
  have HT := Lib.hid h
  obtain ⟨ka, kn, kc, rfl, hkn, hKN⟩ := hk.val
  have HK := Lib.hid hk
  clear h hk
  rcases tfind_cases' (S.R.map (·.T)) i ks.length with h0 | ⟨j, t, rfl, hp, hkk⟩
  · have H0 := Lib.hid h0
    clear h0
    go_enter Try.func36, Try.ntmps36
    go_wp2_with fail
    refine (rtab_may base tb S i _ ks w HT.out HK.out).mono ?_
    rintro e w1 ⟨rfl, rfl⟩
    rw [H0.out]
    go_wp2_with fail
    go_returns
    exact rdrop_same HT.out (Ext.rfl' _) (by simp only [rdrop, rview, H0.out])
  · obtain ⟨x, hx, hxt, hxm⟩ := rpick S j t hp
    have hf : tfind (S.R.map (·.T)) j ks.length = some x.T := by rw [hxt]; exact tfind_at' hp hkk
    clear hp hkk hxt
    have hj8 : j < S.R.length := (List.getElem?_eq_some_iff.1 hx).1
    have HMD := Lib.hid (HT.out.made x hxm)
    have HX := Lib.hid hf
    have HXI := Lib.hid hx
    have HM := Lib.hid hxm
    have hl1000 := HLB.out x hxm
    have hb1 := cell_obj (i := 1) HT.out.head
    simp only [List.getElem?_toArray, List.getElem?_cons_zero, List.getElem?_cons_succ] at hb1
    have RMM := Lib.hid (HT.out.maps.rd enc_rm)
    obtain ⟨ma, mn, mc, hmv, hmn, hMN⟩ := RMM.out.val
    have HMV := Lib.hid hmv
    rw [hmv] at hb1 RMM
    have hi1 : ((j : Nat) : Int) < (mn : Int) := by have := hMN.out; omega
    have RK := Lib.hid ((HT.out.keys x hxm).rd enc_ks)
    obtain ⟨la, ln, lc, hlv, hln, hLN⟩ := RK.out.val
    have HLV := Lib.hid hlv
    rw [hlv] at RK
    have ix := fun W => RMM.out.run_at (P := Try.prog) el_rm.under el_rm.size .i64 (j : Int) (by omega) (by omega) W
    obtain ⟨c0, c1, c2, c3, c4, c5⟩ := rm_cells RMM.out hx
    simp only [Int.toNat_natCast] at ix
    rw [hlv] at c4
    have HSL : Hid ((ln : Int) = (x.T.slots.length : Int)) := Lib.hid (by have := hLN.out; omega)
    clear hf hx hxm hmv hlv c1 c2 c3 c5
    go_enter Try.func36, Try.ntmps36
    go_wp2_with fail
    refine (rtab_may base tb S j _ ks w HT.out HK.out).mono ?_
    rintro e w1 ⟨rfl, rfl⟩
    rw [HX.out]
    cases hh : x.T.hash with
    | false =>
      have HH := Lib.hid hh
      rw [hh] at c0
      clear hh
      go_wp2_with fail
      refine (rtab_minus 22 _ (by decide) (by decide)).mono ?_
      rintro e w3 ⟨rfl, rfl⟩
      go_wp2_with fail
      go_returns
      exact rdrop_same HT.out (Ext.rfl' _) (by simp only [rdrop, rview, HX.out, HH.out, if_true])
    | true =>
      have HH := Lib.hid hh
      rw [hh] at c0
      clear hh
      have HSB : Hid (∀ u, Ext w1 u → u.cell? ⟨tb, 1, none⟩ = some (.slice ma mn mc) ∧ u.cell? ⟨(elt (.slice ma mn mc) (j * 6)).block, (elt (.slice ma mn mc) (j * 6)).off + 4, none⟩ = some (.slice la ln lc)) := Lib.hid fun u k => ⟨k.cellOf hb1, k.cellOf c4⟩
      go_wp2_with fail
      go_loopw [9, 8] (fun q v wr => ∃ (k : Nat), k ≤ ln ∧ q = .int .i64 k ∧ (∃ a n c, v = .slice a n c) ∧ Ext w1 wr ∧ Hid (Own wr w1.heap.size 90 2 encKS v ((x.T.slots.take k).filter (neK (strOfNums ks))))) (fun q _ _ => ln - (intOf q).toNat)
      case atStart => exact ⟨0, Nat.zero_le _, rfl, ⟨_, _, _, rfl⟩, Ext.rfl' _, Lib.hid (Own.nil _ _ _ _ _)⟩
      case round =>
        obtain ⟨k, hk, rfl, ⟨ra, rn, rc, rfl⟩, hwr, HO⟩ := hrel
        obtain ⟨d1, d4⟩ := HSB.out _ hwr
        by_cases hlt : (k : Int) < ln
        · obtain ⟨p, hp⟩ := at_of_lt (xs := x.T.slots) (k := k) (by have := HSL.out; omega)
          have iy := fun W => RK.out.run_at (P := Try.prog) el_rk.under el_rk.size .i64 (k : Int) (by omega) (by omega) W
          simp only [Int.toNat_natCast] at iy
          obtain ⟨z0, z1⟩ := ks_cells (RK.out.ext hwr) hp
          have st := fun n => ((HK.out.ext hwr).ext ((Ext.rfl' _).drewN' n)).run_str (P := Try.prog) Try.underlying40 Try.underlying5 Try.underlying9
          have HFT := Lib.hid (filter_take (strOfNums ks) hp)
          have hfl : ((x.T.slots.take k).filter (neK (strOfNums ks))).length ≤ 1000 := Nat.le_trans (List.length_filter_le _ _) (by simp; omega)
          clear hp
          by_cases he : p.1 = strOfNums ks
          · have hn : neK (strOfNums ks) p = false := by simp [neK, he]
            have HO2 := Lib.hid (show (x.T.slots.take (k + 1)).filter (neK (strOfNums ks)) = (x.T.slots.take k).filter (neK (strOfNums ks)) by rw [HFT.out, hn]; simp)
            rw [he] at z0
            clear he hn
            have HKS2 := HO2
            go_wp2_with fail
            generalize hsk : strOfNums ks = sk at st z0
            clear hsk
            go_quiet (fail)
            go_wp2_with fail
            go_roundw
            case rel => exact ⟨k + 1, by omega, by go_num, ⟨_, _, _, rfl⟩, hwr.drewN' _, Lib.hid (by rw [HO2.out]; exact HO.out.ext ((Ext.rfl' _).drewN' _))⟩
            case measure => simp [intOf]; omega
          · have hn : neK (strOfNums ks) p = true := by simp [neK, he]
            have HO2 := Lib.hid (show (x.T.slots.take (k + 1)).filter (neK (strOfNums ks)) = (x.T.slots.take k).filter (neK (strOfNums ks)) ++ [p] by rw [HFT.out, hn]; simp)
            have hb : (p.1.toList == (strOfNums ks).toList) = false := by rw [← beq_toListBytes]; exact ba_ne he
            clear he hn
            go_wp2_with fail
            generalize hsk : strOfNums ks = sk at st hb
            clear hsk
            go_quiet (fail)
            have z0' := ((Ext.rfl' wr).drewN' nq).cellOf z0
            have z1' := ((Ext.rfl' wr).drewN' nq).cellOf z1
            go_wp2_with (at_builtin; refine app_own el_rk enc_ks rfl _ _ rfl rfl ((HO.out.ext ((Ext.rfl' _).drewN' nq)).alloc _) rfl (ys := [p]) ?r2 ?r3 ?r4 ?r5)
            case r2 => exact key_lit (wr.drewN nq) p.1 p.2 _ rfl
            case r3 => first | omega | (simp; omega)
            case r4 => have := hwr.size; first | exact this | (simp; omega)
            intro v7 w7 hown7 hg7 hb7
            have hE7 : Ext w1 w7 := hb7 _ _ ((hwr.drewN' _).alloc' _) (Nat.le_refl _)
            obtain ⟨qa, qn, qc, rfl, hqn, -⟩ := (hown7.rd enc_ks).val
            have HO7 := Lib.hid hown7
            clear hown7 hg7 hb7
            go_wp2_with fail
            go_roundw
            case rel => exact ⟨k + 1, by omega, by go_num, ⟨_, _, _, rfl⟩, hE7, Lib.hid (by rw [HO2.out]; exact HO7.out)⟩
            case measure => simp [intOf]; omega
        · have hall : x.T.slots.take k = x.T.slots := List.take_of_length_le (by have := HSL.out; omega)
          rw [hall] at HO
          obtain ⟨ra', rn', rc', hrv, hrn, HRN⟩ := (HO.out.rd enc_ks).val
          injection hrv with e1 e2 e3
          subst e1 e2 e3
          have HE := Lib.hid hwr
          have HTw := Lib.hid (HT.out.ext hwr)
          by_cases hlen : rn = ln
          · have HLEN : Hid ((x.T.slots.filter (neK (strOfNums ks))).length = x.T.slots.length) := Lib.hid (by have := HRN.out; have := HSL.out; omega)
            have d0 : ((rn : Int) == (ln : Int)) = true := beq_iff_eq.2 (by omega)
            clear hlen hall hk
            go_wp2_with fail
            refine (rtab_minus 2 _ (by decide) (by decide)).mono ?_
            rintro e w3 ⟨rfl, rfl⟩
            go_wp2_with fail
            go_returns
            exact rdrop_same HT.out HE.out (by simp only [rdrop, rview, HX.out, HH.out, Bool.true_eq_false, if_false]; rw [if_pos HLEN.out])
          · have HLEN : Hid (¬ (x.T.slots.filter (neK (strOfNums ks))).length = x.T.slots.length) := Lib.hid (by have := HRN.out; have := HSL.out; omega)
            have d0 : ((rn : Int) == (ln : Int)) = false := by simp; omega
            obtain ⟨p1, p2, p3, p4, p5⟩ := rm_field HTw.out.maps HXI.out 4 (by decide) (by decide)
            rw [HMV.out] at p1 p2
            rw [show (RM.enc x)[4]? = some x.lv from rfl, HLV.out] at p1
            have HP5 := Lib.hid p5
            have P3 := Lib.hid p3
            have P4 := Lib.hid p4
            clear hlen hall hk p3 p4 p5
            go_wp2_with fail
            go_returns
            have hE : elt S.mv (j * 6) = elt (.slice ma mn mc) (j * 6) := by rw [HMV.out]
            have hlv2 : RM.lv ⟨ra, rc, { x.T with slots := x.T.slots.filter (neK (strOfNums ks)) }⟩ = .slice ra rn rc := by simp only [RM.lv]; rw [HRN.out]
            have p5 := HP5.out ⟨ra, rc, { x.T with slots := x.T.slots.filter (neK (strOfNums ks)) }⟩ (.slice ra rn rc) (by simp only [RM.enc]; rw [hlv2]; rfl)
            have hk2 : Keep S.mv.ownBlock.toList w1 (wr.setCell ⟨(elt S.mv (j * 6)).block, (elt S.mv (j * 6)).off + 4, none⟩ (.slice ra rn rc)) := (Keep.of_ext HE.out).setCell (by rw [P3.out]; simp) _
            have hlow : (elt S.mv (j * 6)).block < w1.heap.size := (HT.out.maps.lt P3.out).2
            have hkeys2 := HO.out.other (a := ⟨(elt S.mv (j * 6)).block, (elt S.mv (j * 6)).off + 4, none⟩) hlow (.slice ra rn rc)
            have h2 := HT.out.set (y := ⟨ra, rc, { x.T with slots := x.T.slots.filter (neK (strOfNums ks)) }⟩) HXI.out hk2 p5 (by rw [hlv2]; exact hkeys2.mono hbase) (fun q hq => .inr (by
              rw [hlv2] at hq
              exact (hkeys2.lt hq).1)) ⟨HMD.out.1, fun p hp => HMD.out.2 p (List.mem_filter.1 hp).1⟩
            rw [hE] at h2 hk2
            have hmvf : ∀ q ∈ S.mv.ownBlock.toList, q ∈ rtfoot tb S := fun q hq => by simp only [rtfoot, List.mem_cons, List.mem_append]; exact .inr (.inl hq)
            have hr : rdrop (rview S).2 j ks = ((rview S).2.set j { x.T with slots := x.T.slots.filter (neK (strOfNums ks)) }, 0, 0) := by
              simp only [rdrop, rview, HX.out, HH.out, Bool.true_eq_false, if_false]
              rw [if_neg HLEN.out, Int.toNat_natCast]
            refine ⟨by rw [hr]; rfl, hk2.mono fun q hq => .inl (hmvf q hq), _, h2.1, ?_, h2.2, rfl⟩
            rw [hr]
            simp only [rview, List.map_set]
end Go.Proofs.Ytjimmbcihcmfoaa
