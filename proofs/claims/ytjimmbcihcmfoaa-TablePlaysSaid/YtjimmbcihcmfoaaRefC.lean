/- The document's memory: Store. -/
import Derived.Test.YtjimmbcihcmfoaaRefA
namespace Go.Proofs.Ytjimmbcihcmfoaa
open Go.RowKit
set_option linter.unusedVariables false
set_option linter.unusedSimpArgs false

def RStoreAns (base b : Nat) (lv : Value) (L : List RR) (p s n : Int) (w : World) (e : Ending) (w' : World) : Prop :=
  e = .returned (.int .i64 (mstore (viewR L) p s n).2) ∧ Keep (rfoot b lv L) w w' ∧ ∃ L', RefAt w' base b lv L' ∧ viewR L' = (mstore (viewR L) p s n).1 ∧ rfoot b lv L' = rfoot b lv L
/-- Both rows of an area, one byte further. -/
theorem rstore_step {wr : World} {base : Nat} {x : RR} {o k : Nat} {N : Int} (hk : o + k < x.A.bytes.length) (hpl : x.A.put.length = x.A.bytes.length) (hnd : (RR.blocks x).Nodup)
    (HG : Own wr base 5 1 encB x.bv (over x.A.bytes o (bytesOf N k))) (HP : Own wr base 4 1 encP x.pv (over x.A.put o ((bytesOf N k).map fun _ => true))) :
    ∃ y z, wr.cell? (elt x.bv (o + k)) = some (.int .u8 y) ∧ wr.frozen? (elt x.bv (o + k)) = false ∧ (∀ u, (wr.setCell (elt x.bv (o + k)) u).cell? (elt x.pv (o + k)) = some (.bool z)) ∧ (∀ u, (wr.setCell (elt x.bv (o + k)) u).frozen? (elt x.pv (o + k)) = false) ∧
      (elt x.bv (o + k)).block ∈ RR.blocks x ∧ (elt x.pv (o + k)).block ∈ RR.blocks x ∧
      Own ((wr.setCell (elt x.bv (o + k)) (.int .u8 (N / 256 ^ k % 256))).setCell (elt x.pv (o + k)) (.bool false)) base 5 1 encB x.bv (over x.A.bytes o (bytesOf N (k + 1))) ∧
      Own ((wr.setCell (elt x.bv (o + k)) (.int .u8 (N / 256 ^ k % 256))).setCell (elt x.pv (o + k)) (.bool false)) base 4 1 encP x.pv (over x.A.put o ((bytesOf N (k + 1)).map fun _ => true)) := by
  have hl := bytesOf_len N k
  obtain ⟨y, hy⟩ := at_of_lt (xs := over x.A.bytes o (bytesOf N k)) (k := o + k) (by rw [over_len _ _ _ (by omega)]; exact hk)
  obtain ⟨z, hz⟩ := at_of_lt (xs := over x.A.put o ((bytesOf N k).map fun _ => true)) (k := o + k) (by rw [over_len _ _ _ (by rw [List.length_map]; omega)]; omega)
  obtain ⟨a1, a2, a3, a4, a5⟩ := HG.at hy
  obtain ⟨b1, b2, b3, b4, b5⟩ := HP.at hz
  have m1 : (elt x.bv (o + k)).block ∈ RR.blocks x := by simp [RR.blocks, a3]
  have m2 : (elt x.pv (o + k)).block ∈ RR.blocks x := by simp [RR.blocks, b3]
  have hne : (elt x.bv (o + k)).block ≠ (elt x.pv (o + k)).block := by
    simp only [RR.blocks, a3, b3] at hnd
    simpa using hnd
  have hP1 : ∀ u, Own (wr.setCell (elt x.bv (o + k)) u) base 4 1 encP x.pv (over x.A.put o ((bytesOf N k).map fun _ => true)) := fun u => HP.keep ((Keep.rfl' [(elt x.bv (o + k)).block] wr).setCell (by simp) u) (fun j hj => by
    rw [b3] at hj; injection hj with hj; subst hj; simpa using fun e => hne e.symm)
  refine ⟨y, !z, a1, a2, fun u => ((hP1 u).at hz).1, fun u => ((hP1 u).at hz).2.1, m1, m2, ?_, ?_⟩
  · have h1 := (a5 (N / 256 ^ k % 256)).1
    rw [bytesOf_succ, over_snoc _ _ _ _ (by omega), hl]
    exact h1.keep ((Keep.rfl' [(elt x.pv (o + k)).block] _).setCell (by simp) _) (fun j hj => by
      rw [a3] at hj; injection hj with hj; subst hj; simpa using hne)
  · have h1 := (((hP1 (.int .u8 (N / 256 ^ k % 256))).at hz).2.2.2.2 true).1
    rw [bytesOf_succ, List.map_append, List.map_singleton, over_snoc _ _ _ _ (by rw [List.length_map]; omega), List.length_map, hl]
    exact h1
set_option maxHeartbeats 1000000 in
theorem ref_store (base b : Nat) (lv : Value) (L : List RR) (p s n : Int) (w : World) (h : RefAt w base b lv L) (hp : 0 ≤ p) (H : Hid (p ≤ 18446744073709551615)) (hn : 0 ≤ n) (HN : Hid (n ≤ 18446744073709551615)) :
    Calls Try.prog 39 #[.pointer (some ⟨b, 0, none⟩), .int .u64 p, .int .i64 s, .int .u64 n] w (RStoreAns base b lv L p s n w) := by
  obtain ⟨a, m, c, rfl, hm, hM, RL, hb⟩ := h.open
  have HM := Lib.hid h
  clear h
  cases hz : sized s with
  | false =>
    have HZ := Lib.hid hz
    clear hz
    go_enter Try.func39, Try.ntmps39
    go_wp2_with fail
    refine (ref_fits s _).mono ?_
    rintro e w1 ⟨rfl, rfl⟩
    rw [HZ.out]
    go_wp2_with fail
    go_returns
    exact ⟨by simp [mstore, HZ.out], Keep.rfl' _ _, L, HM.out, by simp [mstore, HZ.out], rfl⟩
  | true =>
    have HZ := Lib.hid hz
    have hs8 : 0 ≤ s ∧ s ≤ 8 := by
      have := hz
      simp only [sized, Bool.or_eq_true, beq_iff_eq] at this
      omega
    have hs0 := hs8.1
    have hs1 := hs8.2
    clear hz
    go_enter Try.func39, Try.ntmps39
    go_wp2_with fail
    refine (ref_fits s _).mono ?_
    rintro e w1 ⟨rfl, rfl⟩
    rw [HZ.out]
    go_wp2_with fail
    refine (ref_where base b _ L p s _ HM.out hp hs8.1 (by omega) H).mono ?_
    rintro e w1 ⟨rfl, ⟨hf, rfl⟩ | ⟨i, x, hx, hxn, hf, rfl⟩⟩
    · have HF := Lib.hid hf
      clear hf
      go_wp2_with fail
      go_returns
      exact ⟨by simp [mstore, HZ.out, HF.out], Keep.rfl' _ _, L, HM.out, by simp [mstore, HZ.out, HF.out], rfl⟩
    · have HF := Lib.hid hf
      have c3 := (HM.out.cells hx).2.2.2
      have hlt : i < m := by rw [hM.out]; exact (List.getElem?_eq_some_iff.1 hx).1
      have ix := fun W => RL.out.run_at (P := Try.prog) el_area.under el_area.size .i64 (i : Int) (by omega) (by omega) W
      simp only [Int.toNat_natCast] at ix
      obtain ⟨hle, hoo⟩ := find_le hp hs8.1 hf
      obtain ⟨o, ho⟩ : ∃ o : Nat, (p % 4294967296).toNat = o := ⟨_, rfl⟩
      rw [ho] at hle hoo HF
      rw [← hoo]
      have hmem := List.mem_of_getElem? hx
      obtain ⟨hpl, hsm, hu8, _⟩ := HM.out.ok x hmem
      have ha := HM.out.rec_apart hmem
      have HX := Lib.hid hx
      have HXN := Lib.hid hxn
      have HPL := Lib.hid hpl
      have HA := Lib.hid ha
      clear ho hoo hf hx hxn hpl ha
      have hi0 : decide ((i : Int) < 0) = false := by simp
      cases hfx : x.A.fixed with
      | true =>
        have HFX := Lib.hid hfx
        rw [hfx] at c3
        clear hfx
        go_wp2_with fail
        go_returns
        exact ⟨by simp [mstore, HZ.out, HF.out, HFX.out], Keep.rfl' _ _, L, HM.out, by simp [mstore, HZ.out, HF.out, HFX.out], rfl⟩
      | false =>
        have HFX := Lib.hid hfx
        rw [hfx] at c3
        clear hfx
        go_wp2_with fail
        go_loopw [11, 3] (fun t v wr => ∃ k : Nat, k ≤ s.toNat ∧ t = .int .i64 k ∧ v = .int .u64 (n / 256 ^ k) ∧ Keep (RR.blocks x) w1 wr ∧ Hid (Own wr base 5 1 encB x.bv (over x.A.bytes o (bytesOf n k))) ∧ Hid (Own wr base 4 1 encP x.pv (over x.A.put o ((bytesOf n k).map fun _ => true)))) (fun t _ _ => s.toNat - (intOf t).toNat)
        case atStart => exact ⟨0, Nat.zero_le _, rfl, by simp, Keep.rfl' _ _, by simp only [bytesOf, over_nil]; exact Lib.hid (HM.out.bytes x hmem), by simp only [bytesOf, List.map_nil, over_nil]; exact Lib.hid (HM.out.put x hmem)⟩
        case round =>
          obtain ⟨k, hk, rfl, rfl, hK, HG, HP⟩ := hrel
          have hbk := cell_obj (i := 0) (hK.obj HM.out.head HA.out.1)
          have hLk := HM.out.list.keep hK HA.out.2.1
          simp only [List.getElem?_toArray, List.getElem?_cons_zero] at hbk
          obtain ⟨-, e1, e2, -⟩ := area_cells (hLk.rd enc_rr) HX.out
          by_cases hlt' : (k : Int) < s
          · obtain ⟨y, z, f1, f2, f3, f4, g1, g2, H1, H2⟩ := rstore_step (base := base) (o := o) (k := k) (N := n) (by omega) HPL.out HA.out.2.2 HG.out HP.out
            have f5 : ∀ u, (wr.setCell (elt x.bv (o + k)) u).cell? ⟨b, 0, none⟩ = some (.slice a m c) := fun u => by
              have := cell_obj (i := 0) ((hK.setCell g1 u).obj HM.out.head HA.out.1)
              simpa only [List.getElem?_toArray, List.getElem?_cons_zero] using this
            have f6 : ∀ u, (wr.setCell (elt x.bv (o + k)) u).cell? ⟨(elt (.slice a m c) (i * 4)).block, (elt (.slice a m c) (i * 4)).off + 2, none⟩ = some x.pv := fun u =>
              (area_cells ((HM.out.list.keep (hK.setCell g1 u) HA.out.2.1).rd enc_rr) HX.out).2.2.1
            have hK2 := (hK.setCell g1 (.int .u8 (n / 256 ^ k % 256))).setCell g2 (.bool false)
            have RB := HG.out.rd (enc_int _)
            have RP := HP.out.rd enc_p
            obtain ⟨t, ht⟩ : ∃ t, n / 256 ^ k = t := ⟨_, rfl⟩
            have hp0 : (0 : Int) < 256 ^ k := Int.pow_pos (by decide)
            have ht0 : 0 ≤ t := by rw [← ht]; exact Int.ediv_nonneg hn (Int.le_of_lt hp0)
            have ht1 : t ≤ 18446744073709551615 := by
              rw [← ht]
              exact Int.le_trans (Int.ediv_le_self _ hn) HN.out
            have hts : n / 256 ^ (k + 1) = t / 256 := by rw [← ht, Int.ediv_ediv_of_nonneg (Int.le_of_lt hp0), Int.pow_succ]
            rw [ht] at H1 H2 hK2 ⊢
            have HTS := Lib.hid hts
            have H1' := Lib.hid H1
            have H2' := Lib.hid H2
            have HK2 := Lib.hid hK2
            clear H1 H2 c3 hb hLk hK hK2 HN hts ht hp0 HG HP g1 g2
            rw [RR.bv] at e1 f1 f2 f3 f4 f5 f6 H1' H2' HK2 RB
            rw [RR.pv] at e2 f3 f4 f6 H1' H2' HK2 RP
            rw [HPL.out] at e2 f3 f4 f6 H1' H2' HK2 RP
            have ib := fun W => RB.run_at (P := Try.prog) el_u8.under el_u8.size .i64 ((o : Int) + k) (by omega) (by omega) W
            have ip := fun W => RP.run_at (P := Try.prog) el_bool.under el_bool.size .i64 ((o : Int) + k) (by omega) (by omega) W
            simp only [Nat.mul_one, Nat.add_zero, show ((o : Int) + k).toNat = o + k from by omega] at ib ip
            clear RB RP
            go_wp2_with fail
            go_roundw
            case rel =>
              exact ⟨k + 1, by omega, by go_num, by rw [HTS.out], HK2.out, H1', by rw [RR.pv, HPL.out]; exact H2'⟩
            case measure => simp [intOf]; omega
          · have hks : k = s.toNat := by omega
            have HKS := Lib.hid hks
            have HKK := Lib.hid hK
            clear hks c3 hLk hK
            go_wp2_with fail
            go_returns
            have eN := HKS.out
            subst eN
            have hlb := bytesOf_len n s.toNat
            have hu : ∀ q ∈ over x.A.bytes o (bytesOf n s.toNat), 0 ≤ q ∧ q ≤ 255 := by
              intro q hq
              simp only [over, List.mem_append] at hq
              rcases hq with (hq | hq) | hq
              · exact hu8 q (List.mem_of_mem_take hq)
              · exact bytesOf_u8 _ _ q hq
              · exact hu8 q (List.mem_of_mem_drop hq)
            have hup := HM.out.upd hmem (x.A.write o (bytesOf n s.toNat)) rfl (over_len _ _ _ (by omega)) (over_len _ _ _ (by rw [List.length_map, HPL.out]; omega)) hu HKK.out HG.out HP.out
            refine ⟨by simp [mstore, HZ.out, HF.out, HFX.out], HKK.out.mono (fun j hj => .inl ?_), updRR L x (x.A.write o (bytesOf n s.toNat)), hup.1, ?_, hup.2⟩
            · simp only [rfoot, List.mem_cons, List.mem_append, List.mem_flatMap]
              exact .inr (.inr ⟨x, hmem, hj⟩)
            · rw [viewR_upd]; simp [mstore, HZ.out, HF.out, HFX.out, HXN.out]
end Go.Proofs.Ytjimmbcihcmfoaa
