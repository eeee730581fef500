/- What the claim leans on: RefC · RefD · SMap · Str · Tab · TabB. -/
import Derived.Test.YtppefchjoodgnaaGreatPL02
import Derived.Deep.RegionLaw
import Derived.Test.YtppefchjoodgnaaGreatPL01
import Derived.Maps.RangeWalk
import Derived.Laws.BytesArg
namespace Go.Proofs.YtppefchjoodgnaaGreat
open Go.RowKit
set_option linter.unusedVariables false
set_option linter.unusedSimpArgs false
def RStoreAns (base b : Nat) (lv : Value) (L : List RR) (p s n : Int) (w : World) (e : Ending) (w' : World) : Prop :=
 e = .returned (.int .i64 (mstore (viewR L) p s n).2) ∧ Keep (rfoot b lv L) w w' ∧ ∃ L', RefAt w' base b lv L' ∧ viewR L' = (mstore (viewR L) p s n).1 ∧ rfoot b lv L' = rfoot b lv L
theorem rstore_step {wr : World} {base : Nat} {x : RR} {o k : Nat} {N : Int} (hk : o + k < x.A.bytes.length) (hpl : x.A.put.length = x.A.bytes.length) (hnd : (RR.blocks x).Nodup)
  (HG : Own wr base 5 1 encB x.bv (over x.A.bytes o (bytesOf N k))) (HP : Own wr base 4 1 encP x.pv (over x.A.put o ((bytesOf N k).map fun _ => true))) :
  ∃ y z, wr.cell? (elt x.bv (o + k)) = some (.int .u8 y) ∧ wr.frozen? (elt x.bv (o + k)) = false ∧ (∀ u, (wr.setCell (elt x.bv (o + k)) u).cell? (elt x.pv (o + k)) = some (.bool z)) ∧ (∀ u, (wr.setCell (elt x.bv (o + k)) u).frozen? (elt x.pv (o + k)) = false) ∧
   (elt x.bv (o + k)).block ∈ RR.blocks x ∧ (elt x.pv (o + k)).block ∈ RR.blocks x ∧
   Own ((wr.setCell (elt x.bv (o + k)) (.int .u8 (N / 256 ^ k % 256))).setCell (elt x.pv (o + k)) (.bool false)) base 5 1 encB x.bv (over x.A.bytes o (bytesOf N (k + 1))) ∧
   Own ((wr.setCell (elt x.bv (o + k)) (.int .u8 (N / 256 ^ k % 256))).setCell (elt x.pv (o + k)) (.bool false)) base 4 1 encP x.pv (over x.A.put o ((bytesOf N (k + 1)).map fun _ => true)) := by
 have hl := bytesOf_len N k
 obtain ⟨y, hy⟩ := at_of_lt (xs := over x.A.bytes o (bytesOf N k)) (k := o + k) (by rw [over_len _ _ _ (by omega)]; exact hk)
 obtain ⟨z, hz⟩ := at_of_lt (xs := over x.A.put o ((bytesOf N k).map fun _ => true)) (k := o + k) (by rw [over_len _ _ _ (by rw [List.length_map]; omega)]; omega)
 obtain ⟨a1, a2, a3, a4, a5⟩ := HG.at hy
 obtain ⟨b1, b2, b3, b4, b5⟩ := HP.at hz
 have m1 : (elt x.bv (o + k)).block ∈ RR.blocks x := by simp [RR.blocks, a3]
 have m2 : (elt x.pv (o + k)).block ∈ RR.blocks x := by simp [RR.blocks, b3]
 have hne : (elt x.bv (o + k)).block ≠ (elt x.pv (o + k)).block := by
  simp only [RR.blocks, a3, b3] at hnd
  simpa using hnd
 have hP1 : ∀ u, Own (wr.setCell (elt x.bv (o + k)) u) base 4 1 encP x.pv (over x.A.put o ((bytesOf N k).map fun _ => true)) := fun u => HP.keep ((Keep.rfl' [(elt x.bv (o + k)).block] wr).setCell (by simp) u) (fun j hj => by
  rw [b3] at hj; injection hj with hj; subst hj; simpa using fun e => hne e.symm)
 refine ⟨y, !z, a1, a2, fun u => ((hP1 u).at hz).1, fun u => ((hP1 u).at hz).2.1, m1, m2, ?_, ?_⟩
 ·have h1 := (a5 (N / 256 ^ k % 256)).1
  rw [bytesOf_succ, over_snoc _ _ _ _ (by omega), hl]
  exact h1.keep ((Keep.rfl' [(elt x.pv (o + k)).block] _).setCell (by simp) _) (fun j hj => by
   rw [a3] at hj; injection hj with hj; subst hj; simpa using hne)
 ·have h1 := (((hP1 (.int .u8 (N / 256 ^ k % 256))).at hz).2.2.2.2 true).1
  rw [bytesOf_succ, List.map_append, List.map_singleton, over_snoc _ _ _ _ (by rw [List.length_map]; omega), List.length_map, hl]
  exact h1
set_option maxHeartbeats 1000000 in
theorem ref_store (base b : Nat) (lv : Value) (L : List RR) (p s n : Int) (w : World) (h : RefAt w base b lv L) (hp : 0 ≤ p) (H : Hid (p ≤ 18446744073709551615)) (hn : 0 ≤ n) (HN : Hid (n ≤ 18446744073709551615)) :
  Calls Tryz.prog 109 #[.pointer (some ⟨b, 0, none⟩), .int .u64 p, .int .i64 s, .int .u64 n] w (RStoreAns base b lv L p s n w) := by
 obtain ⟨a, m, c, rfl, hm, hM, RL, hb⟩ := h.open
 have HM := η h
 clear h
 cases hz : sized s with
 | false =>
  have HZ := η hz
  clear hz
  go_enter Tryz.func109, Tryz.ntmps109
  go_wp2_with fail
  refine (ref_fits s _).mono ?_
  rintro e w1 ⟨rfl, rfl⟩
  rw [HZ.out]
  go_wp2_with fail
  go_returns
  exact ⟨by simp [mstore, HZ.out], Keep.rfl' _ _, L, HM.out, by simp [mstore, HZ.out], rfl⟩
 | true =>
  have HZ := η hz
  have hs8 : 0 ≤ s ∧ s ≤ 8 := by
   have := hz
   simp only [sized, Bool.or_eq_true, beq_iff_eq] at this
   omega
  have hs0 := hs8.1
  have hs1 := hs8.2
  clear hz
  go_enter Tryz.func109, Tryz.ntmps109
  go_wp2_with fail
  refine (ref_fits s _).mono ?_
  rintro e w1 ⟨rfl, rfl⟩
  rw [HZ.out]
  go_wp2_with fail
  refine (ref_where base b _ L p s _ HM.out hp hs8.1 (by omega) H).mono ?_
  rintro e w1 ⟨rfl, ⟨hf, rfl⟩ | ⟨i, x, hx, hxn, hf, rfl⟩⟩
  ·have HF := η hf
   clear hf
   go_wp2_with fail
   go_returns
   exact ⟨by simp [mstore, HZ.out, HF.out], Keep.rfl' _ _, L, HM.out, by simp [mstore, HZ.out, HF.out], rfl⟩
  ·have HF := η hf
   have c3 := (HM.out.cells hx).2.2.2
   have hlt : i < m := by rw [hM.out]; exact (List.getElem?_eq_some_iff.1 hx).1
   have ix := fun W => RL.out.run_at (P := Tryz.prog) el_area.under el_area.size .i64 (i : Int) (by omega) (by omega) W
   simp only [Int.toNat_natCast] at ix
   obtain ⟨hle, hoo⟩ := find_le hp hs8.1 hf
   obtain ⟨o, ho⟩ : ∃ o : Nat, (p % 4294967296).toNat = o := ⟨_, rfl⟩
   rw [ho] at hle hoo HF
   rw [← hoo]
   have hmem := List.mem_of_getElem? hx
   obtain ⟨hpl, hsm, hu8, _⟩ := HM.out.ok x hmem
   have ha := HM.out.rec_apart hmem
   have HX := η hx
   have HXN := η hxn
   have HPL := η hpl
   have HA := η ha
   clear ho hoo hf hx hxn hpl ha
   have hi0 : decide ((i : Int) < 0) = false := by simp
   cases hfx : x.A.fixed with
   | true =>
    have HFX := η hfx
    rw [hfx] at c3
    clear hfx
    go_wp2_with fail
    go_returns
    exact ⟨by simp [mstore, HZ.out, HF.out, HFX.out], Keep.rfl' _ _, L, HM.out, by simp [mstore, HZ.out, HF.out, HFX.out], rfl⟩
   | false =>
    have HFX := η hfx
    rw [hfx] at c3
    clear hfx
    go_wp2_with fail
    go_loopw [11, 3] (fun t v wr => ∃ k : Nat, k ≤ s.toNat ∧ t = .int .i64 k ∧ v = .int .u64 (n / 256 ^ k) ∧ Keep (RR.blocks x) w1 wr ∧ Hid (Own wr base 5 1 encB x.bv (over x.A.bytes o (bytesOf n k))) ∧ Hid (Own wr base 4 1 encP x.pv (over x.A.put o ((bytesOf n k).map fun _ => true)))) (fun t _ _ => s.toNat - (intOf t).toNat)
    case atStart => exact ⟨0, Nat.zero_le _, rfl, by simp, Keep.rfl' _ _, by simp only [bytesOf, over_nil]; exact η (HM.out.bytes x hmem), by simp only [bytesOf, List.map_nil, over_nil]; exact η (HM.out.put x hmem)⟩
    case round =>
     obtain ⟨k, hk, rfl, rfl, hK, HG, HP⟩ := hrel
     have hbk := cO (i := 0) (hK.obj HM.out.head HA.out.1)
     have hLk := HM.out.list.keep hK HA.out.2.1
     simp only [List.getElem?_toArray, List.getElem?_cons_zero] at hbk
     obtain ⟨-, e1, e2, -⟩ := area_cells (hLk.rd enc_rr) HX.out
     by_cases hlt' : (k : Int) < s
     ·obtain ⟨y, z, f1, f2, f3, f4, g1, g2, H1, H2⟩ := rstore_step (base := base) (o := o) (k := k) (N := n) (by omega) HPL.out HA.out.2.2 HG.out HP.out
      have f5 : ∀ u, (wr.setCell (elt x.bv (o + k)) u).cell? ⟨b, 0, none⟩ = some (.slice a m c) := fun u => by
       have := cO (i := 0) ((hK.setCell g1 u).obj HM.out.head HA.out.1)
       simpa only [List.getElem?_toArray, List.getElem?_cons_zero] using this
      have f6 : ∀ u, (wr.setCell (elt x.bv (o + k)) u).cell? ⟨(elt (.slice a m c) (i * 4)).block, (elt (.slice a m c) (i * 4)).off + 2, none⟩ = some x.pv := fun u =>
       (area_cells ((HM.out.list.keep (hK.setCell g1 u) HA.out.2.1).rd enc_rr) HX.out).2.2.1
      have hK2 := (hK.setCell g1 (.int .u8 (n / 256 ^ k % 256))).setCell g2 (.bool false)
      have RB := HG.out.rd (enc_int _)
      have RP := HP.out.rd enc_p
      obtain ⟨t, ht⟩ : ∃ t, n / 256 ^ k = t := ⟨_, rfl⟩
      have hp0 : (0 : Int) < 256 ^ k := Int.pow_pos (by decide)
      have ht0 : 0 ≤ t := by rw [← ht]; exact Int.ediv_nonneg hn (Int.le_of_lt hp0)
      have ht1 : t ≤ 18446744073709551615 := by
       rw [← ht]
       exact Int.le_trans (Int.ediv_le_self _ hn) HN.out
      have hts : n / 256 ^ (k + 1) = t / 256 := by rw [← ht, Int.ediv_ediv_of_nonneg (Int.le_of_lt hp0), Int.pow_succ]
      rw [ht] at H1 H2 hK2 ⊢
      have HTS := η hts
      have H1' := η H1
      have H2' := η H2
      have HK2 := η hK2
      clear H1 H2 c3 hb hLk hK hK2 HN hts ht hp0 HG HP g1 g2
      rw [RR.bv] at e1 f1 f2 f3 f4 f5 f6 H1' H2' HK2 RB
      rw [RR.pv] at e2 f3 f4 f6 H1' H2' HK2 RP
      rw [HPL.out] at e2 f3 f4 f6 H1' H2' HK2 RP
      have ib := fun W => RB.run_at (P := Tryz.prog) el_u8.under el_u8.size .i64 ((o : Int) + k) (by omega) (by omega) W
      have ip := fun W => RP.run_at (P := Tryz.prog) el_bool.under el_bool.size .i64 ((o : Int) + k) (by omega) (by omega) W
      simp only [Nat.mul_one, Nat.add_zero, show ((o : Int) + k).toNat = o + k from by omega] at ib ip
      clear RB RP
      go_wp2_with fail
      go_roundw
      case rel =>
       exact ⟨k + 1, by omega, by go_num, by rw [HTS.out], HK2.out, H1', by rw [RR.pv, HPL.out]; exact H2'⟩
      case measure => simp [intOf]; omega
     ·have hks : k = s.toNat := by omega
      have HKS := η hks
      have HKK := η hK
      clear hks c3 hLk hK
      go_wp2_with fail
      go_returns
      have eN := HKS.out
      subst eN
      have hlb := bytesOf_len n s.toNat
      have hu : ∀ q ∈ over x.A.bytes o (bytesOf n s.toNat), 0 ≤ q ∧ q ≤ 255 := by
       intro q hq
       simp only [over, List.mem_append] at hq
       rcases hq with (hq | hq) | hq
       ·exact hu8 q (List.mem_of_mem_take hq)
       ·exact bytesOf_u8 _ _ q hq
       ·exact hu8 q (List.mem_of_mem_drop hq)
      have hup := HM.out.upd hmem (x.A.write o (bytesOf n s.toNat)) rfl (over_len _ _ _ (by omega)) (over_len _ _ _ (by rw [List.length_map, HPL.out]; omega)) hu HKK.out HG.out HP.out
      refine ⟨by simp [mstore, HZ.out, HF.out, HFX.out], HKK.out.mono (fun j hj => .inl ?_), updRR L x (x.A.write o (bytesOf n s.toNat)), hup.1, ?_, hup.2⟩
      ·simp only [rfoot, List.mem_cons, List.mem_append, List.mem_flatMap]
       exact .inr (.inr ⟨x, hmem, hj⟩)
      ·rw [viewR_upd]; simp [mstore, HZ.out, HF.out, HFX.out, HXN.out]
theorem nodup_le : ∀ (N : Nat) (l : List Int), l.Nodup → (∀ x ∈ l, 1 ≤ x ∧ x ≤ N) → l.length ≤ N
 | 0, l, _, h => by
  cases l with
  | nil => simp
  | cons x l => have := h x List.mem_cons_self; omega
 | N + 1, l, hn, h => by
  have h1 : (l.erase ((N + 1 : Nat) : Int)).length ≤ N := nodup_le N _ (hn.erase _) (fun x hx => by
   have := (hn.mem_erase_iff).1 hx
   have h2 := h x this.2
   have h3 : x ≠ ((N + 1 : Nat) : Int) := this.1
   omega)
  have h2 := List.length_erase (a := ((N + 1 : Nat) : Int)) (l := l)
  split at h2 <;> omega
theorem RefAt.few {w : World} {base b : Nat} {lv : Value} {L : List RR} (h : RefAt w base b lv L) : L.length ≤ 2147483647 := by
 have := nodup_le 2147483647 (L.map (·.n)) h.uniq (fun x hx => by
  obtain ⟨y, hy, rfl⟩ := List.mem_map.1 hx
  have := (h.ok y hy).2.2.2
  omega)
 simpa using this
theorem own_not {w : World} {base : Nat} {e : TypeId} {v : Value} {ys P : List Bool} (h : Own w base e 1 (fun x => [Value.bool x]) v ys) (hP : ys = P.map (!·)) : Own w base e 1 encP v P := by
 subst hP
 show World.ownsRow _ _ _ _ _ _ _
 have h' : World.ownsRow _ _ _ _ _ _ _ := h
 rw [flat1, List.map_map, List.length_map] at h'
 rw [flat1]
 exact h'
theorem obj_below {B : Nat} {w w' : World} (h : Below B w w') {k : Nat} {o : Obj} (ho : w.heap[k]? = some o) (hk : k < B) : w'.heap[k]? = some o := (h.block k hk).trans ho
theorem opt_nodup (o : Option Nat) : o.toList.Nodup := by cases o <;> simp
theorem ne_area_mem : 119 ≠ 83 := by decide
theorem ne_area_u8 : 119 ≠ 5 := by decide
theorem ne_area_bool : 119 ≠ 4 := by decide
theorem ne_u8_bool : 5 ≠ 4 := by decide
theorem RefAt.push {w wr w5 : World} {base b : Nat} {lv lv' : Value} {L : List RR} {x : RR} (h : RefAt w base b lv L) (he : Ext w wr) (hbase : base ≤ w.heap.size) (hk : Keep lv.ownBlock.toList wr w5) (hmv : ∀ k, lv'.ownBlock = some k → lv.ownBlock = some k ∨ wr.heap.size ≤ k)
  (hl : Own w5 base 119 4 RR.enc lv' (L ++ [x])) (hb : Own wr w.heap.size 5 1 encB x.bv x.A.bytes) (hp : Own wr w.heap.size 4 1 encP x.pv x.A.put)
  (ok : x.A.put.length = x.A.bytes.length ∧ x.A.bytes.length ≤ 1024 ∧ (∀ q ∈ x.A.bytes, 0 ≤ q ∧ q ≤ 255) ∧ 1 ≤ x.n ∧ x.n ≤ 2147483647) (hnew : (viewR L).lookup x.n = none) :
  RefAt (w5.setCell ⟨b, 0, none⟩ lv') base b lv' (L ++ [x]) ∧ Keep (rfoot b lv L) w (w5.setCell ⟨b, 0, none⟩ lv') ∧ ∀ k ∈ rfoot b lv' (L ++ [x]), k ∈ rfoot b lv L ∨ w.heap.size ≤ k := by
 have hblt := heap_lt h.head
 have h0 := List.nodup_cons.1 h.apart
 have h1 := List.nodup_append.1 h0.2
 have hbF : b ∉ lv.ownBlock.toList := fun hb => h0.1 (List.mem_append_left _ hb)
 have hb5 := hk.obj (he.obj h.head) hbF
 have hlb : ∀ j, lv'.ownBlock = some j → j ≠ b := fun j hj e => by subst e; exact hl.type_ne' hb5 ne_area_mem hj
 have hkb : Keep [b] w5 (w5.setCell ⟨b, 0, none⟩ lv') := (Keep.rfl' [b] w5).setCell (by simp) _
 have hmem : ∀ y ∈ L, ∀ j ∈ RR.blocks y, j ∈ L.flatMap RR.blocks := fun y hy j hj => List.mem_flatMap.2 ⟨y, hy, hj⟩
 have hlf : ∀ y ∈ L, ∀ j ∈ RR.blocks y, j ∉ lv.ownBlock.toList ∧ j ≠ b := fun y hy j hj => ⟨fun hj' => h1.2.2 j hj' j (hmem y hy j hj) rfl, fun e => h0.1 (List.mem_append_right _ (by rw [← e]; exact hmem y hy j hj))⟩
 have hllt : ∀ j ∈ lv.ownBlock.toList, j < w.heap.size := fun j hj => (h.list.lt (by simpa using hj)).2
 have hxb : ∀ j, x.bv.ownBlock = some j → w.heap.size ≤ j := fun j hj => (hb.lt hj).1
 have hxp : ∀ j, x.pv.ownBlock = some j → w.heap.size ≤ j := fun j hj => (hp.lt hj).1
 have hx : ∀ j ∈ RR.blocks x, w.heap.size ≤ j := by
  intro j hj
  simp only [RR.blocks, List.mem_append, Option.mem_toList] at hj
  rcases hj with hj | hj
  ·exact hxb j hj
  ·exact hxp j hj
 have kb : ∀ y ∈ L, Own w5 base 5 1 encB y.bv y.A.bytes := fun y hy => ((h.bytes y hy).ext he).keep hk (fun j hj => (hlf y hy j (by simp [RR.blocks, hj])).1)
 have kp : ∀ y ∈ L, Own w5 base 4 1 encP y.pv y.A.put := fun y hy => ((h.put y hy).ext he).keep hk (fun j hj => (hlf y hy j (by simp [RR.blocks, hj])).1)
 have xb : Own w5 base 5 1 encB x.bv x.A.bytes := (hb.mono hbase).keep hk (fun j hj hj' => by have := hllt j hj'; have := hxb j hj; omega)
 have xp : Own w5 base 4 1 encP x.pv x.A.put := (hp.mono hbase).keep hk (fun j hj hj' => by have := hllt j hj'; have := hxp j hj; omega)
 have ab : ∀ y ∈ L ++ [x], Own w5 base 5 1 encB y.bv y.A.bytes := fun y hy => by
  rcases List.mem_append.1 hy with hy | hy
  ·exact kb y hy
  ·rw [List.mem_singleton] at hy; subst hy; exact xb
 have ap : ∀ y ∈ L ++ [x], Own w5 base 4 1 encP y.pv y.A.put := fun y hy => by
  rcases List.mem_append.1 hy with hy | hy
  ·exact kp y hy
  ·rw [List.mem_singleton] at hy; subst hy; exact xp
 have nb : ∀ y ∈ L ++ [x], ∀ j ∈ RR.blocks y, j ≠ b := fun y hy j hj => by
  rcases List.mem_append.1 hy with hy | hy
  ·exact (hlf y hy j hj).2
  ·rw [List.mem_singleton] at hy; subst hy; have := hx j hj; omega
 refine ⟨⟨?_, h.hb, hl.keep hkb (fun j hj => by simpa using hlb j hj), fun y hy => (ab y hy).keep hkb (fun j hj => by simpa using nb y hy j (by simp [RR.blocks, hj])), fun y hy => (ap y hy).keep hkb (fun j hj => by simpa using nb y hy j (by simp [RR.blocks, hj])), ?_, ?_, ?_⟩, ?_, ?_⟩
 ·have := heap_setCell_same w5 b 0 _ _ lv' hb5
  simpa using this
 ·rw [List.nodup_cons, List.nodup_append]
  refine ⟨?_, opt_nodup _, ?_, ?_⟩
  ·intro hj
   rcases List.mem_append.1 hj with hj | hj
   ·exact hlb b (by simpa using hj) rfl
   ·obtain ⟨y, hy, hj⟩ := List.mem_flatMap.1 hj
    exact nb y hy b hj rfl
  ·rw [List.flatMap_append, List.nodup_append]
   refine ⟨h1.2.1, ?_, ?_⟩
   ·simp only [List.flatMap_cons, List.flatMap_nil, List.append_nil, RR.blocks]
    rw [List.nodup_append]
    refine ⟨opt_nodup _, opt_nodup _, ?_⟩
    intro j hj k hk' e
    subst e
    exact hb.type_ne hp ne_u8_bool (by simpa using hj) (by simpa using hk')
   ·intro j hj k hk' e
    subst e
    obtain ⟨y, hy, hj⟩ := List.mem_flatMap.1 hj
    have h3 := (h.lt j (by simp only [rfoot, List.mem_cons, List.mem_append]; exact .inr (.inr (hmem y hy j hj)))).2
    have h4 := hx j (by simpa using hk')
    omega
  ·intro j hj k hk' e
   subst e
   obtain ⟨y, hy, hj'⟩ := List.mem_flatMap.1 hk'
   simp only [RR.blocks, List.mem_append, Option.mem_toList] at hj'
   rcases hj' with hj' | hj'
   ·exact hl.type_ne (ab y hy) ne_area_u8 (by simpa using hj) hj'
   ·exact hl.type_ne (ap y hy) ne_area_bool (by simpa using hj) hj'
 ·intro y hy
  rcases List.mem_append.1 hy with hy | hy
  ·exact h.ok y hy
  ·rw [List.mem_singleton] at hy; subst hy; exact ok
 ·rw [List.map_append, List.nodup_append]
  refine ⟨h.uniq, by simp, ?_⟩
  intro j hj k hk' e
  obtain ⟨y, hy, rfl⟩ := List.mem_map.1 hj
  simp only [List.map_cons, List.map_nil, List.mem_singleton] at hk'
  subst hk'
  exact lookup_none hnew (y.n, y.A) (List.mem_map.2 ⟨y, hy, rfl⟩) e
 ·have hk0 : Keep (rfoot b lv L) w w5 := ((Keep.of_ext he).trans hk).mono (fun j hj => .inl (by simp only [rfoot, List.mem_cons, List.mem_append]; exact .inr (.inl hj)))
  exact hk0.setCell (by simp [rfoot]) _
 ·intro k hk'
  simp only [rfoot, List.mem_cons, List.mem_append, List.flatMap_append, List.flatMap_cons, List.flatMap_nil, List.append_nil] at hk' ⊢
  rcases hk' with rfl | hk' | hk' | hk'
  ·exact .inl (.inl rfl)
  ·rcases hmv k (by simpa using hk') with h2 | h2
   ·exact .inl (.inr (.inl (by simpa using h2)))
   ·have := he.size
    exact .inr (by omega)
  ·exact .inl (.inr (.inr hk'))
  ·exact .inr (hx k hk')
def RMakeAns (base b : Nat) (lv : Value) (L : List RR) (n : Int) (xs : List Int) (blank fixed : Bool) (w : World) (e : Ending) (w' : World) : Prop :=
 e = .returned (.int .i64 (mmake (viewR L) n xs blank fixed).2) ∧ Keep (rfoot b lv L) w w' ∧ ∃ lv' L', RefAt w' base b lv' L' ∧ viewR L' = (mmake (viewR L) n xs blank fixed).1 ∧ ∀ k ∈ rfoot b lv' L', k ∈ rfoot b lv L ∨ w.heap.size ≤ k
set_option maxHeartbeats 1000000 in
theorem ref_make (base b : Nat) (lv : Value) (L : List RR) (n : Int) (v : Value) (xs : List Int) (blank fixed : Bool) (w : World) (h : RefAt w base b lv L) (hbase : base ≤ w.heap.size) (hv : Sl w .u8 v xs) (hu : ∀ x ∈ xs, 0 ≤ x ∧ x ≤ 255) :
  Calls Tryz.prog 33 #[.pointer (some ⟨b, 0, none⟩), .int .i64 n, v, .bool blank, .bool fixed] w (RMakeAns base b lv L n xs blank fixed w) := by
 obtain ⟨a, m, c, rfl, hm, hM, RL, hb⟩ := h.open
 obtain ⟨va, vn, vc, rfl, hvn, hVN⟩ := hv.val
 have HV := η hv
 have HU := η hu
 have HR := η h
 clear hv hu h
 by_cases hbad : n < 1 ∨ 2147483647 < n
 ·have hc : (((viewR L).lookup n).isSome = true ∨ n < 1 ∨ 2147483647 < n) := .inr hbad
  have HC := η hc
  clear hc
  rcases hbad with hs | hs
  all_goals
   go_enter Tryz.func33, Tryz.ntmps33
   go_wp2_with fail
   go_returns
   exact ⟨by simp only [mmake, HC.out, if_true]; rfl, Keep.rfl' _ _, _, L, HR.out, by simp only [mmake, HC.out, if_true], fun k hk => .inl hk⟩
 have hn1 : 1 ≤ n := by omega
 have hn2 : n ≤ 2147483647 := by omega
 clear hbad
 go_enter Tryz.func33, Tryz.ntmps33
 go_wp2_with fail
 refine (ref_find base b _ L n _ HR.out).mono ?_
 rintro e w1 ⟨rfl, ⟨hf, rfl⟩ | ⟨i, x, hx, hxn, hf, rfl⟩⟩
 case inr =>
  have HF := η hf
  have hi0 : decide ((0 : Int) ≤ i) = true := by simp
  clear hf hx hxn
  go_wp2_with fail
  go_returns
  have hc : (((viewR L).lookup n).isSome = true ∨ n < 1 ∨ 2147483647 < n) := .inl (by rw [HF.out]; rfl)
  exact ⟨by simp only [mmake, hc, if_true]; rfl, Keep.rfl' _ _, _, L, HR.out, by simp only [mmake, hc, if_true], fun k hk => .inl hk⟩
 have hc : ¬ (((viewR L).lookup n).isSome = true ∨ n < 1 ∨ 2147483647 < n) := by rw [hf]; simp; omega
 have HC := η hc
 have HF := η hf
 clear hf hc
 by_cases hlong : (1024 : Int) < vn
 ·go_wp2_with fail
  go_returns
  have hl : 1024 < xs.length := by have := hVN.out; omega
  exact ⟨by simp only [mmake, HC.out, hl, if_true, if_false]; rfl, Keep.rfl' _ _, _, L, HR.out, by simp only [mmake, HC.out, hl, if_true, if_false], fun k hk => .inl hk⟩
 ·have hl : ¬ 1024 < xs.length := by have := hVN.out; omega
  have HL := η hl
  have hxw := (Ext.rfl' w1).alloc' (.cells #[] 5)
  clear hl
  go_wp2_with (at_builtin; refine app_own el_u8 (enc_int .u8) rfl _ _ rfl rfl (Own.made w1 w1.heap.size _ _ _ rfl (Nat.le_refl _)) rfl (ys := xs) ?q1 ?q2 ?q3 ?q4)
  case q1 => exact HV.out.ext hxw
  case q2 => exact ⟨by have := HL.out; simp; omega, by have := HL.out; simp; omega⟩
  case q3 => simp
  intro bv w2 hown hgrow hbel
  have HO := η (show Own w2 w1.heap.size 5 1 encB bv xs by simpa using hown)
  have hx2 : Ext w1 w2 := hbel _ _ hxw (Nat.le_refl _)
  clear hown hgrow hbel hxw
  obtain ⟨ba, bn, bc, rfl, hbn, hBN⟩ := (HO.out.rd (enc_int _)).val
  go_wp2_with fail
  go_loopw [12] (fun i wr => ∃ (j : Nat) (pa : Option Addr) (pn pc : Nat), j ≤ vn ∧ i = .int .i64 j ∧ Ext w2 wr ∧ Hid (wr.heap[w2.heap.size]? = some (.cells #[.int .i64 n, .slice ba bn bc, .slice pa pn pc, .bool fixed] 119 (0, 0))) ∧ Hid (Own wr (w2.heap.size + 1) 4 1 (fun x => [Value.bool x]) (.slice pa pn pc) (List.replicate j blank))) (fun i _ => vn - (intOf i).toNat)
  case atStart => exact ⟨0, none, 0, 0, Nat.zero_le _, rfl, (Ext.rfl' w2).alloc' _, η (obj_top _ _ rfl), η (Own.nil _ _ _ _ _)⟩
  case round =>
   obtain ⟨j, pa, pn, pc, hj, rfl, hwr, HX, HP⟩ := hrel
   have c2 := cO (i := 2) HX.out
   simp only [gA, gB, gC] at c2
   have hxlt : w2.heap.size < wr.heap.size := heap_lt HX.out
   by_cases hlt : (j : Int) < vn
   ·have hal := (Ext.rfl' wr).alloc' (.cells #[.bool blank] 4)
    have c2' := hal.cellOf c2
    go_wp2_with (at_builtin; refine app_own el_bool enc_bool rfl _ _ rfl rfl (HP.out.alloc _) rfl (ys := [blank]) ?r1 ?r2 ?r3 ?r4)
    case r1 => exact (Own.lit enc_bool (base := 0) (w := wr) [blank] rfl rfl (Nat.zero_le _) (by simp [maxLen])).rd enc_bool
    case r2 => simp; omega
    case r3 => simp; omega
    intro pv w5 hown hgrow hbel
    have HB5 := η (hbel (w2.heap.size + 1) wr ((Below.refl _ _).alloc (by omega) _) (Nat.le_refl _))
    have HX5 := η (obj_below HB5.out HX.out (by omega))
    have HO5 := η hown
    clear hown hgrow hbel
    obtain ⟨qa, qn, qc, rfl, hqn, hQN⟩ := (HO5.out.rd enc_bool).val
    have d2 := cO (i := 2) HX5.out
    have d3 := frozen_obj (i := 2) HX5.out
    simp only [gA, gB, gC] at d2
    have HS := η (heap_setCell_same w5 w2.heap.size 2 _ _ (.slice qa qn qc) HX5.out)
    go_wp2_with fail
    go_roundw
    case rel =>
     refine ⟨j + 1, qa, qn, qc, by omega, by go_num, ?_, η (by simpa using HS.out), η ?_⟩
     ·exact (hwr.trans (HB5.out.mono (by omega))).setCell (Nat.le_refl _) _
     ·rw [List.replicate_succ']
      exact Own.other HO5.out (by simp) _
    case measure => simp [intOf]; omega
   ·have hjn : j = vn := by omega
    have HJ := η hjn
    clear hjn
    have c0 := cO (i := 0) HX.out
    have c1 := cO (i := 1) HX.out
    have c3 := cO (i := 3) HX.out
    simp only [gA, gB, gC] at c0 c1 c3
    have hbw := (hx2.trans' hwr).cellOf hb
    go_wp2_with fail
    have hpn := HP.out.len
    rw [List.length_replicate] at hpn
    have hnew : (.cells #[.int .i64 n, .slice ba bn bc, .slice pa pn pc, .bool fixed] 119 : Obj) = .cells (([⟨n, ba, bc, pa, pc, ⟨xs, xs.map fun _ => !blank, fixed⟩⟩] : List RR).flatMap RR.enc).toArray 119 := by
     have e1 : bn = xs.length := hBN.out
     have e2 : pn = (xs.map fun _ => !blank).length := by have := HJ.out; have := hVN.out; simp; omega
     rw [e1, e2]; rfl
    have HOL := η (HR.out.list.ext (hx2.trans' hwr))
    have HNEW := η hnew
    have hfew : L.length ≤ 2147483647 := HR.out.few
    have HPN := η hpn
    clear hnew hpn
    have HB := η ((hx2.trans' hwr).obj HR.out.head)
    have hsz1 : w1.heap.size ≤ w2.heap.size := hx2.size
    have hbF : b ∉ (Value.slice a m c).ownBlock.toList := fun hb => (List.nodup_cons.1 HR.out.apart).1 (List.mem_append_left _ hb)
    have hxF : w2.heap.size ∉ (Value.slice a m c).ownBlock.toList := fun hb => by
     have := (HR.out.list.lt (by simpa using hb)).2
     omega
    have HY : Hid (Rd (wr.alloc (.cells #[.int .i64 n, .slice ba bn bc, .slice pa pn pc, .bool fixed] 119)) 4 RR.enc (.slice (some ⟨wr.heap.size, 0, none⟩) 1 1) [⟨n, ba, bc, pa, pc, ⟨xs, xs.map fun _ => !blank, fixed⟩⟩]) := η (by
     rw [HNEW.out]
     exact (Own.lit enc_rr (base := 0) (w := wr) _ rfl rfl (Nat.zero_le _) (by simp [maxLen])).rd enc_rr)
    have HF5 : Hid (∀ u' : World, (wr.alloc (.cells #[.int .i64 n, .slice ba bn bc, .slice pa pn pc, .bool fixed] 119)).grownBy u' (Value.slice a m c).ownBlock → Keep (Value.slice a m c).ownBlock.toList wr u' ∧
      (u'.cell? ⟨b, 0, none⟩ = some (.slice a m c) ∧ u'.frozen? ⟨b, 0, none⟩ = false ∧ u'.cell? ⟨w2.heap.size, 0, none⟩ = some (.int .i64 n) ∧ u'.cell? ⟨w2.heap.size, 1, none⟩ = some (.slice ba bn bc) ∧ u'.cell? ⟨w2.heap.size, 2, none⟩ = some (.slice pa pn pc) ∧ u'.cell? ⟨w2.heap.size, 3, none⟩ = some (.bool fixed))) :=
     η fun u' hg => by
      have hk : Keep (Value.slice a m c).ownBlock.toList wr u' := (Keep.of_ext ((Ext.rfl' wr).alloc' _)).trans (grown_keep hg)
      exact ⟨hk, cO (hk.obj HB.out hbF), frozen_obj (hk.obj HB.out hbF), cO (hk.obj HX.out hxF), cO (hk.obj HX.out hxF), cO (hk.obj HX.out hxF), cO (hk.obj HX.out hxF)⟩
    have hfz := frozen_obj (i := 0) HB.out
    have hfz2 : (wr.alloc (.cells #[.int .i64 n, .slice ba bn bc, .slice pa pn pc, .bool fixed] 119)).drew.frozen? ⟨b, 0, none⟩ = false := frozen_obj (i := 0) (obj_old (.cells #[.int .i64 n, .slice ba bn bc, .slice pa pn pc, .bool fixed] 119) HB.out)
    have hbw2 : base ≤ wr.heap.size := by omega
    have hbw4 : (wr.alloc (.cells #[.int .i64 n, .slice ba bn bc, .slice pa pn pc, .bool fixed] 119)).drew.cell? ⟨b, 0, none⟩ = some (.slice a m c) := cO (i := 0) (obj_old (.cells #[.int .i64 n, .slice ba bn bc, .slice pa pn pc, .bool fixed] 119) HB.out)
    have hbx0 : b ≠ w2.heap.size := by have := heap_lt HR.out.head; omega
    go_region_law
     ((apply app_step2 el_area enc_rr (xs := L) (ys := [⟨n, ba, bc, pa, pc, ⟨xs, xs.map fun _ => !blank, fixed⟩⟩]) (base := base); (case hw => rfl); (case ho => rfl); (case hs => rfl); (case hown => exact (HOL.out.alloc _).drew); (case hx => rfl); (case hy => exact HY.out.ext (Ext.drew' (Ext.rfl' _))); (case hbytes => simp; omega); (case hbase => simp; omega); intro lv w5 hown5 hgrow5 hmv5; obtain ⟨hk5, d0, d1, d2, d3, d4, d5⟩ := HF5.out w5 ⟨hgrow5.os, hgrow5.tape, hgrow5.output, hgrow5.size, hgrow5.block⟩; have HO5 := η hown5; have hmv6 : Hid (∀ k, lv.ownBlock = some k → (Value.slice a m c).ownBlock = some k ∨ wr.heap.size ≤ k) := η (fun k hk => (hmv5 k hk).imp id (fun h => by simp at h; omega)); clear hown5 hgrow5 hmv5; obtain ⟨la, ln, lc, rfl, hln, hLN⟩ := (HO5.out.rd enc_rr).val; have hbx : b ≠ w2.heap.size := hbx0; have d2' := (World.cell?_setCell_far w5 ⟨b, 0, none⟩ ⟨w2.heap.size, 0, none⟩ (.slice la ln lc) hbx).trans d2; have d3' := (World.cell?_setCell_far w5 ⟨b, 0, none⟩ ⟨w2.heap.size, 1, none⟩ (.slice la ln lc) hbx).trans d3; have d4' := (World.cell?_setCell_far w5 ⟨b, 0, none⟩ ⟨w2.heap.size, 2, none⟩ (.slice la ln lc) hbx).trans d4; have d5' := (World.cell?_setCell_far w5 ⟨b, 0, none⟩ ⟨w2.heap.size, 3, none⟩ (.slice la ln lc) hbx).trans d5))
    all_goals
     go_wp2_with fail
     go_returns
     have e2 : pn = (xs.map fun _ => !blank).length := by have := HJ.out; have := hVN.out; have := HPN.out; simp; omega
     have e3 : xs.length ≤ 1024 := by have := HL.out; omega
     have hpush := RefAt.push (x := ⟨n, ba, bc, pa, pc, ⟨xs, xs.map fun _ => !blank, fixed⟩⟩) HR.out (hx2.trans' hwr) hbase hk5 hmv6.out HO5.out
      (by have := HO.out.ext hwr; simp only [RR.bv]; rw [← hBN.out]; exact this)
      (by
       simp only [RR.pv]
       rw [← e2]
       refine (own_not (HP.out.mono (by omega)) ?_)
       rw [List.map_map, HJ.out, hVN.out]
       simp only [Function.comp_def, Bool.not_not]
       rw [List.map_const'])
      ⟨by simp, e3, HU.out, hn1, hn2⟩ HF.out
     refine ⟨by simp only [mmake, HC.out, HL.out, if_false]; rfl, hpush.2.1, _, _, hpush.1, ?_, hpush.2.2⟩
     simp only [mmake, HC.out, HL.out, if_false]
     simp [viewR]
theorem ba_eq (a b : ByteArray) : (a == b) = decide (a = b) := by
 rcases a with ⟨a⟩
 rcases b with ⟨b⟩
 have h : ((⟨a⟩ : ByteArray) == ⟨b⟩) = (a == b) := rfl
 rw [h]
 by_cases e : a = b
 ·subst e; simp
 ·have : (a == b) = false := by simpa using e
  rw [this]
  symm
  simpa using e
theorem ba_self (a : ByteArray) : (a == a) = true := by rw [ba_eq]; simp
theorem ba_ne {a b : ByteArray} (h : a ≠ b) : (a == b) = false := by rw [ba_eq]; simpa using h
instance : ReflBEq ByteArray := ⟨fun {a} => ba_self a⟩
instance : LawfulBEq ByteArray := ⟨fun {a b} h => by rw [ba_eq] at h; simpa using h⟩
abbrev Strs := List (ByteArray × Value)
abbrev strs (L : Strs) : List (Value × Value) := L.map fun p => (Value.string p.1, p.2)
structure SMapAt (es : Array MapEntry) (clock : Nat) (L : Strs) : Prop where
 pairs : es.toList.map (fun e => (e.key, e.val)) = strs L
 old : ∀ e ∈ es.toList, e.born < clock
 born : (es.toList.map (·.born)).Nodup
 keys : (L.map (·.1)).Nodup
def SMap (w : World) (r : Nat) (L : Strs) : Prop := ∃ es clock, w.heap[r]? = some (.map es clock) ∧ SMapAt es clock L
theorem SMap.lt {w : World} {r : Nat} {L : Strs} (h : SMap w r L) : r < w.heap.size := by
 obtain ⟨es, c, h1, _⟩ := h
 exact heap_lt h1
theorem SMap.keep {F : List Nat} {w w' : World} {r : Nat} {L : Strs} (h : SMap w r L) (k : Keep F w w') (hF : r ∉ F) : SMap w' r L := by
 obtain ⟨es, c, h1, h2⟩ := h
 exact ⟨es, c, k.obj h1 hF, h2⟩
theorem SMap.ext {w w' : World} {r : Nat} {L : Strs} (h : SMap w r L) (k : Ext w w') : SMap w' r L := by
 obtain ⟨es, c, h1, h2⟩ := h
 exact ⟨es, c, k.obj h1, h2⟩
section
variable {P : Program} {T K E : TypeId} {w : World} {r : Nat} {L : Strs}
end
section
variable {P : Program} {T K E : TypeId} {w : World} {r : Nat} {L : Strs}
variable {ops : Array Oper} {rest : List Oper} {o : Oper} {a : Act} {Q : Exit → Act → World → Prop}
theorem SMap.size {w : World} {r : Nat} {L : Strs} (h : SMap w r L) : ∃ es clock, w.heap[r]? = some (.map es clock) ∧ es.size = L.length := by
 obtain ⟨es, c, h1, h2⟩ := h
 have := congrArg List.length h2.pairs
 exact ⟨es, c, h1, by simpa using this⟩
structure SIter (w : World) (r q : Nat) (L : Strs) (done : List ByteArray) : Prop where
 map : ∃ es clock since seen c0, w.heap[r]? = some (.map es clock) ∧ SMapAt es clock L ∧ w.heap[q]? = some (.mapIter (some r) since seen c0) ∧ (∀ x ∈ es.toList, x.born < since) ∧ since ≤ c0 ∧ since ≤ clock ∧ (∀ x ∈ es.toList, seen.contains x.born = true ↔ ∃ s ∈ done, x.key = .string s)
 nodup : done.Nodup
 sub : ∀ s ∈ done, s ∈ L.map (·.1)
theorem SIter.keep {F : List Nat} {w' : World} {q : Nat} {done : List ByteArray} (h : SIter w r q L done) (k : Keep F w w') (hr : r ∉ F) (hq : q ∉ F) : SIter w' r q L done := by
 obtain ⟨⟨es, c, s, sn, c0, h1, h2, h3, h4⟩, hn, hs⟩ := h
 exact ⟨⟨es, c, s, sn, c0, k.obj h1 hr, h2, k.obj h3 hq, h4⟩, hn, hs⟩
theorem SIter.lt {q : Nat} {done : List ByteArray} (h : SIter w r q L done) : q < w.heap.size := by
 obtain ⟨⟨es, c, s, sn, c0, h1, h2, h3, h4⟩, hn, hs⟩ := h
 exact heap_lt h3
end
theorem Rd.run_str {P : Program} {w : World} {a : Option Addr} {n c : Nat} {xs : List Int} (h : Rd w 1 (fun x => [Value.int .u8 x]) (.slice a n c) xs) {src e dst : TypeId} (hs : P.underlying src = some (.slice e)) (he : P.underlying e = some (.int .u8)) (hd : P.underlying dst = some .string) :
  (convert src dst (.slice a n c)).run P w = .ok (.string (strOfNums xs)) w := by
 obtain ⟨a', c', hv, h2, h3, h4, h5⟩ := h
 injection hv with e1 e2 e3
 subst e1 e2 e3
 cases a with
 | none =>
  have := (h4 rfl).1
  subst this
  exact run_convert_bytes_nil w src e hs he _ _ dst hd
 | some ad =>
  have hl : (loadCells ad xs.length).run P w = .ok (xs.map (Value.int .u8)).toArray w := by
   have := run_loadCells_list (P := P) w ad (xs.map (Value.int .u8)) (fun j v hj => by
    rw [List.getElem?_map] at hj
    obtain ⟨x, hx, rfl⟩ := Option.map_eq_some_iff.1 hj
    have := h5 j x hx 0 _ rfl
    simpa [elt] using this)
   simpa using this
  rw [run_convert_bytes_string w src dst e _ _ _ hs he hd, run_bytesToString w _ _ _ xs hl, foldl_push_bytes]
  simp [strOfNums, ByteArray.empty, ByteArray.emptyWithCapacity]
  rfl
structure TM where
 hash : Bool
 key : Int
 val : Int
 max : Int
 slots : List (ByteArray × Nat)
 made : Nat
def TM.strs (T : TM) : Strs := T.slots.map fun p => (p.1, .int .i64 (p.2 : Int))
structure TRec where
 a : Nat
 r : Nat
 T : TM
def TRec.cells (x : TRec) : Array Value := #[.bool x.T.hash, .int .i64 x.T.key, .int .i64 x.T.val, .int .i64 x.T.max, .map (some x.r), .int .i64 x.T.made]
def TRec.blocks (x : TRec) : List Nat := [x.a, x.r]
abbrev encT : TRec → List Value := fun x => [.pointer (some ⟨x.a, 0, none⟩)]
structure Tabs where
 b : Nat
 r : Nat
 L : List Rec
 mv : Value
 R : List TRec
def tfoot (tb : Nat) (S : Tabs) : List Nat := tb :: (S.mv.ownBlock.toList ++ (S.R.flatMap TRec.blocks ++ foot S.b S.r S.L))
structure TabAt (w : World) (base tb : Nat) (S : Tabs) : Prop where
 head : w.heap[tb]? = some (.cells #[.pointer (some ⟨S.b, 0, none⟩), S.mv] 154 (0, 0))
 low : base ≤ tb
 maps : Own w base 155 1 encT S.mv S.R
 ones : ∀ x ∈ S.R, w.heap[x.a]? = some (.cells x.cells 158 (0, 0))
 slots : ∀ x ∈ S.R, SMap w x.r x.T.strs
 mem : MemAt w S.b S.r S.L
 apart : (tfoot tb S).Nodup
 few : S.R.length ≤ 8
 made : ∀ x ∈ S.R, x.T.made ≤ 1024 ∧ ∀ p ∈ x.T.slots, p.2 ≤ 1024
theorem TabAt.keep {F : List Nat} {w w' : World} {base tb : Nat} {S : Tabs} (h : TabAt w base tb S) (k : Keep F w w') (hF : ∀ j ∈ tfoot tb S, j ∉ F) : TabAt w' base tb S := by
 have hm : ∀ x ∈ S.R, ∀ j ∈ TRec.blocks x, j ∉ F := fun x hx j hj => hF j (by simp only [tfoot, List.mem_cons, List.mem_append, List.mem_flatMap]; exact .inr (.inr (.inl ⟨x, hx, hj⟩)))
 exact ⟨k.obj h.head (hF _ (by simp [tfoot])), h.low, h.maps.keep k (fun j hj => hF j (by simp [tfoot, hj])), fun x hx => k.obj (h.ones x hx) (hm x hx _ (by simp [TRec.blocks])), fun x hx => (h.slots x hx).keep k (hm x hx _ (by simp [TRec.blocks])),
  h.mem.keep k (fun j hj => hF j (by simp only [tfoot, List.mem_cons, List.mem_append]; exact .inr (.inr (.inr hj)))), h.apart, h.few, h.made⟩
theorem TabAt.ext {w w' : World} {base tb : Nat} {S : Tabs} (h : TabAt w base tb S) (k : Ext w w') : TabAt w' base tb S :=
 h.keep (F := []) (Keep.of_ext k) (fun _ _ => by simp)
theorem TabAt.lt {w : World} {base tb : Nat} {S : Tabs} (h : TabAt w base tb S) : ∀ j ∈ tfoot tb S, j < w.heap.size := by
 intro j hj
 simp only [tfoot, List.mem_cons, List.mem_append, List.mem_flatMap, Option.mem_toList] at hj
 rcases hj with rfl | hj | ⟨x, hx, hj⟩ | hj
 ·exact heap_lt h.head
 ·exact (h.maps.lt hj).2
 ·simp only [TRec.blocks, List.mem_cons, List.not_mem_nil, or_false] at hj
  rcases hj with rfl | rfl
  ·exact heap_lt (h.ones x hx)
  ·exact (h.slots x hx).lt
 ·exact h.mem.lt j hj
theorem lookup_mem' {α : Type} {L : List (ByteArray × α)} {s : ByteArray} {v : α} (h : L.lookup s = some v) : (s, v) ∈ L := by
 induction L with
 | nil => simp at h
 | cons p L ih =>
  obtain ⟨m, u⟩ := p
  by_cases hm : s = m
  ·subst hm; simp [List.lookup] at h; subst h; exact List.mem_cons_self
  ·simp only [List.lookup, ba_ne hm] at h; exact List.mem_cons_of_mem _ (ih h)
def pick {α : Type} (L : List α) (i : Int) : Option α := if i < 0 then none else L[i.toNat]?
def tfind (T : List TM) (i : Int) (n : Nat) : Option TM := (pick T i).bind fun t => if (n : Int) = t.key then some t else none
def tarea (i slot : Int) : Int := 4096 + 1024 * i + slot
def tlook (T : List TM) (i : Int) (ks : List Int) : Int × Int :=
 match tfind T i ks.length with
 | none => (0, 1)
 | some t => match t.slots.lookup (strOfNums ks) with | none => (0, 0) | some s => (mat (tarea i s) 0, 0)
theorem TabAt.put {w w' : World} {base tb : Nat} {S : Tabs} {x : TRec} {i : Nat} (h : TabAt w base tb S) (hx : S.R[i]? = some x) (T : TM) (ht : T.made ≤ 1024 ∧ ∀ p ∈ T.slots, p.2 ≤ 1024) {F : List Nat} (k : Keep F w w') (hF : ∀ j ∈ F, j ∈ TRec.blocks x)
  (h1 : w'.heap[x.a]? = some (.cells (TRec.cells { x with T := T }) 158 (0, 0))) (h2 : SMap w' x.r T.strs) :
  TabAt w' base tb { S with R := S.R.set i { x with T := T } } ∧ tfoot tb { S with R := S.R.set i { x with T := T } } = tfoot tb S := by
 have hi := (List.getElem?_eq_some_iff.1 hx).1
 have hxi := (List.getElem?_eq_some_iff.1 hx).2
 have hm : x ∈ S.R := List.mem_of_getElem? hx
 have e0 : ∀ {β : Type} (f : TRec → β), f { x with T := T } = f x → (S.R.set i { x with T := T }).map f = S.R.map f := by
  intro β f hf
  rw [List.map_set, hf]
  apply List.ext_getElem?
  intro j
  rw [List.getElem?_set]
  by_cases hj : i = j
  ·subst hj; simp [hi, hxi]
  ·simp [hj]
 have fm : ∀ {β : Type} (f : TRec → List β), f { x with T := T } = f x → (S.R.set i { x with T := T }).flatMap f = S.R.flatMap f := by
  intro β f hf
  rw [List.flatMap_def, List.flatMap_def, e0 f hf]
 have e1 := fm TRec.blocks rfl
 have e2 := fm encT rfl
 have n0 := List.nodup_cons.1 h.apart
 have n1 := List.nodup_append.1 n0.2
 have n2 := List.nodup_append.1 n1.2.1
 have hin : ∀ j ∈ TRec.blocks x, j ∈ S.R.flatMap TRec.blocks := fun j hj => List.mem_flatMap.2 ⟨x, hm, hj⟩
 have hother : ∀ y ∈ S.R.set i { x with T := T }, y = { x with T := T } ∨ (y ∈ S.R ∧ ∀ j ∈ TRec.blocks y, j ∉ F) := by
  intro y hy
  obtain ⟨j, hj⟩ := List.getElem?_of_mem hy
  rw [List.getElem?_set] at hj
  by_cases hij : i = j
  ·subst hij
   simp [hi] at hj
   exact .inl hj.symm
  ·simp [hij] at hj
   have hjl := (List.getElem?_eq_some_iff.1 hj).1
   refine .inr ⟨List.mem_of_getElem? hj, fun k hk hkF => ?_⟩
   have hpw := (List.pairwise_flatMap.1 n2.1).2
   have hkx := hF k hkF
   rw [List.pairwise_iff_getElem] at hpw
   rcases Nat.lt_or_gt_of_ne hij with hlt | hlt
   ·have := hpw i j hi hjl hlt
    rw [hxi, (List.getElem?_eq_some_iff.1 hj).2] at this
    exact this k hkx k hk rfl
   ·have := hpw j i hjl hi hlt
    rw [hxi, (List.getElem?_eq_some_iff.1 hj).2] at this
    exact this k hk k hkx rfl
 refine ⟨⟨k.obj h.head (fun hj => n0.1 ?_), h.low, ?_, ?_, ?_, h.mem.keep k (fun j hj hjF => ?_), ?_, by simpa using h.few, ?_⟩, by simp only [tfoot, e1]⟩
 ·exact List.mem_append_right _ (List.mem_append_left _ (hin _ (hF _ hj)))
 ·show World.ownsRow _ _ _ _ _ _ _
  rw [e2, List.length_set]
  exact h.maps.keep k (fun j hj hjF => n1.2.2 j (by simpa using hj) j (List.mem_append_left _ (hin j (hF j hjF))) rfl)
 ·intro y hy
  rcases hother y hy with rfl | ⟨hy', ho⟩
  ·exact h1
  ·exact k.obj (h.ones y hy') (ho _ (by simp [TRec.blocks]))
 ·intro y hy
  rcases hother y hy with rfl | ⟨hy', ho⟩
  ·exact h2
  ·exact (h.slots y hy').keep k (ho _ (by simp [TRec.blocks]))
 ·exact n2.2.2 j (hin j (hF j hjF)) j hj rfl
 ·simp only [tfoot, e1]; exact h.apart
 ·intro y hy
  rcases hother y hy with rfl | ⟨hy', ho⟩
  ·exact ht
  ·exact h.made y hy'
end Go.Proofs.YtppefchjoodgnaaGreat
