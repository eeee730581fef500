/- What the claim leans on: RefD. -/
import Derived.Test.YtppefchjoodgnaaGreatPN04
import Derived.Deep.RegionLaw
namespace Go.Proofs.YtppefchjoodgnaaGreat
open Go.RowKit
set_option linter.unusedVariables false
set_option linter.unusedSimpArgs false
theorem nodup_le : ∀ (N : Nat) (l : List Int), l.Nodup → (∀ x ∈ l, 1 ≤ x ∧ x ≤ N) → l.length ≤ N
 | 0, l, _, h => by
  cases l with
  | nil => simp
  | cons x l => have := h x List.mem_cons_self; omega
 | N + 1, l, hn, h => by
  have h1 : (l.erase ((N + 1 : Nat) : Int)).length ≤ N := nodup_le N _ (hn.erase _) (fun x hx => by
   have := (hn.mem_erase_iff).1 hx
   have h2 := h x this.2
   have h3 : x ≠ ((N + 1 : Nat) : Int) := this.1
   omega)
  have h2 := List.length_erase (a := ((N + 1 : Nat) : Int)) (l := l)
  split at h2 <;> omega
theorem RefAt.few {w : World} {base b : Nat} {lv : Value} {L : List RR} (h : RefAt w base b lv L) : L.length ≤ 2147483647 := by
 have := nodup_le 2147483647 (L.map (·.n)) h.uniq (fun x hx => by
  obtain ⟨y, hy, rfl⟩ := List.mem_map.1 hx
  have := (h.ok y hy).2.2.2
  omega)
 simpa using this
theorem own_not {w : World} {base : Nat} {e : TypeId} {v : Value} {ys P : List Bool} (h : Own w base e 1 (fun x => [Value.bool x]) v ys) (hP : ys = P.map (!·)) : Own w base e 1 encP v P := by
 subst hP
 show World.ownsRow _ _ _ _ _ _ _
 have h' : World.ownsRow _ _ _ _ _ _ _ := h
 rw [flat1, List.map_map, List.length_map] at h'
 rw [flat1]
 exact h'
theorem obj_below {B : Nat} {w w' : World} (h : Below B w w') {k : Nat} {o : Obj} (ho : w.heap[k]? = some o) (hk : k < B) : w'.heap[k]? = some o := (h.block k hk).trans ho
theorem opt_nodup (o : Option Nat) : o.toList.Nodup := by cases o <;> simp
theorem ne_area_mem : 119 ≠ 83 := by decide
theorem ne_area_u8 : 119 ≠ 5 := by decide
theorem ne_area_bool : 119 ≠ 4 := by decide
theorem ne_u8_bool : 5 ≠ 4 := by decide
theorem RefAt.push {w wr w5 : World} {base b : Nat} {lv lv' : Value} {L : List RR} {x : RR} (h : RefAt w base b lv L) (he : Ext w wr) (hbase : base ≤ w.heap.size) (hk : Keep lv.ownBlock.toList wr w5) (hmv : ∀ k, lv'.ownBlock = some k → lv.ownBlock = some k ∨ wr.heap.size ≤ k)
  (hl : Own w5 base 119 4 RR.enc lv' (L ++ [x])) (hb : Own wr w.heap.size 5 1 encB x.bv x.A.bytes) (hp : Own wr w.heap.size 4 1 encP x.pv x.A.put)
  (ok : x.A.put.length = x.A.bytes.length ∧ x.A.bytes.length ≤ 1024 ∧ (∀ q ∈ x.A.bytes, 0 ≤ q ∧ q ≤ 255) ∧ 1 ≤ x.n ∧ x.n ≤ 2147483647) (hnew : (viewR L).lookup x.n = none) :
  RefAt (w5.setCell ⟨b, 0, none⟩ lv') base b lv' (L ++ [x]) ∧ Keep (rfoot b lv L) w (w5.setCell ⟨b, 0, none⟩ lv') ∧ ∀ k ∈ rfoot b lv' (L ++ [x]), k ∈ rfoot b lv L ∨ w.heap.size ≤ k := by
 have hblt := heap_lt h.head
 have h0 := List.nodup_cons.1 h.apart
 have h1 := List.nodup_append.1 h0.2
 have hbF : b ∉ lv.ownBlock.toList := fun hb => h0.1 (List.mem_append_left _ hb)
 have hb5 := hk.obj (he.obj h.head) hbF
 have hlb : ∀ j, lv'.ownBlock = some j → j ≠ b := fun j hj e => by subst e; exact hl.type_ne' hb5 ne_area_mem hj
 have hkb : Keep [b] w5 (w5.setCell ⟨b, 0, none⟩ lv') := (Keep.rfl' [b] w5).setCell (by simp) _
 have hmem : ∀ y ∈ L, ∀ j ∈ RR.blocks y, j ∈ L.flatMap RR.blocks := fun y hy j hj => List.mem_flatMap.2 ⟨y, hy, hj⟩
 have hlf : ∀ y ∈ L, ∀ j ∈ RR.blocks y, j ∉ lv.ownBlock.toList ∧ j ≠ b := fun y hy j hj => ⟨fun hj' => h1.2.2 j hj' j (hmem y hy j hj) rfl, fun e => h0.1 (List.mem_append_right _ (by rw [← e]; exact hmem y hy j hj))⟩
 have hllt : ∀ j ∈ lv.ownBlock.toList, j < w.heap.size := fun j hj => (h.list.lt (by simpa using hj)).2
 have hxb : ∀ j, x.bv.ownBlock = some j → w.heap.size ≤ j := fun j hj => (hb.lt hj).1
 have hxp : ∀ j, x.pv.ownBlock = some j → w.heap.size ≤ j := fun j hj => (hp.lt hj).1
 have hx : ∀ j ∈ RR.blocks x, w.heap.size ≤ j := by
  intro j hj
  simp only [RR.blocks, List.mem_append, Option.mem_toList] at hj
  rcases hj with hj | hj
  ·exact hxb j hj
  ·exact hxp j hj
 have kb : ∀ y ∈ L, Own w5 base 5 1 encB y.bv y.A.bytes := fun y hy => ((h.bytes y hy).ext he).keep hk (fun j hj => (hlf y hy j (by simp [RR.blocks, hj])).1)
 have kp : ∀ y ∈ L, Own w5 base 4 1 encP y.pv y.A.put := fun y hy => ((h.put y hy).ext he).keep hk (fun j hj => (hlf y hy j (by simp [RR.blocks, hj])).1)
 have xb : Own w5 base 5 1 encB x.bv x.A.bytes := (hb.mono hbase).keep hk (fun j hj hj' => by have := hllt j hj'; have := hxb j hj; omega)
 have xp : Own w5 base 4 1 encP x.pv x.A.put := (hp.mono hbase).keep hk (fun j hj hj' => by have := hllt j hj'; have := hxp j hj; omega)
 have ab : ∀ y ∈ L ++ [x], Own w5 base 5 1 encB y.bv y.A.bytes := fun y hy => by
  rcases List.mem_append.1 hy with hy | hy
  ·exact kb y hy
  ·rw [List.mem_singleton] at hy; subst hy; exact xb
 have ap : ∀ y ∈ L ++ [x], Own w5 base 4 1 encP y.pv y.A.put := fun y hy => by
  rcases List.mem_append.1 hy with hy | hy
  ·exact kp y hy
  ·rw [List.mem_singleton] at hy; subst hy; exact xp
 have nb : ∀ y ∈ L ++ [x], ∀ j ∈ RR.blocks y, j ≠ b := fun y hy j hj => by
  rcases List.mem_append.1 hy with hy | hy
  ·exact (hlf y hy j hj).2
  ·rw [List.mem_singleton] at hy; subst hy; have := hx j hj; omega
 refine ⟨⟨?_, h.hb, hl.keep hkb (fun j hj => by simpa using hlb j hj), fun y hy => (ab y hy).keep hkb (fun j hj => by simpa using nb y hy j (by simp [RR.blocks, hj])), fun y hy => (ap y hy).keep hkb (fun j hj => by simpa using nb y hy j (by simp [RR.blocks, hj])), ?_, ?_, ?_⟩, ?_, ?_⟩
 ·have := heap_setCell_same w5 b 0 _ _ lv' hb5
  simpa using this
 ·rw [List.nodup_cons, List.nodup_append]
  refine ⟨?_, opt_nodup _, ?_, ?_⟩
  ·intro hj
   rcases List.mem_append.1 hj with hj | hj
   ·exact hlb b (by simpa using hj) rfl
   ·obtain ⟨y, hy, hj⟩ := List.mem_flatMap.1 hj
    exact nb y hy b hj rfl
  ·rw [List.flatMap_append, List.nodup_append]
   refine ⟨h1.2.1, ?_, ?_⟩
   ·simp only [List.flatMap_cons, List.flatMap_nil, List.append_nil, RR.blocks]
    rw [List.nodup_append]
    refine ⟨opt_nodup _, opt_nodup _, ?_⟩
    intro j hj k hk' e
    subst e
    exact hb.type_ne hp ne_u8_bool (by simpa using hj) (by simpa using hk')
   ·intro j hj k hk' e
    subst e
    obtain ⟨y, hy, hj⟩ := List.mem_flatMap.1 hj
    have h3 := (h.lt j (by simp only [rfoot, List.mem_cons, List.mem_append]; exact .inr (.inr (hmem y hy j hj)))).2
    have h4 := hx j (by simpa using hk')
    omega
  ·intro j hj k hk' e
   subst e
   obtain ⟨y, hy, hj'⟩ := List.mem_flatMap.1 hk'
   simp only [RR.blocks, List.mem_append, Option.mem_toList] at hj'
   rcases hj' with hj' | hj'
   ·exact hl.type_ne (ab y hy) ne_area_u8 (by simpa using hj) hj'
   ·exact hl.type_ne (ap y hy) ne_area_bool (by simpa using hj) hj'
 ·intro y hy
  rcases List.mem_append.1 hy with hy | hy
  ·exact h.ok y hy
  ·rw [List.mem_singleton] at hy; subst hy; exact ok
 ·rw [List.map_append, List.nodup_append]
  refine ⟨h.uniq, by simp, ?_⟩
  intro j hj k hk' e
  obtain ⟨y, hy, rfl⟩ := List.mem_map.1 hj
  simp only [List.map_cons, List.map_nil, List.mem_singleton] at hk'
  subst hk'
  exact lookup_none hnew (y.n, y.A) (List.mem_map.2 ⟨y, hy, rfl⟩) e
 ·have hk0 : Keep (rfoot b lv L) w w5 := ((Keep.of_ext he).trans hk).mono (fun j hj => .inl (by simp only [rfoot, List.mem_cons, List.mem_append]; exact .inr (.inl hj)))
  exact hk0.setCell (by simp [rfoot]) _
 ·intro k hk'
  simp only [rfoot, List.mem_cons, List.mem_append, List.flatMap_append, List.flatMap_cons, List.flatMap_nil, List.append_nil] at hk' ⊢
  rcases hk' with rfl | hk' | hk' | hk'
  ·exact .inl (.inl rfl)
  ·rcases hmv k (by simpa using hk') with h2 | h2
   ·exact .inl (.inr (.inl (by simpa using h2)))
   ·have := he.size
    exact .inr (by omega)
  ·exact .inl (.inr (.inr hk'))
  ·exact .inr (hx k hk')
def RMakeAns (base b : Nat) (lv : Value) (L : List RR) (n : Int) (xs : List Int) (blank fixed : Bool) (w : World) (e : Ending) (w' : World) : Prop :=
 e = .returned (.int .i64 (mmake (viewR L) n xs blank fixed).2) ∧ Keep (rfoot b lv L) w w' ∧ ∃ lv' L', RefAt w' base b lv' L' ∧ viewR L' = (mmake (viewR L) n xs blank fixed).1 ∧ ∀ k ∈ rfoot b lv' L', k ∈ rfoot b lv L ∨ w.heap.size ≤ k
set_option maxHeartbeats 1000000 in
theorem ref_make (base b : Nat) (lv : Value) (L : List RR) (n : Int) (v : Value) (xs : List Int) (blank fixed : Bool) (w : World) (h : RefAt w base b lv L) (hbase : base ≤ w.heap.size) (hv : Sl w .u8 v xs) (hu : ∀ x ∈ xs, 0 ≤ x ∧ x ≤ 255) :
  Calls Tryz.prog 33 #[.pointer (some ⟨b, 0, none⟩), .int .i64 n, v, .bool blank, .bool fixed] w (RMakeAns base b lv L n xs blank fixed w) := by
 obtain ⟨a, m, c, rfl, hm, hM, RL, hb⟩ := h.open
 obtain ⟨va, vn, vc, rfl, hvn, hVN⟩ := hv.val
 have HV := η hv
 have HU := η hu
 have HR := η h
 clear hv hu h
 by_cases hbad : n < 1 ∨ 2147483647 < n
 ·have hc : (((viewR L).lookup n).isSome = true ∨ n < 1 ∨ 2147483647 < n) := .inr hbad
  have HC := η hc
  clear hc
  rcases hbad with hs | hs
  all_goals
   go_enter Tryz.func33, Tryz.ntmps33
   go_wp2_with fail
   go_returns
   exact ⟨by simp only [mmake, HC.out, if_true]; rfl, Keep.rfl' _ _, _, L, HR.out, by simp only [mmake, HC.out, if_true], fun k hk => .inl hk⟩
 have hn1 : 1 ≤ n := by omega
 have hn2 : n ≤ 2147483647 := by omega
 clear hbad
 go_enter Tryz.func33, Tryz.ntmps33
 go_wp2_with fail
 refine (ref_find base b _ L n _ HR.out).mono ?_
 rintro e w1 ⟨rfl, ⟨hf, rfl⟩ | ⟨i, x, hx, hxn, hf, rfl⟩⟩
 case inr =>
  have HF := η hf
  have hi0 : decide ((0 : Int) ≤ i) = true := by simp
  clear hf hx hxn
  go_wp2_with fail
  go_returns
  have hc : (((viewR L).lookup n).isSome = true ∨ n < 1 ∨ 2147483647 < n) := .inl (by rw [HF.out]; rfl)
  exact ⟨by simp only [mmake, hc, if_true]; rfl, Keep.rfl' _ _, _, L, HR.out, by simp only [mmake, hc, if_true], fun k hk => .inl hk⟩
 have hc : ¬ (((viewR L).lookup n).isSome = true ∨ n < 1 ∨ 2147483647 < n) := by rw [hf]; simp; omega
 have HC := η hc
 have HF := η hf
 clear hf hc
 by_cases hlong : (1024 : Int) < vn
 ·go_wp2_with fail
  go_returns
  have hl : 1024 < xs.length := by have := hVN.out; omega
  exact ⟨by simp only [mmake, HC.out, hl, if_true, if_false]; rfl, Keep.rfl' _ _, _, L, HR.out, by simp only [mmake, HC.out, hl, if_true, if_false], fun k hk => .inl hk⟩
 ·have hl : ¬ 1024 < xs.length := by have := hVN.out; omega
  have HL := η hl
  have hxw := (Ext.rfl' w1).alloc' (.cells #[] 5)
  clear hl
  go_wp2_with (at_builtin; refine app_own el_u8 (enc_int .u8) rfl _ _ rfl rfl (Own.made w1 w1.heap.size _ _ _ rfl (Nat.le_refl _)) rfl (ys := xs) ?q1 ?q2 ?q3 ?q4)
  case q1 => exact HV.out.ext hxw
  case q2 => exact ⟨by have := HL.out; simp; omega, by have := HL.out; simp; omega⟩
  case q3 => simp
  intro bv w2 hown hgrow hbel
  have HO := η (show Own w2 w1.heap.size 5 1 encB bv xs by simpa using hown)
  have hx2 : Ext w1 w2 := hbel _ _ hxw (Nat.le_refl _)
  clear hown hgrow hbel hxw
  obtain ⟨ba, bn, bc, rfl, hbn, hBN⟩ := (HO.out.rd (enc_int _)).val
  go_wp2_with fail
  go_loopw [12] (fun i wr => ∃ (j : Nat) (pa : Option Addr) (pn pc : Nat), j ≤ vn ∧ i = .int .i64 j ∧ Ext w2 wr ∧ Hid (wr.heap[w2.heap.size]? = some (.cells #[.int .i64 n, .slice ba bn bc, .slice pa pn pc, .bool fixed] 119 (0, 0))) ∧ Hid (Own wr (w2.heap.size + 1) 4 1 (fun x => [Value.bool x]) (.slice pa pn pc) (List.replicate j blank))) (fun i _ => vn - (intOf i).toNat)
  case atStart => exact ⟨0, none, 0, 0, Nat.zero_le _, rfl, (Ext.rfl' w2).alloc' _, η (obj_top _ _ rfl), η (Own.nil _ _ _ _ _)⟩
  case round =>
   obtain ⟨j, pa, pn, pc, hj, rfl, hwr, HX, HP⟩ := hrel
   have c2 := cO (i := 2) HX.out
   simp only [gA, gB, gC] at c2
   have hxlt : w2.heap.size < wr.heap.size := heap_lt HX.out
   by_cases hlt : (j : Int) < vn
   ·have hal := (Ext.rfl' wr).alloc' (.cells #[.bool blank] 4)
    have c2' := hal.cellOf c2
    go_wp2_with (at_builtin; refine app_own el_bool enc_bool rfl _ _ rfl rfl (HP.out.alloc _) rfl (ys := [blank]) ?r1 ?r2 ?r3 ?r4)
    case r1 => exact (Own.lit enc_bool (base := 0) (w := wr) [blank] rfl rfl (Nat.zero_le _) (by simp [maxLen])).rd enc_bool
    case r2 => simp; omega
    case r3 => simp; omega
    intro pv w5 hown hgrow hbel
    have HB5 := η (hbel (w2.heap.size + 1) wr ((Below.refl _ _).alloc (by omega) _) (Nat.le_refl _))
    have HX5 := η (obj_below HB5.out HX.out (by omega))
    have HO5 := η hown
    clear hown hgrow hbel
    obtain ⟨qa, qn, qc, rfl, hqn, hQN⟩ := (HO5.out.rd enc_bool).val
    have d2 := cO (i := 2) HX5.out
    have d3 := frozen_obj (i := 2) HX5.out
    simp only [gA, gB, gC] at d2
    have HS := η (heap_setCell_same w5 w2.heap.size 2 _ _ (.slice qa qn qc) HX5.out)
    go_wp2_with fail
    go_roundw
    case rel =>
     refine ⟨j + 1, qa, qn, qc, by omega, by go_num, ?_, η (by simpa using HS.out), η ?_⟩
     ·exact (hwr.trans (HB5.out.mono (by omega))).setCell (Nat.le_refl _) _
     ·rw [List.replicate_succ']
      exact Own.other HO5.out (by simp) _
    case measure => simp [intOf]; omega
   ·have hjn : j = vn := by omega
    have HJ := η hjn
    clear hjn
    have c0 := cO (i := 0) HX.out
    have c1 := cO (i := 1) HX.out
    have c3 := cO (i := 3) HX.out
    simp only [gA, gB, gC] at c0 c1 c3
    have hbw := (hx2.trans' hwr).cellOf hb
    go_wp2_with fail
    have hpn := HP.out.len
    rw [List.length_replicate] at hpn
    have hnew : (.cells #[.int .i64 n, .slice ba bn bc, .slice pa pn pc, .bool fixed] 119 : Obj) = .cells (([⟨n, ba, bc, pa, pc, ⟨xs, xs.map fun _ => !blank, fixed⟩⟩] : List RR).flatMap RR.enc).toArray 119 := by
     have e1 : bn = xs.length := hBN.out
     have e2 : pn = (xs.map fun _ => !blank).length := by have := HJ.out; have := hVN.out; simp; omega
     rw [e1, e2]; rfl
    have HOL := η (HR.out.list.ext (hx2.trans' hwr))
    have HNEW := η hnew
    have hfew : L.length ≤ 2147483647 := HR.out.few
    have HPN := η hpn
    clear hnew hpn
    have HB := η ((hx2.trans' hwr).obj HR.out.head)
    have hsz1 : w1.heap.size ≤ w2.heap.size := hx2.size
    have hbF : b ∉ (Value.slice a m c).ownBlock.toList := fun hb => (List.nodup_cons.1 HR.out.apart).1 (List.mem_append_left _ hb)
    have hxF : w2.heap.size ∉ (Value.slice a m c).ownBlock.toList := fun hb => by
     have := (HR.out.list.lt (by simpa using hb)).2
     omega
    have HY : Hid (Rd (wr.alloc (.cells #[.int .i64 n, .slice ba bn bc, .slice pa pn pc, .bool fixed] 119)) 4 RR.enc (.slice (some ⟨wr.heap.size, 0, none⟩) 1 1) [⟨n, ba, bc, pa, pc, ⟨xs, xs.map fun _ => !blank, fixed⟩⟩]) := η (by
     rw [HNEW.out]
     exact (Own.lit enc_rr (base := 0) (w := wr) _ rfl rfl (Nat.zero_le _) (by simp [maxLen])).rd enc_rr)
    have HF5 : Hid (∀ u' : World, (wr.alloc (.cells #[.int .i64 n, .slice ba bn bc, .slice pa pn pc, .bool fixed] 119)).grownBy u' (Value.slice a m c).ownBlock → Keep (Value.slice a m c).ownBlock.toList wr u' ∧
      (u'.cell? ⟨b, 0, none⟩ = some (.slice a m c) ∧ u'.frozen? ⟨b, 0, none⟩ = false ∧ u'.cell? ⟨w2.heap.size, 0, none⟩ = some (.int .i64 n) ∧ u'.cell? ⟨w2.heap.size, 1, none⟩ = some (.slice ba bn bc) ∧ u'.cell? ⟨w2.heap.size, 2, none⟩ = some (.slice pa pn pc) ∧ u'.cell? ⟨w2.heap.size, 3, none⟩ = some (.bool fixed))) :=
     η fun u' hg => by
      have hk : Keep (Value.slice a m c).ownBlock.toList wr u' := (Keep.of_ext ((Ext.rfl' wr).alloc' _)).trans (grown_keep hg)
      exact ⟨hk, cO (hk.obj HB.out hbF), frozen_obj (hk.obj HB.out hbF), cO (hk.obj HX.out hxF), cO (hk.obj HX.out hxF), cO (hk.obj HX.out hxF), cO (hk.obj HX.out hxF)⟩
    have hfz := frozen_obj (i := 0) HB.out
    have hfz2 : (wr.alloc (.cells #[.int .i64 n, .slice ba bn bc, .slice pa pn pc, .bool fixed] 119)).drew.frozen? ⟨b, 0, none⟩ = false := frozen_obj (i := 0) (obj_old (.cells #[.int .i64 n, .slice ba bn bc, .slice pa pn pc, .bool fixed] 119) HB.out)
    have hbw2 : base ≤ wr.heap.size := by omega
    have hbw4 : (wr.alloc (.cells #[.int .i64 n, .slice ba bn bc, .slice pa pn pc, .bool fixed] 119)).drew.cell? ⟨b, 0, none⟩ = some (.slice a m c) := cO (i := 0) (obj_old (.cells #[.int .i64 n, .slice ba bn bc, .slice pa pn pc, .bool fixed] 119) HB.out)
    have hbx0 : b ≠ w2.heap.size := by have := heap_lt HR.out.head; omega
    go_region_law
     ((apply app_step2 el_area enc_rr (xs := L) (ys := [⟨n, ba, bc, pa, pc, ⟨xs, xs.map fun _ => !blank, fixed⟩⟩]) (base := base); (case hw => rfl); (case ho => rfl); (case hs => rfl); (case hown => exact (HOL.out.alloc _).drew); (case hx => rfl); (case hy => exact HY.out.ext (Ext.drew' (Ext.rfl' _))); (case hbytes => simp; omega); (case hbase => simp; omega); intro lv w5 hown5 hgrow5 hmv5; obtain ⟨hk5, d0, d1, d2, d3, d4, d5⟩ := HF5.out w5 ⟨hgrow5.os, hgrow5.tape, hgrow5.output, hgrow5.size, hgrow5.block⟩; have HO5 := η hown5; have hmv6 : Hid (∀ k, lv.ownBlock = some k → (Value.slice a m c).ownBlock = some k ∨ wr.heap.size ≤ k) := η (fun k hk => (hmv5 k hk).imp id (fun h => by simp at h; omega)); clear hown5 hgrow5 hmv5; obtain ⟨la, ln, lc, rfl, hln, hLN⟩ := (HO5.out.rd enc_rr).val; have hbx : b ≠ w2.heap.size := hbx0; have d2' := (World.cell?_setCell_far w5 ⟨b, 0, none⟩ ⟨w2.heap.size, 0, none⟩ (.slice la ln lc) hbx).trans d2; have d3' := (World.cell?_setCell_far w5 ⟨b, 0, none⟩ ⟨w2.heap.size, 1, none⟩ (.slice la ln lc) hbx).trans d3; have d4' := (World.cell?_setCell_far w5 ⟨b, 0, none⟩ ⟨w2.heap.size, 2, none⟩ (.slice la ln lc) hbx).trans d4; have d5' := (World.cell?_setCell_far w5 ⟨b, 0, none⟩ ⟨w2.heap.size, 3, none⟩ (.slice la ln lc) hbx).trans d5))
    all_goals
     go_wp2_with fail
     go_returns
     have e2 : pn = (xs.map fun _ => !blank).length := by have := HJ.out; have := hVN.out; have := HPN.out; simp; omega
     have e3 : xs.length ≤ 1024 := by have := HL.out; omega
     have hpush := RefAt.push (x := ⟨n, ba, bc, pa, pc, ⟨xs, xs.map fun _ => !blank, fixed⟩⟩) HR.out (hx2.trans' hwr) hbase hk5 hmv6.out HO5.out
      (by have := HO.out.ext hwr; simp only [RR.bv]; rw [← hBN.out]; exact this)
      (by
       simp only [RR.pv]
       rw [← e2]
       refine (own_not (HP.out.mono (by omega)) ?_)
       rw [List.map_map, HJ.out, hVN.out]
       simp only [Function.comp_def, Bool.not_not]
       rw [List.map_const'])
      ⟨by simp, e3, HU.out, hn1, hn2⟩ HF.out
     refine ⟨by simp only [mmake, HC.out, HL.out, if_false]; rfl, hpush.2.1, _, _, hpush.1, ?_, hpush.2.2⟩
     simp only [mmake, HC.out, HL.out, if_false]
     simp [viewR]
end Go.Proofs.YtppefchjoodgnaaGreat
