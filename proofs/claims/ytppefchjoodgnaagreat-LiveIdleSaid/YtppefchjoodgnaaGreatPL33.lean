/- What the claim leans on: RTJ. -/
import Derived.Test.YtppefchjoodgnaaGreatPL07
namespace Go.Proofs.YtppefchjoodgnaaGreat
open Go.RowKit
set_option linter.unusedVariables false
set_option linter.unusedSimpArgs false
def ItemsO (l : List (ByteArray × List Int)) (w : World) (e : Ending) (w' : World) : Prop :=
 ∃ v I, e = .returned v ∧ Own w' w.heap.size 36 2 IT.enc v I ∧ (∀ y ∈ I, ∀ F u, (∀ q ∈ F, q < w.heap.size ∨ q ∈ v.ownBlock.toList) → Keep F w' u → Sl u .u8 y.kv y.key ∧ Sl u .u8 y.vv y.val) ∧ I.map (fun x => (strOfNums x.key, x.val)) = l ∧ Ext w w'
theorem items_step2 {wr w6 w8 : World} {v lv : Value} {I : List IT} {y : IT} {B0 : Nat} (hB : B0 ≤ wr.heap.size) (hE : Ext wr w6) (hold : ∀ q ∈ v.ownBlock.toList, q < wr.heap.size)
  (HSI : ∀ y ∈ I, ∀ F w', (∀ q ∈ F, q < B0 ∨ q ∈ v.ownBlock.toList) → Keep F wr w' → Sl w' .u8 y.kv y.key ∧ Sl w' .u8 y.vv y.val)
  (hk : Sl w6 .u8 y.kv y.key) (hkb : ∀ a n c, y.kv = .slice (some a) n c → wr.heap.size ≤ a.block ∧ a.block < w6.heap.size) (hv : Sl w6 .u8 y.vv y.val) (hvb : ∀ a n c, y.vv = .slice (some a) n c → wr.heap.size ≤ a.block ∧ a.block < w6.heap.size)
  {o : Obj} (hg : (w6.alloc o).grownBy w8 v.ownBlock) (hmv : ∀ q ∈ lv.ownBlock.toList, q ∈ v.ownBlock.toList ∨ w6.heap.size ≤ q) :
  ∀ z ∈ I ++ [y], ∀ F w', (∀ q ∈ F, q < B0 ∨ q ∈ lv.ownBlock.toList) → Keep F w8 w' → Sl w' .u8 z.kv z.key ∧ Sl w' .u8 z.vv z.val := by
 have hk8 := grown_keep hg
 have hk9 : Keep v.ownBlock.toList wr w8 := (Keep.of_ext (hE.alloc' o)).trans hk8
 have hs := hE.size
 intro z hz F w' hF k'
 rcases List.mem_append.1 hz with hz | hz
 ·refine HSI z hz (v.ownBlock.toList ++ F.filter (fun q => decide (q < wr.heap.size))) w' (fun q hq => ?_) ((hk9.mono fun q hq => .inl (List.mem_append_left _ hq)).through k' (fun q hq => ?_))
  ·rcases List.mem_append.1 hq with hq | hq
   ·exact .inr hq
   ·have h1 := List.mem_filter.1 hq
    have h2 : q < wr.heap.size := by simpa using h1.2
    rcases hF q h1.1 with h | h
    ·exact .inl h
    ·exact (hmv q h).elim .inr (fun h => by omega)
  ·by_cases h2 : q < wr.heap.size
   ·exact .inl (List.mem_append_right _ (List.mem_filter.2 ⟨hq, by simpa using h2⟩))
   ·exact .inr (by omega)
 ·rw [List.mem_singleton] at hz
  subst hz
  have hx : Ext w6 (w6.alloc o) := (Ext.rfl' w6).alloc' o
  have go : ∀ (u : Value) (xs : List Int), Sl w6 .u8 u xs → (∀ a n c, u = .slice (some a) n c → wr.heap.size ≤ a.block ∧ a.block < w6.heap.size) → Sl w' .u8 u xs := fun u xs h hb => by
   refine ((h.ext hx).keep hk8 (fun a n c e hq => ?_)).keep k' (fun a n c e hq => ?_)
   ·have := hold _ hq; have := (hb a n c e).1; omega
   ·rcases hF _ hq with h0 | h0
    ·have := (hb a n c e).1; omega
    ·rcases hmv _ h0 with h1 | h1
     ·have := hold _ h1; have := (hb a n c e).1; omega
     ·have := (hb a n c e).2; omega
  exact ⟨go _ _ hk hkb, go _ _ hv hvb⟩
set_option maxRecDepth 20000 in
set_option maxHeartbeats 8000000 in
theorem rtab_items2 (base tb : Nat) (S : RTabs) (i : Int) (w : World) (h : RTabAt w base tb S) (HB : Hid (∀ x ∈ S.R, x.T.slots.length ≤ 1000 ∧ ∀ p ∈ x.T.slots, p.1.size ≤ 1000)) :
  Calls Tryz.prog 39 #[.pointer (some ⟨tb, 0, none⟩), .int .i64 i] w (ItemsO (ritems (rview S) i) w) := by
 have HT := η h
 have hb1 := cO (i := 1) h.head
 simp only [gA, gB, gC] at hb1
 have RMM := η (h.maps.rd enc_rm)
 obtain ⟨ma, mn, mc, hmv, hmn, hMN⟩ := RMM.out.val
 have HMV := η hmv
 rw [hmv] at hb1 RMM
 have h8 := h.few
 clear h hmv
 by_cases h0 : i < 0
 ·have hr : ritems (rview S) i = [] := by simp only [ritems, pick, rview]; rw [if_pos h0]
  rw [hr]
  clear hr
  go_enter Tryz.func39, Tryz.ntmps39
  go_wp2
  go_returns
  exact ⟨.slice none 0 0, [], rfl, Own.nil _ _ _ _ _, by simp, rfl, Ext.rfl' _⟩
 by_cases h1 : (mn : Int) ≤ i
 ·have hr : ritems (rview S) i = [] := by
   simp only [ritems, pick, rview]
   rw [if_neg h0, List.getElem?_eq_none (by have := hMN.out; simp; omega)]
  rw [hr]
  clear hr
  go_enter Tryz.func39, Tryz.ntmps39
  go_wp2
  go_returns
  exact ⟨.slice none 0 0, [], rfl, Own.nil _ _ _ _ _, by simp, rfl, Ext.rfl' _⟩
 obtain ⟨j, rfl⟩ : ∃ j : Nat, i = j := ⟨i.toNat, by omega⟩
 have hj8 : j < S.R.length := by have := hMN.out; omega
 obtain ⟨x, hx⟩ := at_of_lt (xs := S.R) (k := j) hj8
 have hxm := List.mem_of_getElem? hx
 have hi1 : ((j : Nat) : Int) < (mn : Int) := by omega
 have RK := η ((HT.out.keys x hxm).rd enc_ks)
 obtain ⟨la, ln, lc, hlv, hln, hLN⟩ := RK.out.val
 have HLV := η hlv
 rw [hlv] at RK
 have ix := fun W => RMM.out.run_at (P := Tryz.prog) el_rm.under el_rm.size .i64 (j : Int) (by omega) (by omega) W
 obtain ⟨c0, c1, c2, c3, c4, c5⟩ := rm_cells RMM.out hx
 simp only [Int.toNat_natCast] at ix
 rw [hlv] at c4
 have HSL : Hid ((ln : Int) = (x.T.slots.length : Int)) := η (by have := hLN.out; omega)
 have HRI : Hid (ritems (rview S) j = x.T.slots.map fun p => (p.1, (marea (viewR S.L) (tarea j (p.2 : Nat))).1)) := η (by
  simp only [ritems, pick, rview]
  rw [if_neg h0, Int.toNat_natCast, List.getElem?_map, hx]
  rfl)
 have HSB : Hid (∀ u, Ext w u → u.cell? ⟨tb, 1, none⟩ = some (.slice ma mn mc) ∧ u.cell? ⟨(elt (.slice ma mn mc) (j * 6)).block, (elt (.slice ma mn mc) (j * 6)).off + 4, none⟩ = some (.slice la ln lc)) := η fun u k => ⟨k.cellOf hb1, k.cellOf c4⟩
 obtain ⟨hB1, hB2⟩ := HB.out x hxm
 have HB2 := η hB2
 have HMD := η (HT.out.made x hxm)
 have hl1000 : ln ≤ 1000 := by have := hLN.out; omega
 have dj : decide ((j : Int) < 0) = false := by simp
 have dm : decide (mn ≤ j) = false := by simp; omega
 clear hx hlv c0 c1 c2 c3 c5 hB2 h0 h1
 go_enter Tryz.func39, Tryz.ntmps39
 go_wp2_with fail
 go_loopw [6, 5] (fun c v wr => ∃ (k : Nat) (I : List IT), k ≤ ln ∧ c = .int .i64 k ∧ I.length = k ∧ Hid (Own wr w.heap.size 36 2 IT.enc v I) ∧ Hid (∀ y ∈ I, ∀ F w', (∀ q ∈ F, q < w.heap.size ∨ q ∈ v.ownBlock.toList) → Keep F wr w' → Sl w' .u8 y.kv y.key ∧ Sl w' .u8 y.vv y.val) ∧ Hid (I.map (fun y => (strOfNums y.key, y.val)) = (ritems (rview S) j).take k) ∧ (∃ a n c, v = .slice a n c) ∧ Ext w wr) (fun c _ _ => ln - (intOf c).toNat)
 case atStart => exact ⟨0, [], Nat.zero_le _, rfl, rfl, η (Own.nil _ _ _ _ _), η (by simp), η (by simp), ⟨_, _, _, rfl⟩, Ext.rfl' _⟩
 case round =>
  obtain ⟨k, I, hk, rfl, hIl, HO, HSI, HMI, ⟨oa, on, oc, rfl⟩, hwr⟩ := hrel
  have HIL := η hIl
  clear hIl
  obtain ⟨d1, d4⟩ := HSB.out _ hwr
  by_cases hlt2 : (k : Int) < ln
  case neg =>
   have hkn : (x.T.slots.length : Nat) ≤ k := by have := HSL.out; omega
   have HKN := η hkn
   clear hkn
   go_wp2_with fail
   go_returns
   refine ⟨_, I, rfl, HO.out, HSI.out, ?_, hwr⟩
   rw [HMI.out, List.take_of_length_le (by rw [HRI.out, List.length_map]; exact HKN.out)]
  case pos =>
   obtain ⟨p, hp⟩ := at_of_lt (xs := x.T.slots) (k := k) (by have := HSL.out; omega)
   have iy := fun W => RK.out.run_at (P := Tryz.prog) el_rk.under el_rk.size .i64 (k : Int) (by omega) (by omega) W
   simp only [Int.toNat_natCast] at iy
   obtain ⟨z0, z1⟩ := ks_cells (RK.out.ext hwr) hp
   have HPM := η hp
   have hpz := HB2.out p (List.mem_of_getElem? hp)
   have hp2 := HMD.out.2 p (List.mem_of_getElem? hp)
   have hobj := obj_top wr (keyObj p.1 p.2) rfl
   have HSK : Hid (∀ u, Ext (wr.alloc (keyObj p.1 p.2)) u → u.cell? ⟨wr.heap.size, 0, none⟩ = some (.string p.1) ∧ u.cell? ⟨wr.heap.size, 1, none⟩ = some (.int .i64 (p.2 : Nat)) ∧ u.cell? ⟨tb, 0, none⟩ = some (.pointer (some ⟨S.rb, 0, none⟩))) := η fun u k =>
    ⟨cO (k.obj hobj), cO (k.obj hobj), cO (HT.out.ext (hwr.trans' (((Ext.rfl' _).alloc' _).trans' k))).head⟩
   have hE1 : Ext wr (wr.alloc (keyObj p.1 p.2)) := (Ext.rfl' _).alloc' _
   have hZ : wr.heap.size < (wr.alloc (keyObj p.1 p.2)).heap.size := by simp
   have HTr := η (HT.out.ext (hwr.trans' hE1))
   clear hp hobj
   go_upto_region 8 with fail
   generalize wr.alloc (.cells #[.string p.1, .int .i64 (p.2 : Nat)] 129) = w2 at *
   generalize hZZ : wr.heap.size = Z at *
   obtain ⟨y0, y1, yb⟩ := HSK.out _ (Ext.rfl' _)
   go_cut [8, 9] (fun v8 v9 wx => Ext w2 wx ∧ Hid (Rd wx 1 encB v8 (marea (viewR S.L) (tarea j (p.2 : Nat))).1))
   case first =>
    go_region_held3 (fun w' => w'.cell? ⟨tb, 0, none⟩ = some (.pointer (some ⟨S.rb, 0, none⟩)) ∧ w'.cell? ⟨Z, 1, none⟩ = some (.int .i64 (p.2 : Nat)))
     (first | exact ⟨yb, y1⟩ | exact s5)
     ((first
      | (go_at_call 63; refine (rtab_area j p.2 _ (by omega) (by omega) (by omega) (by omega)).mono ?_; rintro e w4 ⟨rfl, rfl⟩)
      | (go_at_call 72; refine (ref_area base S.rb S.lv S.L (tarea j p.2) _ (HTr.out.mem.ext (by (repeat (first|exact xE0 _|assumption|refine xE1 ?_ _|refine xE2 ?_|refine xE3 ?_ _|refine xE4 ?_ (by assumption)))))).mono ?_; rintro e w5 ⟨bv, rfl, hbv, rfl⟩; have HBV := η hbv; clear hbv)))
    all_goals
     go_wp2_with fail
     go_meet
     exact ⟨by (repeat (first|exact xE0 _|assumption|refine xE1 ?_ _|refine xE2 ?_|refine xE3 ?_ _|refine xE4 ?_ (by assumption))), η (HBV.out.ext (by (repeat (first|exact xE0 _|assumption|refine xE1 ?_ _|refine xE2 ?_|refine xE3 ?_ _|refine xE4 ?_ (by assumption)))))⟩
   case rest =>
    obtain ⟨hx3, HBV⟩ := hcut
    obtain ⟨ba, bn, bc, rfl, hbn, hBN⟩ := HBV.out.val
    obtain ⟨bs, hbs⟩ : ∃ bs, (marea (viewR S.L) (tarea j (p.2 : Nat))).1 = bs := ⟨_, rfl⟩
    have HBS := η hbs
    rw [hbs] at HBV hBN
    have hbl : bs.length ≤ 1000000 := by rw [← hbs]; exact (marea_len HT.out.mem _)
    obtain ⟨cf, wf, hconv, hwf⟩ := bytes_fun p.1 (by omega)
    have HWF := η hwf
    obtain ⟨kk, hkk⟩ : ∃ kk, numsK p.1 = kk := ⟨_, rfl⟩
    rw [hkk] at hconv HWF
    have HKK := η hkk
    have hwc : Ext wr wc := hE1.trans' hx3
    have HO9 := η (HO.out.ext hwc)
    have HS9 : Hid (∀ u, Ext wc u → u.cell? ⟨Z, 0, none⟩ = some (.string p.1)) := η fun u k => (HSK.out u (hx3.trans' k)).1
    have q0 := HS9.out _ (Ext.rfl' _)
    have hIl2 : I.length ≤ 1000 := by have := HIL.out; omega
    have HKEY : Hid (∀ W0 w6, Ext (wf W0) w6 → ∀ q, q = W0.heap.size → Sl w6 .u8 (.slice (some ⟨q, 0, none⟩) kk.length (cf W0)) kk) := η fun W0 w6 k q hq => by subst hq; exact (HWF.out W0).2.1.ext k
    have HKB : Hid (∀ W0 w6, Ext wr W0 → Ext (wf W0) w6 → ∀ q, q = W0.heap.size → ∀ a n c, Value.slice (some ⟨q, 0, none⟩) kk.length (cf W0) = .slice (some a) n c → wr.heap.size ≤ a.block ∧ a.block < w6.heap.size) := η fun W0 w6 k1 k2 q hq => key_blk k1 (HWF.out W0).2.2 k2 hq
    have HZC : Hid (Z < wc.heap.size) := η (by have := hx3.size; omega)
    have HZN : Hid (Z ∉ (Value.slice oa on oc).ownBlock.toList) := η fun hj => by have := (HO.out.lt (by simpa using hj)).2; omega
    clear hwf hbs hkk y0 y1 yb
    go_wp2_with fail
    have q0a : ∀ o, (wc.alloc o).cell? ⟨Z, 0, none⟩ = some (.string p.1) := fun o => HS9.out _ ((Ext.rfl' _).alloc' o)
    go_region_law
     ((first
      | (apply app_step el_u8 (enc_int _) (xs := []) (ys := bs) (base := wc.heap.size); (case hw => rfl); (case ho => rfl); (case hs => rfl); (case hown => (first | exact Own.drew (Own.made wc wc.heap.size _ _ _ rfl (Nat.le_refl _)) | exact Own.made wc.drew wc.heap.size _ _ _ (by simp) (by simp) | exact Own.made (wf wc.drew) wc.heap.size _ _ _ rfl (show Ext wc (wf wc.drew) by (repeat (first | exact Ext.rfl' _ | assumption | refine Ext.drewN' ?_ _ | refine Ext.drew' ?_ | refine Ext.alloc' ?_ _ | refine Ext.trans' ?_ (HWF.out _).1 | refine Ext.trans' ?_ (by assumption)))).size | exact (Own.made wc.drew wc.heap.size _ _ _ (by simp) (by simp)).ext (HWF.out _).1)); (case hx => rfl); (case hy => refine HBV.out.ext ?_; (repeat (first | exact Ext.rfl' _ | assumption | refine Ext.drewN' ?_ _ | refine Ext.drew' ?_ | refine Ext.alloc' ?_ _ | refine Ext.trans' ?_ (HWF.out _).1 | refine Ext.trans' ?_ (by assumption)))); (case hbytes => simp; omega); (case hbase => exact (show Ext wc _ by (repeat (first | exact Ext.rfl' _ | assumption | refine Ext.drewN' ?_ _ | refine Ext.drew' ?_ | refine Ext.alloc' ?_ _ | refine Ext.trans' ?_ (HWF.out _).1 | refine Ext.trans' ?_ (by assumption)))).size); intro v8 w8 hown8 hg8 hb8; obtain ⟨a8, c8, rfl, -⟩ := hown8.rd (enc_int _); simp only [List.nil_append] at hown8; have h8 : Ext wc w8 := hb8 _ _ (show Ext wc _ by (repeat (first | exact Ext.rfl' _ | assumption | refine Ext.drewN' ?_ _ | refine Ext.drew' ?_ | refine Ext.alloc' ?_ _ | refine Ext.trans' ?_ (HWF.out _).1 | refine Ext.trans' ?_ (by assumption)))) (Nat.le_refl _); have O8 := η hown8; have q8 := HS9.out w8 h8; (first | (have K8 := η (key_keep hg8 (W0 := wc.drew) (HWF.out wc.drew).2.1 (Ext.alloc' (Ext.rfl' _) _) (Nat.ne_of_gt (HWF.out wc.drew).2.2) (q := wc.heap.size) rfl); have B8 := η (key_blk8 (q := wc.heap.size) hg8 hwc (Ext.alloc' (Ext.rfl' _) _) (Nat.le_refl _) (HWF.out wc.drew).2.2)) | (have K8 := η (key_keep hg8 (HWF.out _).2.1 (Ext.rfl' _) (by simp) (q := wc.heap.size + 1) (by simp)); have B8 := η (key_blk8 (q := wc.heap.size + 1) hg8 hwc (Ext.rfl' _) (Nat.le_succ _) (by have h1 := (HWF.out (wc.alloc (.cells #[] 5)).drew).2.2; simpa using h1))) | skip); clear hown8 hg8 hb8)
      | (have hw6 : Ext w8 w8 := Ext.rfl' _; apply app_step2 el_item enc_it (xs := I) (ys := [⟨some ⟨_, 0, none⟩, _, a8, c8, kk, bs⟩]) (base := w.heap.size); (case hw => rfl); (case ho => rfl); (case hs => rfl); (case hown => refine HO.out.ext ?_; (repeat (first | exact Ext.rfl' _ | assumption | refine Ext.drewN' ?_ _ | refine Ext.drew' ?_ | refine Ext.alloc' ?_ _ | refine Ext.trans' ?_ (HWF.out _).1 | refine Ext.trans' ?_ h8 | refine Ext.trans' ?_ hwc | refine Ext.trans' ?_ hwr))); (case hx => rfl); (case hy => (first | exact item_lit w8 ⟨some ⟨_, 0, none⟩, _, a8, c8, kk, bs⟩ _ (by simp) | exact item_lit (wf w8) ⟨some ⟨_, 0, none⟩, _, a8, c8, kk, bs⟩ _ (by simp))); (case hbytes => simp; omega); (case hbase => exact (show Ext w _ by (repeat (first | exact Ext.rfl' _ | assumption | refine Ext.drewN' ?_ _ | refine Ext.drew' ?_ | refine Ext.alloc' ?_ _ | refine Ext.trans' ?_ (HWF.out _).1 | refine Ext.trans' ?_ h8 | refine Ext.trans' ?_ hwc | refine Ext.trans' ?_ hwr))).size); intro v9 w9 hown9 hg9 hmv9; have O9 := η hown9; have G9 := η hg9; have M9 := η hmv9; have s9 : w9.cell? ⟨Z, 0, none⟩ = some (.string p.1) := (World.cell?_of_block ((grown_keep hg9).block Z (Nat.lt_of_lt_of_le HZC.out (show Ext wc _ by (repeat (first | exact Ext.rfl' _ | assumption | refine Ext.drewN' ?_ _ | refine Ext.drew' ?_ | refine Ext.alloc' ?_ _ | refine Ext.trans' ?_ (HWF.out _).1 | refine Ext.trans' ?_ (by assumption)))).size) HZN.out)).trans (HS9.out _ (by (repeat (first | exact Ext.rfl' _ | assumption | refine Ext.drewN' ?_ _ | refine Ext.drew' ?_ | refine Ext.alloc' ?_ _ | refine Ext.trans' ?_ (HWF.out _).1 | refine Ext.trans' ?_ (by assumption))))); clear hown9 hg9 hmv9)))
    all_goals
     obtain ⟨la9, ln9, lc9, rfl, hln9, hLN9⟩ := (O9.out.rd enc_it).val
     go_wp2_with fail
     go_roundw
     case rel =>
      have hkeep : Keep (Value.slice oa on oc).ownBlock.toList _ _ := grown_keep G9.out
      have hlo : ∀ q ∈ (Value.slice oa on oc).ownBlock.toList, w.heap.size ≤ q := fun q hq => (HO.out.lt (by simpa using hq)).1
      refine ⟨k + 1, I ++ [_], by omega, by go_num, by simp [HIL.out], O9, η (items_step2 (wr := wr) (B0 := w.heap.size) hwr.size (v := .slice oa on oc) ?_ (fun q hq => (HO.out.lt (by simpa using hq)).2) HSI.out ?_ ?_ ?_ ?_ G9.out ?_), η ?_, ⟨_, _, _, rfl⟩, hkeep.below (show Ext w _ by (repeat (first | exact Ext.rfl' _ | assumption | refine Ext.drewN' ?_ _ | refine Ext.drew' ?_ | refine Ext.alloc' ?_ _ | refine Ext.trans' ?_ (HWF.out _).1 | refine Ext.trans' ?_ h8 | refine Ext.trans' ?_ hwc | refine Ext.trans' ?_ hwr))) (show Ext w _ by (repeat (first | exact Ext.rfl' _ | assumption | refine Ext.drewN' ?_ _ | refine Ext.drew' ?_ | refine Ext.alloc' ?_ _ | refine Ext.trans' ?_ (HWF.out _).1 | refine Ext.trans' ?_ h8 | refine Ext.trans' ?_ hwc | refine Ext.trans' ?_ hwr))).size hlo⟩
      ·(repeat (first | exact Ext.rfl' _ | assumption | refine Ext.drewN' ?_ _ | refine Ext.drew' ?_ | refine Ext.alloc' ?_ _ | refine Ext.trans' ?_ (HWF.out _).1 | refine Ext.trans' ?_ h8 | refine Ext.trans' ?_ hwc | refine Ext.trans' ?_ hwr))
      ·first | exact K8.out.ext (by (repeat (first | exact Ext.rfl' _ | assumption | refine Ext.drewN' ?_ _ | refine Ext.drew' ?_ | refine Ext.alloc' ?_ _ | refine Ext.trans' ?_ (HWF.out _).1 | refine Ext.trans' ?_ h8 | refine Ext.trans' ?_ hwc | refine Ext.trans' ?_ hwr))) | exact HKEY.out _ _ (by (repeat (first | exact Ext.rfl' _ | assumption | refine Ext.drewN' ?_ _ | refine Ext.drew' ?_ | refine Ext.alloc' ?_ _ | refine Ext.trans' ?_ (HWF.out _).1 | refine Ext.trans' ?_ h8 | refine Ext.trans' ?_ hwc | refine Ext.trans' ?_ hwr))) _ (by simp)
      ·first | exact blk_of B8.out (by (repeat (first | exact Ext.rfl' _ | assumption | refine Ext.drewN' ?_ _ | refine Ext.drew' ?_ | refine Ext.alloc' ?_ _ | refine Ext.trans' ?_ (HWF.out _).1 | refine Ext.trans' ?_ h8 | refine Ext.trans' ?_ hwc | refine Ext.trans' ?_ hwr))) | exact HKB.out _ _ (by (repeat (first | exact Ext.rfl' _ | assumption | refine Ext.drewN' ?_ _ | refine Ext.drew' ?_ | refine Ext.alloc' ?_ _ | refine Ext.trans' ?_ (HWF.out _).1 | refine Ext.trans' ?_ h8 | refine Ext.trans' ?_ hwc | refine Ext.trans' ?_ hwr))) (by (repeat (first | exact Ext.rfl' _ | assumption | refine Ext.drewN' ?_ _ | refine Ext.drew' ?_ | refine Ext.alloc' ?_ _ | refine Ext.trans' ?_ (HWF.out _).1 | refine Ext.trans' ?_ h8 | refine Ext.trans' ?_ hwc | refine Ext.trans' ?_ hwr))) _ (by simp)
      ·exact (O8.out.rd (enc_int _)).ext (by (repeat (first | exact Ext.rfl' _ | assumption | refine Ext.drewN' ?_ _ | refine Ext.drew' ?_ | refine Ext.alloc' ?_ _ | refine Ext.trans' ?_ (HWF.out _).1 | refine Ext.trans' ?_ h8 | refine Ext.trans' ?_ hwc | refine Ext.trans' ?_ hwr)))
      ·exact own_blk O8.out hwc.size (by (repeat (first | exact Ext.rfl' _ | assumption | refine Ext.drewN' ?_ _ | refine Ext.drew' ?_ | refine Ext.alloc' ?_ _ | refine Ext.trans' ?_ (HWF.out _).1 | refine Ext.trans' ?_ h8 | refine Ext.trans' ?_ hwc | refine Ext.trans' ?_ hwr)))
      ·exact fun q hq => (M9.out q (by simpa using hq)).imp (fun h => by simpa using (show (Value.slice oa on oc).ownBlock = some q from h)) (fun h => by simp at h; omega)
      ·rw [List.map_append, HMI.out, HRI.out, List.take_add_one, List.getElem?_map, HPM.out]
       simp only [List.map_cons, List.map_nil, Option.map_some, Option.toList_some, HBS.out]
       rw [← HKK.out, str_numsK]
     case measure => simp [intOf]; omega
end Go.Proofs.YtppefchjoodgnaaGreat
