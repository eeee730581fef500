/- The document's maps: Items. -/
import Derived.Test.YtjimmbcihcmfoaaRTE
import Derived.Test.YtjimmbcihcmfoaaTabI
namespace Go.Proofs.Ytjimmbcihcmfoaa
open Go.RowKit
set_option linter.unusedVariables false
set_option linter.unusedSimpArgs false

def ritems (V : Areas × List TM) (i : Int) : List (ByteArray × List Int) :=
  match pick V.2 i with
  | none => []
  | some t => t.slots.map fun p => (p.1, (marea V.1 (tarea i (p.2 : Nat))).1)
def itemObj (y : IT) : Obj := .cells (([y] : List IT).flatMap IT.enc).toArray 60
/-- One more item: all of them read on, as long as nothing but their row turns. -/
theorem items_step {wr w6 w8 : World} {v lv : Value} {I : List IT} {y : IT} (hE : Ext wr w6) (hold : ∀ q ∈ v.ownBlock.toList, q < wr.heap.size)
    (HSI : ∀ y ∈ I, ∀ w', Keep v.ownBlock.toList wr w' → Sl w' .u8 y.kv y.key ∧ Sl w' .u8 y.vv y.val)
    (hk : Sl w6 .u8 y.kv y.key) (hkb : ∀ a n c, y.kv = .slice (some a) n c → wr.heap.size ≤ a.block ∧ a.block < w6.heap.size) (hv : Sl w6 .u8 y.vv y.val) (hvb : ∀ a n c, y.vv = .slice (some a) n c → wr.heap.size ≤ a.block ∧ a.block < w6.heap.size)
    {o : Obj} (hg : (w6.alloc o).grownBy w8 v.ownBlock) (hmv : ∀ q ∈ lv.ownBlock.toList, q ∈ v.ownBlock.toList ∨ w6.heap.size ≤ q) :
    ∀ z ∈ I ++ [y], ∀ w', Keep lv.ownBlock.toList w8 w' → Sl w' .u8 z.kv z.key ∧ Sl w' .u8 z.vv z.val := by
  have hk8 := grown_keep hg
  have hk9 : Keep v.ownBlock.toList wr w8 := (Keep.of_ext (hE.alloc' o)).trans hk8
  have hs := hE.size
  intro z hz w' k'
  rcases List.mem_append.1 hz with hz | hz
  · exact HSI z hz w' (hk9.through k' (fun q hq => (hmv q hq).imp id (fun h => by omega)))
  · rw [List.mem_singleton] at hz
    subst hz
    have hx : Ext w6 (w6.alloc o) := (Ext.rfl' w6).alloc' o
    have go : ∀ (u : Value) (xs : List Int), Sl w6 .u8 u xs → (∀ a n c, u = .slice (some a) n c → wr.heap.size ≤ a.block ∧ a.block < w6.heap.size) → Sl w' .u8 u xs := fun u xs h hb => by
      refine ((h.ext hx).keep hk8 (fun a n c e hq => ?_)).keep k' (fun a n c e hq => ?_)
      · have := hold _ hq; have := (hb a n c e).1; omega
      · rcases hmv _ hq with h1 | h1
        · have := hold _ h1; have := (hb a n c e).1; omega
        · have := (hb a n c e).2; omega
    exact ⟨go _ _ hk hkb, go _ _ hv hvb⟩
/-- The bytes of a string, at whatever world: as functions of the world. -/
theorem bytes_fun (k : ByteArray) (hk : k.size ≤ 1000000) : ∃ (cf : World → Nat) (wf : World → World), (∀ w, (convert 9 40 (.string k)).run Try.prog w = .ok (.slice (some ⟨w.heap.size, 0, none⟩) (numsK k).length (cf w)) (wf w)) ∧
    ∀ w, Ext w (wf w) ∧ Sl (wf w) .u8 (.slice (some ⟨w.heap.size, 0, none⟩) (numsK k).length (cf w)) (numsK k) ∧ w.heap.size < (wf w).heap.size := by
  have hl : (numsK k).length = k.size := by unfold numsK; rw [List.length_map, Array.length_toList]; rfl
  rw [hl]
  exact ⟨fun w => (run_bytes_own k hk w).choose, fun w => (run_bytes_own k hk w).choose_spec.choose, fun w => (run_bytes_own k hk w).choose_spec.choose_spec.1, fun w => (run_bytes_own k hk w).choose_spec.choose_spec.2⟩
theorem item_lit (w : World) (y : IT) (q : Nat) (hq : q = w.heap.size) : Rd (w.alloc (itemObj y)) 2 IT.enc (.slice (some ⟨q, 0, none⟩) 1 1) [y] :=
  (Own.lit enc_it (base := 0) (w := w) (e := 60) [y] hq rfl (Nat.zero_le _) (by simp [maxLen])).rd enc_it
theorem key_blk {wr W0 W1 w6 : World} (h1 : Ext wr W0) (h2 : W0.heap.size < W1.heap.size) (h3 : Ext W1 w6) {q m c' : Nat} (hq : q = W0.heap.size) : ∀ a n c, Value.slice (some ⟨q, 0, none⟩) m c' = .slice (some a) n c → wr.heap.size ≤ a.block ∧ a.block < w6.heap.size := by
  intro a n c e
  injection e with e
  injection e with e
  subst e
  have := h1.size
  have := h3.size
  simp only
  omega
theorem key_keep {W0 W1 W w8 : World} {r n0 c0 c : Nat} {kk : List Int} (hg : W.grownBy w8 (Value.slice (some ⟨r, 0, none⟩) n0 c0).ownBlock) (h : Sl W1 .u8 (.slice (some ⟨W0.heap.size, 0, none⟩) kk.length c) kk) (hE : Ext W1 W) (hr : r ≠ W0.heap.size) {q : Nat} (hq : q = W0.heap.size) :
    Sl w8 .u8 (.slice (some ⟨q, 0, none⟩) kk.length c) kk := by
  subst hq
  exact (h.ext hE).keep (grown_keep hg) (fun a n c e => by
    injection e with e
    injection e with e
    subst e
    simp [Value.ownBlock]
    exact fun h => hr h.symm)
theorem key_blk8 {wr wc W1 W w8 : World} {row : Option Nat} {q : Nat} (hg : W.grownBy w8 row) (h0 : Ext wr wc) (hE : Ext W1 W) (h1 : wc.heap.size ≤ q) (h2 : q < W1.heap.size) : wr.heap.size ≤ q ∧ q < w8.heap.size := by
  have := h0.size; have := hE.size; have := hg.size
  omega
theorem blk_of {wr w8 w6 : World} {q m c' : Nat} (h : wr.heap.size ≤ q ∧ q < w8.heap.size) (hE : Ext w8 w6) : ∀ a n c, Value.slice (some ⟨q, 0, none⟩) m c' = .slice (some a) n c → wr.heap.size ≤ a.block ∧ a.block < w6.heap.size := by
  intro a n c e
  injection e with e
  injection e with e
  subst e
  have := hE.size
  simp only
  omega
theorem own_blk {α : Type} {wr w8 w6 : World} {base : Nat} {e : TypeId} {sz : Nat} {enc : α → List Value} {v : Value} {xs : List α} (h : Own w8 base e sz enc v xs) (h1 : wr.heap.size ≤ base) (h3 : Ext w8 w6) : ∀ a n c, v = .slice (some a) n c → wr.heap.size ≤ a.block ∧ a.block < w6.heap.size := by
  intro a n c e
  have hl := h.lt (k := a.block) (by rw [e]; rfl)
  have := h3.size
  omega
theorem marea_len {w : World} {base b : Nat} {lv : Value} {L : List RR} (h : RefAt w base b lv L) (n : Int) : (marea (viewR L) n).1.length ≤ 1000000 := by
  simp only [marea]
  cases hl : (viewR L).lookup n with
  | none => simp
  | some A =>
    simp only
    have hm : ∃ x ∈ L, x.A = A := by
      have hok := h.ok
      clear h hok
      induction L with
      | nil => simp [viewR] at hl
      | cons x L ih =>
        simp only [viewR, List.map_cons, List.lookup] at hl
        split at hl
        · injection hl with hl; exact ⟨x, List.mem_cons_self, hl⟩
        · obtain ⟨y, hy, e⟩ := ih hl; exact ⟨y, List.mem_cons_of_mem _ hy, e⟩
    obtain ⟨x, hx, rfl⟩ := hm
    have := (h.ok x hx).2.1
    omega
set_option maxRecDepth 20000 in
set_option maxHeartbeats 8000000 in
theorem rtab_items (base tb : Nat) (S : RTabs) (i : Int) (w : World) (h : RTabAt w base tb S) (HB : Hid (∀ x ∈ S.R, x.T.slots.length ≤ 1000 ∧ ∀ p ∈ x.T.slots, p.1.size ≤ 1000)) :
    Calls Try.prog 18 #[.pointer (some ⟨tb, 0, none⟩), .int .i64 i] w (ItemsT (ritems (rview S) i) w) := by
  have HT := Lib.hid h
  have hb1 := cell_obj (i := 1) h.head
  simp only [List.getElem?_toArray, List.getElem?_cons_zero, List.getElem?_cons_succ] at hb1
  have RMM := Lib.hid (h.maps.rd enc_rm)
  obtain ⟨ma, mn, mc, hmv, hmn, hMN⟩ := RMM.out.val
  have HMV := Lib.hid hmv
  rw [hmv] at hb1 RMM
  have h8 := h.few
  clear h hmv
  by_cases h0 : i < 0
  · have hr : ritems (rview S) i = [] := by simp only [ritems, pick, rview]; rw [if_pos h0]
    rw [hr]
    clear hr
    go_enter Try.func18, Try.ntmps18
    go_wp2
    go_returns
    exact ⟨_, rfl, ⟨[], Rd.nil _ _ _, by simp, rfl⟩, Ext.rfl' _⟩
  by_cases h1 : (mn : Int) ≤ i
  · have hr : ritems (rview S) i = [] := by
      simp only [ritems, pick, rview]
      rw [if_neg h0, List.getElem?_eq_none (by have := hMN.out; simp; omega)]
    rw [hr]
    clear hr
    go_enter Try.func18, Try.ntmps18
    go_wp2
    go_returns
    exact ⟨_, rfl, ⟨[], Rd.nil _ _ _, by simp, rfl⟩, Ext.rfl' _⟩
  obtain ⟨j, rfl⟩ : ∃ j : Nat, i = j := ⟨i.toNat, by omega⟩
  have hj8 : j < S.R.length := by have := hMN.out; omega
  obtain ⟨x, hx⟩ := at_of_lt (xs := S.R) (k := j) hj8
  have hxm := List.mem_of_getElem? hx
  have hi1 : ((j : Nat) : Int) < (mn : Int) := by omega
  have RK := Lib.hid ((HT.out.keys x hxm).rd enc_ks)
  obtain ⟨la, ln, lc, hlv, hln, hLN⟩ := RK.out.val
  have HLV := Lib.hid hlv
  rw [hlv] at RK
  have ix := fun W => RMM.out.run_at (P := Try.prog) el_rm.under el_rm.size .i64 (j : Int) (by omega) (by omega) W
  obtain ⟨c0, c1, c2, c3, c4, c5⟩ := rm_cells RMM.out hx
  simp only [Int.toNat_natCast] at ix
  rw [hlv] at c4
  have HSL : Hid ((ln : Int) = (x.T.slots.length : Int)) := Lib.hid (by have := hLN.out; omega)
  have HRI : Hid (ritems (rview S) j = x.T.slots.map fun p => (p.1, (marea (viewR S.L) (tarea j (p.2 : Nat))).1)) := Lib.hid (by
    simp only [ritems, pick, rview]
    rw [if_neg h0, Int.toNat_natCast, List.getElem?_map, hx]
    rfl)
  have HSB : Hid (∀ u, Ext w u → u.cell? ⟨tb, 1, none⟩ = some (.slice ma mn mc) ∧ u.cell? ⟨(elt (.slice ma mn mc) (j * 6)).block, (elt (.slice ma mn mc) (j * 6)).off + 4, none⟩ = some (.slice la ln lc)) := Lib.hid fun u k => ⟨k.cellOf hb1, k.cellOf c4⟩
  obtain ⟨hB1, hB2⟩ := HB.out x hxm
  have HB2 := Lib.hid hB2
  have HMD := Lib.hid (HT.out.made x hxm)
  have hl1000 : ln ≤ 1000 := by have := hLN.out; omega
  have dj : decide ((j : Int) < 0) = false := by simp
  have dm : decide (mn ≤ j) = false := by simp; omega
  clear hx hlv c0 c1 c2 c3 c5 hB2 h0 h1
  go_enter Try.func18, Try.ntmps18
  go_wp2_with fail
  go_loopw [6, 5] (fun c v wr => ∃ (k : Nat) (I : List IT), k ≤ ln ∧ c = .int .i64 k ∧ I.length = k ∧ Hid (Own wr w.heap.size 60 2 IT.enc v I) ∧ Hid (∀ y ∈ I, ∀ w', Keep v.ownBlock.toList wr w' → Sl w' .u8 y.kv y.key ∧ Sl w' .u8 y.vv y.val) ∧ Hid (I.map (fun y => (strOfNums y.key, y.val)) = (ritems (rview S) j).take k) ∧ (∃ a n c, v = .slice a n c) ∧ Ext w wr) (fun c _ _ => ln - (intOf c).toNat)
  case atStart => exact ⟨0, [], Nat.zero_le _, rfl, rfl, Lib.hid (Own.nil _ _ _ _ _), Lib.hid (by simp), Lib.hid (by simp), ⟨_, _, _, rfl⟩, Ext.rfl' _⟩
  case round =>
    obtain ⟨k, I, hk, rfl, hIl, HO, HSI, HMI, ⟨oa, on, oc, rfl⟩, hwr⟩ := hrel
    have HIL := Lib.hid hIl
    clear hIl
    obtain ⟨d1, d4⟩ := HSB.out _ hwr
    by_cases hlt2 : (k : Int) < ln
    case neg =>
      have hkn : (x.T.slots.length : Nat) ≤ k := by have := HSL.out; omega
      have HKN := Lib.hid hkn
      clear hkn
      go_wp2_with fail
      go_returns
      refine ⟨_, rfl, ⟨I, HO.out.rd enc_it, fun y hy => HSI.out y hy _ (Keep.rfl' _ _), ?_⟩, hwr⟩
      rw [HMI.out, List.take_of_length_le (by rw [HRI.out, List.length_map]; exact HKN.out)]
    case pos =>
      obtain ⟨p, hp⟩ := at_of_lt (xs := x.T.slots) (k := k) (by have := HSL.out; omega)
      have iy := fun W => RK.out.run_at (P := Try.prog) el_rk.under el_rk.size .i64 (k : Int) (by omega) (by omega) W
      simp only [Int.toNat_natCast] at iy
      obtain ⟨z0, z1⟩ := ks_cells (RK.out.ext hwr) hp
      have HPM := Lib.hid hp
      have hpz := HB2.out p (List.mem_of_getElem? hp)
      have hp2 := HMD.out.2 p (List.mem_of_getElem? hp)
      have hobj := obj_top wr (keyObj p.1 p.2) rfl
      have HSK : Hid (∀ u, Ext (wr.alloc (keyObj p.1 p.2)) u → u.cell? ⟨wr.heap.size, 0, none⟩ = some (.string p.1) ∧ u.cell? ⟨wr.heap.size, 1, none⟩ = some (.int .i64 (p.2 : Nat)) ∧ u.cell? ⟨tb, 0, none⟩ = some (.pointer (some ⟨S.rb, 0, none⟩))) := Lib.hid fun u k =>
        ⟨cell_obj (k.obj hobj), cell_obj (k.obj hobj), cell_obj (HT.out.ext (hwr.trans' (((Ext.rfl' _).alloc' _).trans' k))).head⟩
      have hE1 : Ext wr (wr.alloc (keyObj p.1 p.2)) := (Ext.rfl' _).alloc' _
      have hZ : wr.heap.size < (wr.alloc (keyObj p.1 p.2)).heap.size := by simp
      have HTr := Lib.hid (HT.out.ext (hwr.trans' hE1))
      clear hp hobj
      go_upto_region 8 with fail
      generalize wr.alloc (.cells #[.string p.1, .int .i64 (p.2 : Nat)] 90) = w2 at *
      generalize hZZ : wr.heap.size = Z at *
      obtain ⟨y0, y1, yb⟩ := HSK.out _ (Ext.rfl' _)
      go_cut [8, 9] (fun v8 v9 wx => Ext w2 wx ∧ Hid (Rd wx 1 encB v8 (marea (viewR S.L) (tarea j (p.2 : Nat))).1))
      case first =>
        go_region_held3 (fun w' => w'.cell? ⟨tb, 0, none⟩ = some (.pointer (some ⟨S.rb, 0, none⟩)) ∧ w'.cell? ⟨Z, 1, none⟩ = some (.int .i64 (p.2 : Nat)))
          (first | exact ⟨yb, y1⟩ | exact s5)
          ((first
            | (go_at_call 22; refine (rtab_area j p.2 _ (by omega) (by omega) (by omega) (by omega)).mono ?_; rintro e w4 ⟨rfl, rfl⟩)
            | (go_at_call 21; refine (ref_area base S.rb S.lv S.L (tarea j p.2) _ (HTr.out.mem.ext (by (repeat (first | exact Ext.rfl' _ | assumption | refine Ext.drewN' ?_ _ | refine Ext.drew' ?_ | refine Ext.alloc' ?_ _ | refine Ext.trans' ?_ (by assumption)))))).mono ?_; rintro e w5 ⟨bv, rfl, hbv, rfl⟩; have HBV := Lib.hid hbv; clear hbv)))
        all_goals
          go_wp2_with fail
          go_meet
          exact ⟨by (repeat (first | exact Ext.rfl' _ | assumption | refine Ext.drewN' ?_ _ | refine Ext.drew' ?_ | refine Ext.alloc' ?_ _ | refine Ext.trans' ?_ (by assumption))), Lib.hid (HBV.out.ext (by (repeat (first | exact Ext.rfl' _ | assumption | refine Ext.drewN' ?_ _ | refine Ext.drew' ?_ | refine Ext.alloc' ?_ _ | refine Ext.trans' ?_ (by assumption)))))⟩
      case rest =>
        obtain ⟨hx3, HBV⟩ := hcut
        obtain ⟨ba, bn, bc, rfl, hbn, hBN⟩ := HBV.out.val
        obtain ⟨bs, hbs⟩ : ∃ bs, (marea (viewR S.L) (tarea j (p.2 : Nat))).1 = bs := ⟨_, rfl⟩
        have HBS := Lib.hid hbs
        rw [hbs] at HBV hBN
        have hbl : bs.length ≤ 1000000 := by rw [← hbs]; exact (marea_len HT.out.mem _)
        obtain ⟨cf, wf, hconv, hwf⟩ := bytes_fun p.1 (by omega)
        have HWF := Lib.hid hwf
        obtain ⟨kk, hkk⟩ : ∃ kk, numsK p.1 = kk := ⟨_, rfl⟩
        rw [hkk] at hconv HWF
        have HKK := Lib.hid hkk
        have hwc : Ext wr wc := hE1.trans' hx3
        have HO9 := Lib.hid (HO.out.ext hwc)
        have HS9 : Hid (∀ u, Ext wc u → u.cell? ⟨Z, 0, none⟩ = some (.string p.1)) := Lib.hid fun u k => (HSK.out u (hx3.trans' k)).1
        have q0 := HS9.out _ (Ext.rfl' _)
        have hIl2 : I.length ≤ 1000 := by have := HIL.out; omega
        have HKEY : Hid (∀ W0 w6, Ext (wf W0) w6 → ∀ q, q = W0.heap.size → Sl w6 .u8 (.slice (some ⟨q, 0, none⟩) kk.length (cf W0)) kk) := Lib.hid fun W0 w6 k q hq => by subst hq; exact (HWF.out W0).2.1.ext k
        have HKB : Hid (∀ W0 w6, Ext wr W0 → Ext (wf W0) w6 → ∀ q, q = W0.heap.size → ∀ a n c, Value.slice (some ⟨q, 0, none⟩) kk.length (cf W0) = .slice (some a) n c → wr.heap.size ≤ a.block ∧ a.block < w6.heap.size) := Lib.hid fun W0 w6 k1 k2 q hq => key_blk k1 (HWF.out W0).2.2 k2 hq
        have HZC : Hid (Z < wc.heap.size) := Lib.hid (by have := hx3.size; omega)
        have HZN : Hid (Z ∉ (Value.slice oa on oc).ownBlock.toList) := Lib.hid fun hj => by have := (HO.out.lt (by simpa using hj)).2; omega
        clear hwf hbs hkk y0 y1 yb
        go_wp2_with fail
        have q0a : ∀ o, (wc.alloc o).cell? ⟨Z, 0, none⟩ = some (.string p.1) := fun o => HS9.out _ ((Ext.rfl' _).alloc' o)
        go_region_law
          ((first
            | (apply app_step el_u8 (enc_int _) (xs := []) (ys := bs) (base := wc.heap.size); (case hw => rfl); (case ho => rfl); (case hs => rfl); (case hown => (first | exact Own.drew (Own.made wc wc.heap.size _ _ _ rfl (Nat.le_refl _)) | exact Own.made wc.drew wc.heap.size _ _ _ (by simp) (by simp) | exact Own.made (wf wc.drew) wc.heap.size _ _ _ rfl (show Ext wc (wf wc.drew) by (repeat (first | exact Ext.rfl' _ | assumption | refine Ext.drewN' ?_ _ | refine Ext.drew' ?_ | refine Ext.alloc' ?_ _ | refine Ext.trans' ?_ (HWF.out _).1 | refine Ext.trans' ?_ (by assumption)))).size | exact (Own.made wc.drew wc.heap.size _ _ _ (by simp) (by simp)).ext (HWF.out _).1)); (case hx => rfl); (case hy => refine HBV.out.ext ?_; (repeat (first | exact Ext.rfl' _ | assumption | refine Ext.drewN' ?_ _ | refine Ext.drew' ?_ | refine Ext.alloc' ?_ _ | refine Ext.trans' ?_ (HWF.out _).1 | refine Ext.trans' ?_ (by assumption)))); (case hbytes => simp; omega); (case hbase => exact (show Ext wc _ by (repeat (first | exact Ext.rfl' _ | assumption | refine Ext.drewN' ?_ _ | refine Ext.drew' ?_ | refine Ext.alloc' ?_ _ | refine Ext.trans' ?_ (HWF.out _).1 | refine Ext.trans' ?_ (by assumption)))).size); intro v8 w8 hown8 hg8 hb8; obtain ⟨a8, c8, rfl, -⟩ := hown8.rd (enc_int _); simp only [List.nil_append] at hown8; have h8 : Ext wc w8 := hb8 _ _ (show Ext wc _ by (repeat (first | exact Ext.rfl' _ | assumption | refine Ext.drewN' ?_ _ | refine Ext.drew' ?_ | refine Ext.alloc' ?_ _ | refine Ext.trans' ?_ (HWF.out _).1 | refine Ext.trans' ?_ (by assumption)))) (Nat.le_refl _); have O8 := Lib.hid hown8; have q8 := HS9.out w8 h8; (first | (have K8 := Lib.hid (key_keep hg8 (W0 := wc.drew) (HWF.out wc.drew).2.1 (Ext.alloc' (Ext.rfl' _) _) (Nat.ne_of_gt (HWF.out wc.drew).2.2) (q := wc.heap.size) rfl); have B8 := Lib.hid (key_blk8 (q := wc.heap.size) hg8 hwc (Ext.alloc' (Ext.rfl' _) _) (Nat.le_refl _) (HWF.out wc.drew).2.2)) | (have K8 := Lib.hid (key_keep hg8 (HWF.out _).2.1 (Ext.rfl' _) (by simp) (q := wc.heap.size + 1) (by simp)); have B8 := Lib.hid (key_blk8 (q := wc.heap.size + 1) hg8 hwc (Ext.rfl' _) (Nat.le_succ _) (by have h1 := (HWF.out (wc.alloc (.cells #[] 5)).drew).2.2; simpa using h1))) | skip); clear hown8 hg8 hb8)
            | (have hw6 : Ext w8 w8 := Ext.rfl' _; apply app_step2 el_item enc_it (xs := I) (ys := [⟨some ⟨_, 0, none⟩, _, a8, c8, kk, bs⟩]) (base := w.heap.size); (case hw => rfl); (case ho => rfl); (case hs => rfl); (case hown => refine HO.out.ext ?_; (repeat (first | exact Ext.rfl' _ | assumption | refine Ext.drewN' ?_ _ | refine Ext.drew' ?_ | refine Ext.alloc' ?_ _ | refine Ext.trans' ?_ (HWF.out _).1 | refine Ext.trans' ?_ h8 | refine Ext.trans' ?_ hwc | refine Ext.trans' ?_ hwr))); (case hx => rfl); (case hy => (first | exact item_lit w8 ⟨some ⟨_, 0, none⟩, _, a8, c8, kk, bs⟩ _ (by simp) | exact item_lit (wf w8) ⟨some ⟨_, 0, none⟩, _, a8, c8, kk, bs⟩ _ (by simp))); (case hbytes => simp; omega); (case hbase => exact (show Ext w _ by (repeat (first | exact Ext.rfl' _ | assumption | refine Ext.drewN' ?_ _ | refine Ext.drew' ?_ | refine Ext.alloc' ?_ _ | refine Ext.trans' ?_ (HWF.out _).1 | refine Ext.trans' ?_ h8 | refine Ext.trans' ?_ hwc | refine Ext.trans' ?_ hwr))).size); intro v9 w9 hown9 hg9 hmv9; have O9 := Lib.hid hown9; have G9 := Lib.hid hg9; have M9 := Lib.hid hmv9; have s9 : w9.cell? ⟨Z, 0, none⟩ = some (.string p.1) := (World.cell?_of_block ((grown_keep hg9).block Z (Nat.lt_of_lt_of_le HZC.out (show Ext wc _ by (repeat (first | exact Ext.rfl' _ | assumption | refine Ext.drewN' ?_ _ | refine Ext.drew' ?_ | refine Ext.alloc' ?_ _ | refine Ext.trans' ?_ (HWF.out _).1 | refine Ext.trans' ?_ (by assumption)))).size) HZN.out)).trans (HS9.out _ (by (repeat (first | exact Ext.rfl' _ | assumption | refine Ext.drewN' ?_ _ | refine Ext.drew' ?_ | refine Ext.alloc' ?_ _ | refine Ext.trans' ?_ (HWF.out _).1 | refine Ext.trans' ?_ (by assumption))))); clear hown9 hg9 hmv9)))
        all_goals
          obtain ⟨la9, ln9, lc9, rfl, hln9, hLN9⟩ := (O9.out.rd enc_it).val
          go_wp2_with fail
          go_roundw
          case rel =>
            have hkeep : Keep (Value.slice oa on oc).ownBlock.toList _ _ := grown_keep G9.out
            have hlo : ∀ q ∈ (Value.slice oa on oc).ownBlock.toList, w.heap.size ≤ q := fun q hq => (HO.out.lt (by simpa using hq)).1
            refine ⟨k + 1, I ++ [_], by omega, by go_num, by simp [HIL.out], O9, Lib.hid (items_step (wr := wr) (v := .slice oa on oc) ?_ (fun q hq => (HO.out.lt (by simpa using hq)).2) HSI.out ?_ ?_ ?_ ?_ G9.out ?_), Lib.hid ?_, ⟨_, _, _, rfl⟩, hkeep.below (show Ext w _ by (repeat (first | exact Ext.rfl' _ | assumption | refine Ext.drewN' ?_ _ | refine Ext.drew' ?_ | refine Ext.alloc' ?_ _ | refine Ext.trans' ?_ (HWF.out _).1 | refine Ext.trans' ?_ h8 | refine Ext.trans' ?_ hwc | refine Ext.trans' ?_ hwr))) (show Ext w _ by (repeat (first | exact Ext.rfl' _ | assumption | refine Ext.drewN' ?_ _ | refine Ext.drew' ?_ | refine Ext.alloc' ?_ _ | refine Ext.trans' ?_ (HWF.out _).1 | refine Ext.trans' ?_ h8 | refine Ext.trans' ?_ hwc | refine Ext.trans' ?_ hwr))).size hlo⟩
            · (repeat (first | exact Ext.rfl' _ | assumption | refine Ext.drewN' ?_ _ | refine Ext.drew' ?_ | refine Ext.alloc' ?_ _ | refine Ext.trans' ?_ (HWF.out _).1 | refine Ext.trans' ?_ h8 | refine Ext.trans' ?_ hwc | refine Ext.trans' ?_ hwr))
            · first | exact K8.out.ext (by (repeat (first | exact Ext.rfl' _ | assumption | refine Ext.drewN' ?_ _ | refine Ext.drew' ?_ | refine Ext.alloc' ?_ _ | refine Ext.trans' ?_ (HWF.out _).1 | refine Ext.trans' ?_ h8 | refine Ext.trans' ?_ hwc | refine Ext.trans' ?_ hwr))) | exact HKEY.out _ _ (by (repeat (first | exact Ext.rfl' _ | assumption | refine Ext.drewN' ?_ _ | refine Ext.drew' ?_ | refine Ext.alloc' ?_ _ | refine Ext.trans' ?_ (HWF.out _).1 | refine Ext.trans' ?_ h8 | refine Ext.trans' ?_ hwc | refine Ext.trans' ?_ hwr))) _ (by simp)
            · first | exact blk_of B8.out (by (repeat (first | exact Ext.rfl' _ | assumption | refine Ext.drewN' ?_ _ | refine Ext.drew' ?_ | refine Ext.alloc' ?_ _ | refine Ext.trans' ?_ (HWF.out _).1 | refine Ext.trans' ?_ h8 | refine Ext.trans' ?_ hwc | refine Ext.trans' ?_ hwr))) | exact HKB.out _ _ (by (repeat (first | exact Ext.rfl' _ | assumption | refine Ext.drewN' ?_ _ | refine Ext.drew' ?_ | refine Ext.alloc' ?_ _ | refine Ext.trans' ?_ (HWF.out _).1 | refine Ext.trans' ?_ h8 | refine Ext.trans' ?_ hwc | refine Ext.trans' ?_ hwr))) (by (repeat (first | exact Ext.rfl' _ | assumption | refine Ext.drewN' ?_ _ | refine Ext.drew' ?_ | refine Ext.alloc' ?_ _ | refine Ext.trans' ?_ (HWF.out _).1 | refine Ext.trans' ?_ h8 | refine Ext.trans' ?_ hwc | refine Ext.trans' ?_ hwr))) _ (by simp)
            · exact (O8.out.rd (enc_int _)).ext (by (repeat (first | exact Ext.rfl' _ | assumption | refine Ext.drewN' ?_ _ | refine Ext.drew' ?_ | refine Ext.alloc' ?_ _ | refine Ext.trans' ?_ (HWF.out _).1 | refine Ext.trans' ?_ h8 | refine Ext.trans' ?_ hwc | refine Ext.trans' ?_ hwr)))
            · exact own_blk O8.out hwc.size (by (repeat (first | exact Ext.rfl' _ | assumption | refine Ext.drewN' ?_ _ | refine Ext.drew' ?_ | refine Ext.alloc' ?_ _ | refine Ext.trans' ?_ (HWF.out _).1 | refine Ext.trans' ?_ h8 | refine Ext.trans' ?_ hwc | refine Ext.trans' ?_ hwr)))
            · exact fun q hq => (M9.out q (by simpa using hq)).imp (fun h => by simpa using (show (Value.slice oa on oc).ownBlock = some q from h)) (fun h => by simp at h; omega)
            · rw [List.map_append, HMI.out, HRI.out, List.take_add_one, List.getElem?_map, HPM.out]
              simp only [List.map_cons, List.map_nil, Option.map_some, Option.toList_some, HBS.out]
              rw [← HKK.out, str_numsK]
          case measure => simp [intOf]; omega
end Go.Proofs.Ytjimmbcihcmfoaa
