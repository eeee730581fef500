/- TableKeeps: what its code does. -/
import Derived.Test.YtjimmbcihcmfoaaTStays
import Derived.Test.YtjimmbcihcmfoaaKeL
import Derived.Test.YtjimmbcihcmfoaaZero
namespace Go.Proofs.Ytjimmbcihcmfoaa
open Go.RowKit
set_option linter.unusedVariables false
set_option linter.unusedSimpArgs false

theorem zero_str (W : World) : (zeroValue 9).run Try.prog W = .ok (.string ⟨#[]⟩) W := by kernel_rfl
def KeCut (w : World) (kd mx : Int) (v6 v7 : Value) (wx : World) : Prop :=
  ∃ W1 b tb V, v6 = .pointer (some ⟨tb, 0, none⟩) ∧ v7 = .int .i64 0 ∧ KeInv V [] kd mx 0 ∧ TabIn W1 wx b tb V [] ∧ Ext w W1
structure KeBase (W wr : World) (b tb r : Nat) (g0 : List Nat) (fv : Value) (L' : List Act9) (V : Areas × List TM) : Prop where
  tab : TabIn W wr b tb V (r :: g0)
  acts : Rd wr 5 Act9.enc fv L'
  lt : ∀ g ∈ r :: g0, g < wr.heap.size
  apart : r ∉ g0
  low : W.heap.size ≤ r
  blocks : ∀ a n c, fv = .slice (some a) n c → a.block ∈ g0
theorem KeBase.go {W w w' : World} {b tb r : Nat} {g0 : List Nat} {fv : Value} {L' : List Act9} {V : Areas × List TM} (h : KeBase W w b tb r g0 fv L' V) (k : Ext w w') : KeBase W w' b tb r g0 fv L' V :=
  ⟨h.tab.go k, h.acts.ext k, fun g hg => Nat.lt_of_lt_of_le (h.lt g hg) k.size, h.apart, h.low, h.blocks⟩
theorem TabIn.other {W w w' : World} {b tb r : Nat} {V : Areas × List TM} {G : List Nat} (h : TabIn W w b tb V G) (k : Keep [r] w w') (hr : r ∈ G) (hW : W.heap.size ≤ r) : TabIn W w' b tb V G := by
  obtain ⟨he, base, S, h1, h2, h3, h4⟩ := h
  exact ⟨k.below he he.size (fun j hj => by rw [List.mem_singleton] at hj; omega), base, S, h1.keep k (fun j hj hjr => by rw [List.mem_singleton] at hjr; subst hjr; exact (h4 _ hj).2 hr), h2, h3, h4⟩
/-- Behind what was done to the map. -/
theorem KeBase.map {W w w' : World} {b tb r : Nat} {g0 : List Nat} {fv : Value} {L' : List Act9} {V : Areas × List TM} (h : KeBase W w b tb r g0 fv L' V) (k : Keep [r] w w') : KeBase W w' b tb r g0 fv L' V :=
  ⟨h.tab.other k List.mem_cons_self h.low, h.acts.keep k (fun a n c e hj => by rw [List.mem_singleton] at hj; exact h.apart (hj ▸ h.blocks a n c e)), fun g hg => Nat.lt_of_lt_of_le (h.lt g hg) k.size, h.apart, h.low, h.blocks⟩
/-- Behind what was done to the tables. -/
theorem KeBase.step {W w w' : World} {b tb r : Nat} {g0 : List Nat} {fv : Value} {L' : List Act9} {V V' : Areas × List TM} {G : List Nat} {M : Strs} (h : KeBase W w b tb r g0 fv L' V) (hs : SMap w r M) (hg : ∀ g ∈ r :: g0, g ∈ G) (ht : TabIn W w' b tb V' G) (m : Moves W G w w') : KeBase W w' b tb r g0 fv L' V' ∧ SMap w' r M := by
  obtain ⟨F, h1, h2⟩ := m
  exact ⟨⟨ht.add (Ext.rfl' _) _ (fun g h => .inl (hg g h)), h.acts.moves ⟨F, h1, h2⟩ (fun a n c e => hg _ (List.mem_cons_of_mem _ (h.blocks a n c e))), fun g hg => Nat.lt_of_lt_of_le (h.lt g hg) h2.size, h.apart, h.low, h.blocks⟩, hs.keep h2 (fun hj => (h1 _ hj).2 (hg _ List.mem_cons_self))⟩
structure KeRel (W wr : World) (b tb r : Nat) (g0 : List Nat) (fv : Value) (L' : List Act9) (kd mx : Int) (j : Nat) (V : Areas × List TM) (M : Strs) : Prop where
  inv : KeInv V M kd mx j
  map : SMap wr r M
  base : KeBase W wr b tb r g0 fv L' V
theorem KeRel.go {W w w' : World} {b tb r : Nat} {g0 : List Nat} {fv : Value} {L' : List Act9} {kd mx : Int} {j : Nat} {V : Areas × List TM} {M : Strs} (h : KeRel W w b tb r g0 fv L' kd mx j V M) (k : Ext w w') : KeRel W w' b tb r g0 fv L' kd mx j V M :=
  ⟨h.inv, h.map.ext k, h.base.go k⟩
set_option maxRecDepth 20000 in
set_option maxHeartbeats 16000000 in
theorem tkeeps_any (ha : Bool) (dk dv dm : Int) (v0 : Value) (L : List Act9) (w : World) (hL : Rd w 5 Act9.enc v0 L) (hok : ∀ x ∈ L, ActOk w x) :
    Calls Try.prog 4 #[.agg #[.bool ha, .int .i64 dk, .int .i64 dv, .int .i64 dm], v0] w (LawAns w) := by
  have HL := Lib.hid hL
  have HOK := Lib.hid hok
  clear hL hok
  obtain ⟨uk, huk⟩ : ∃ uk, dk.tmod 16 = uk := ⟨_, rfl⟩
  obtain ⟨um, hum⟩ : ∃ um, dm.tmod 16 = um := ⟨_, rfl⟩
  have k1 : -16 < uk := by rw [← huk]; have := Int.lt_tmod_of_pos dk (show (0 : Int) < 16 by decide); omega
  have k2 : uk < 16 := by rw [← huk]; exact Int.tmod_lt_of_pos dk (by decide)
  have m1 : -16 < um := by rw [← hum]; have := Int.lt_tmod_of_pos dm (show (0 : Int) < 16 by decide); omega
  have m2 : um < 16 := by rw [← hum]; exact Int.tmod_lt_of_pos dm (by decide)
  go_enter Try.func4, Try.ntmps4
  go_wp2_with fail
  refine (tab_shown _).mono ?_
  rintro e w1 ⟨rfl, he1⟩
  have hB := he1.obj (obj_top w (.cells #[.bool ha, .int .i64 dk, .int .i64 dv, .int .i64 dm] 53) rfl)
  have c0 : w1.cell? ⟨w.heap.size, 0, none⟩ = some (.bool ha) := cell_obj hB
  have c1 : w1.cell? ⟨w.heap.size, 1, none⟩ = some (.int .i64 dk) := cell_obj hB
  have c2 : w1.cell? ⟨w.heap.size, 2, none⟩ = some (.int .i64 dv) := cell_obj hB
  have c3 : w1.cell? ⟨w.heap.size, 3, none⟩ = some (.int .i64 dm) := cell_obj hB
  have f0 : ∀ i, w1.frozen? ⟨w.heap.size, i, none⟩ = false := fun i => frozen_obj hB
  have HB := Lib.hid hB
  have HE1 := Lib.hid he1
  clear hB he1
  go_upto_region 3 with fail
  obtain ⟨kd, hkd⟩ : ∃ kd : Nat, 1 + uk % 16 = kd := ⟨(1 + uk % 16).toNat, by omega⟩
  obtain ⟨mx, hmx⟩ : ∃ mx : Nat, 1 + um % 16 = mx := ⟨(1 + um % 16).toNat, by omega⟩
  have HKD : Hid (1 ≤ kd ∧ kd ≤ 16) := Lib.hid (by omega)
  have HMX : Hid (1 ≤ mx ∧ mx ≤ 16) := Lib.hid (by omega)
  rw [hkd, hmx]
  have hD := heap_setCell_same _ _ 3 _ _ (.int .i64 mx) (heap_setCell_same _ _ 2 _ _ (.int .i64 8) (heap_setCell_same _ _ 1 _ _ (.int .i64 kd) (heap_setCell_same _ _ 0 _ _ (.bool true) HB.out)))
  have hE2 := (((((Ext.rfl' w).alloc' _).trans' HE1.out).setCell (p := ⟨w.heap.size, 0, none⟩) (Nat.le_refl _) (.bool true)).setCell (p := ⟨w.heap.size, 1, none⟩) (Nat.le_refl _) (.int .i64 kd)).setCell (p := ⟨w.heap.size, 2, none⟩) (Nat.le_refl _) (.int .i64 8) |>.setCell (p := ⟨w.heap.size, 3, none⟩) (Nat.le_refl _) (.int .i64 mx)
  generalize (((w1.setCell ⟨w.heap.size, 0, none⟩ (.bool true)).setCell ⟨w.heap.size, 1, none⟩ (.int .i64 kd)).setCell ⟨w.heap.size, 2, none⟩ (.int .i64 8)).setCell ⟨w.heap.size, 3, none⟩ (.int .i64 mx) = w2 at *
  have hq : Hid (∀ w', Ext w2 w' → w'.cell? ⟨w.heap.size, 0, none⟩ = some (.bool true) ∧ w'.cell? ⟨w.heap.size, 1, none⟩ = some (.int .i64 kd) ∧ w'.cell? ⟨w.heap.size, 2, none⟩ = some (.int .i64 8) ∧ w'.cell? ⟨w.heap.size, 3, none⟩ = some (.int .i64 mx)) := Lib.hid fun w' k =>
    ⟨cell_obj (k.obj hD), cell_obj (k.obj hD), cell_obj (k.obj hD), cell_obj (k.obj hD)⟩
  have HE2 := Lib.hid hE2
  have HLL := Lib.hid (HL.out.ext hE2)
  clear hD hE2 huk hum k1 k2 m1 m2 c0 c1 c2 c3 f0 hkd hmx HB HE1
  generalize hBB : w.heap.size = B at *
  have HE0 : Hid (Ext w w2) := Lib.hid (by show Below w.heap.size w w2; rw [hBB]; exact HE2.out)
  clear hBB HE2
  go_cut [6, 7] (fun v6 v7 wx => KeCut w2 kd mx v6 v7 wx)
  case first =>
    as_aux_lemma =>
    obtain ⟨V, hV, hinv⟩ := ke_new kd mx (by have := HKD.out; omega) (by have := HMX.out; omega)
    have HTN := Lib.hid hV
    have HI := Lib.hid hinv
    clear hV hinv
    obtain ⟨p0, p1, p2, p3⟩ := hq.out _ (Ext.rfl' _)
    go_region_with ((first
      | (go_at_call 9; (with_reducible refine (in_new0 _).mono ?_); rintro e w3 ⟨b, rfl, h3⟩; have he3 : Ext w2 w3 := Ext.trans' (by (repeat (first | exact Ext.rfl' _ | assumption | refine Ext.drewN' ?_ _ | refine Ext.drew' ?_ | refine Ext.alloc' ?_ _ | refine Ext.trans' ?_ (by assumption)))) h3.ext; obtain ⟨p0', p1', p2', p3'⟩ := hq.out _ he3; have H3 := Lib.hid h3; have HE3 := Lib.hid he3; clear h3 he3)
      | (go_at_call 10; (first | (with_reducible refine (new_lit1 H3.out true kd 8 mx HTN.out).mono ?_) | (with_reducible refine (new_lit2 true kd 8 mx H3.out HTN.out).mono ?_)); rintro e w4 ⟨tb, rfl, h4⟩; have H4 := Lib.hid h4; clear h4)))
    all_goals
      go_wp2_with fail
      go_meet
      exact ⟨_, _, _, _, rfl, rfl, HI.out, H4.out, by (repeat (first | exact Ext.rfl' _ | assumption | refine Ext.drewN' ?_ _ | refine Ext.drew' ?_ | refine Ext.alloc' ?_ _ | refine Ext.trans' ?_ (by assumption)))⟩
  case rest =>
    obtain ⟨W1, b, tb, V, rfl, rfl, hinv, hT, hW1⟩ := hcut
    have HI := Lib.hid hinv
    have HT := Lib.hid hT
    have HW1 := Lib.hid hW1
    have hEc : Ext w2 wc := hW1.trans' hT.ext
    have HEC := Lib.hid hEc
    clear hinv hT hW1 hEc
    have hmm := @run_makeMap Try.prog
    go_wp2_with fail
    clear hmm
    refine (few_any2 _ L _ (HLL.out.ext (HEC.out.alloc' _))).mono ?_
    rintro e w5 ⟨fv, L', rfl, hown, hmem, he5, h150⟩
    obtain ⟨hom, hol⟩ := own_mem hown
    have hsz := HT.out.ext.size
    have hrel : KeRel W1 w5 b tb wc.heap.size fv.ownBlock.toList fv L' kd mx 0 V [] := ⟨HI.out, (smap_new (obj_top wc (.map #[] 0) rfl)).ext he5, ⟨(HT.out.add ((Ext.rfl' wc).alloc' (.map #[] 0)) [wc.heap.size] (fun g hg => by rw [List.mem_singleton] at hg; omega)).add he5 _ (fun g hg => by
      rcases List.mem_cons.1 hg with rfl | hg
      · exact .inl List.mem_cons_self
      · exact .inr (hown.lt (Option.mem_toList.1 hg)).1), hown.rd enc_act, fun g hg => by
      rcases List.mem_cons.1 hg with rfl | hg
      · have := he5.size; simp at this; omega
      · exact hol g hg, fun hg => by have := (hown.lt (Option.mem_toList.1 hg)).1; simp at this; omega, hsz, hom⟩⟩
    have hrW : W1.heap.size ≤ wc.heap.size := hsz
    obtain ⟨fa, fn, fc, hfv, hfn, HFN⟩ := (hown.rd enc_act).val
    have HREL := Lib.hid hrel
    have HOM := Lib.hid hom
    have HMEM := Lib.hid hmem
    have H150 : Hid (fn ≤ 150) := Lib.hid (by have := HFN.out; omega)
    generalize fv.ownBlock.toList = g0 at *
    generalize wc.heap.size = r at *
    subst hfv
    clear hrel hom hol hmem hown he5 HI HT HLL HEC hsz
    go_wp2_with fail
    go_loopw [61] (fun i wr => ∃ (j : Nat) (V : Areas × List TM) (M : Strs), j ≤ fn ∧ i = .int .i64 j ∧ Hid (KeRel W1 wr b tb r g0 (.slice fa fn fc) L' kd mx j V M)) (fun i _ => fn - (intOf i).toNat)
    case atStart => exact ⟨0, _, _, Nat.zero_le _, rfl, HREL⟩
    case round =>
      obtain ⟨j, V, M, hj, rfl, HS⟩ := hrel
      by_cases hlt : (j : Int) < fn
      · obtain ⟨x, hx⟩ := at_of_lt (xs := L') (k := j) (by have := HFN.out; omega)
        have ix := fun W => HS.out.base.acts.run_at (P := Try.prog) el_act.under el_act.size .i64 (j : Int) (by omega) (by omega) W
        simp only [Int.toNat_natCast] at ix
        obtain ⟨c0, c1, c2, c3, c4⟩ := act_cells HS.out.base.acts hx
        rw [Act9.kv] at c2
        rw [Act9.vv] at c3
        obtain ⟨hxm, hx80, hv80⟩ := HMEM.out x (List.mem_of_getElem? hx)
        obtain ⟨hk0, hfl, ⟨ks, hks, hku⟩, ⟨vs, hvs, hvu⟩⟩ := HOK.out x hxm
        rw [Act9.kv] at hks
        rw [Act9.vv] at hvs
        have hkl : ks.length ≤ 80 := by have := hks.num; omega
        have hvl : vs.length ≤ 80 := by have := hvs.num; omega
        have hWr : Ext w wr := (HE0.out.trans' HW1.out).trans' HS.out.base.tab.ext
        have HWR := Lib.hid hWr
        have HKS := Lib.hid (hks.ext hWr)
        have HVS := Lib.hid (hvs.ext hWr)
        have HX := Lib.hid hx
        have ek : (x.kind.tmod 5) = x.kind % 5 := Int.tmod_eq_emod_of_nonneg hk0.1
        have ef : (x.flags.tmod 3) = x.flags % 3 := Int.tmod_eq_emod_of_nonneg hfl.1
        obtain ⟨-, q1, -, -⟩ := hq.out _ (HW1.out.trans' HS.out.base.tab.ext)
        clear hx hxm hks hvs hWr
        go_upto_region 10 with fail
        generalize hX : wr.heap.size = X at *
        have hcut1 : ∀ W, Ext (wr.alloc (actObj x)) W → W.cell? ⟨X, 2, none⟩ = some (.slice x.ka x.kn x.kc) ∧ W.cell? ⟨B, 1, none⟩ = some (.int .i64 kd) := fun W hW => by
          subst hX
          exact ⟨(act_obj_cells' hW).2.2.1, hW.cellOf (((Ext.rfl' wr).alloc' _).cellOf q1)⟩
        have HC1 := Lib.hid hcut1
        have HXX := Lib.hid hX
        clear hcut1 hX
        go_cut [11] (fun v11 wx => v11 = .string (strOfNums ((ks ++ List.replicate 16 0).take kd)) ∧ Ext (wr.alloc (actObj x)) wx)
        case first =>
          as_aux_lemma =>
          obtain ⟨p1, p2⟩ := HC1.out _ (Ext.rfl' _)
          clear ix c0 c1 c2 c3 c4 q1 ek ef hlt
          have p1' : ∀ o, ((wr.alloc (.cells #[.int .u8 x.kind, .int .i64 x.map, .slice x.ka x.kn x.kc, .slice x.va x.vn x.vc, .int .u64 x.flags] 43)).alloc o).cell? ⟨X, 2, none⟩ = some (.slice x.ka x.kn x.kc) := fun o => (HC1.out _ ((Ext.rfl' _).alloc' o)).1
          have p2' : ∀ o, ((wr.alloc (.cells #[.int .u8 x.kind, .int .i64 x.map, .slice x.ka x.kn x.kc, .slice x.va x.vn x.vc, .int .u64 x.flags] 43)).alloc o).cell? ⟨B, 1, none⟩ = some (.int .i64 kd) := fun o => (HC1.out _ ((Ext.rfl' _).alloc' o)).2
          go_region_law
            (first
              | (apply app_step el_u8 (enc_int .u8) (xs := []) (ys := ks) (base := X + 1); (case hw => rfl); (case ho => rfl); (case hs => rfl); (case hown => exact Own.drew (Own.made (wr.alloc (actObj x)) (X + 1) _ _ _ (by simp [HXX.out]) (by simp [HXX.out]))); (case hx => rfl); (case hy => exact HKS.out.ext (by (repeat (first | exact Ext.rfl' _ | assumption | refine Ext.drewN' ?_ _ | refine Ext.drew' ?_ | refine Ext.alloc' ?_ _ | refine Ext.trans' ?_ (by assumption))))); (case hbytes => simp; omega); (case hbase => simp [HXX.out]); intro v5 w5 hown5 hgrow5 hbel5; have h5 : Ext (wr.alloc (actObj x)) w5 := hbel5 _ _ (show Ext (wr.alloc (actObj x)) _ by (repeat (first | exact Ext.rfl' _ | assumption | refine Ext.drewN' ?_ _ | refine Ext.drew' ?_ | refine Ext.alloc' ?_ _ | refine Ext.trans' ?_ (by assumption)))) (by simp [HXX.out]); obtain ⟨s5, t5⟩ := HC1.out _ h5; have H5 := Lib.hid h5; have O5 := Lib.hid hown5; clear h5 hown5 hgrow5 hbel5)
              | (apply zero_step el_u8 rfl rfl 0 rfl Try.underlying3 (xs := ks) (k := 16) (base := X + 1); (case hw => rfl); (case ho => rfl); (case hs => rfl); (case hown => exact O5.out); (case hx => rfl); (case h0 => decide); (case hb => simp; omega); (case hkb => decide); (case hbase => have := H5.out.size; simp [HXX.out] at this; omega); intro v6 w6 hown6 hbel6; have h6 : Ext (wr.alloc (actObj x)) w6 := hbel6 _ _ H5.out (by simp [HXX.out]); obtain ⟨s6, t6⟩ := HC1.out _ h6; have hr6 := hown6.rd (enc_int .u8); obtain ⟨va, vn, vc, rfl, hvn, HVN⟩ := hr6.val; have ct := fun W => hr6.run_cut_h (P := Try.prog) el_u8.under el_u8.size .i64 (kd : Int) (by omega) (by have h1 := HVN.out; have h2 := HKD.out; simp at h1; omega) W; have rc := hr6.cut (l := 0) (m := kd) (Nat.zero_le _) (by have h2 := HKD.out; simp; omega); obtain ⟨a2, n2, c2, hcv, hn2, HN2⟩ := rc.val; simp only [Int.toNat_natCast] at ct; rw [hcv] at ct rc; have st := rc.run_str (P := Try.prog) Try.underlying40 Try.underlying5 Try.underlying9; have H6 := Lib.hid h6; clear h6 hown6 hbel6 hr6 rc hcv))
          all_goals
            go_wp2_with fail
            go_meet
            exact ⟨by first | rfl | simp, H6.out⟩
        case rest =>
          obtain ⟨rfl, hx1⟩ := hcut
          have hz1 := (HC1.out _ hx1)
          obtain ⟨b0, b1, b2, b3, b4⟩ := act_obj_cells' hx1
          have hX : wr.heap.size = X := HXX.out
          rw [hX] at b0 b1 b2 b3 b4
          have HX1 := Lib.hid hx1
          have HKK : Hid ((strOfNums ((ks ++ List.replicate 16 0).take kd)).size = kd) := Lib.hid (by rw [strOf_size]; simp; have := HKD.out; omega)
          generalize strOfNums ((ks ++ List.replicate 16 0).take kd) = K at *
          have hsz1 : X + 1 ≤ wc.heap.size := by have := hx1.size; simp [hX] at this; omega
          clear hX hx1 q1 ix c0 c1 c2 c3 c4
          generalize wc = w8 at *
          have b3' : ∀ o, (w8.alloc o).cell? ⟨X, 3, none⟩ = some (.slice x.va x.vn x.vc) := fun o => ((Ext.rfl' w8).alloc' o).cellOf b3
          go_wp2_with (at_builtin; refine app_own el_u8 (enc_int .u8) rfl _ _ rfl rfl (Own.made w8 w8.heap.size 5 1 (fun x => [Value.int .u8 x]) (b := w8.heap.size) rfl (Nat.le_refl _)) rfl (ys := vs) ?q2 ?q3 ?q4 ?q5)
          case q2 => exact HVS.out.ext (((Ext.rfl' wr).alloc' _).trans' (HX1.out.alloc' _))
          case q3 => simp; omega
          case q4 => simp
          intro v9 w9 hown9 hg9 hb9
          have hE9 : Ext w8 w9 := hb9 _ _ (by (repeat (first | exact Ext.rfl' _ | assumption | refine Ext.drewN' ?_ _ | refine Ext.drew' ?_ | refine Ext.alloc' ?_ _ | refine Ext.trans' ?_ (by assumption)))) (Nat.le_refl _)
          have HO9 := Lib.hid hown9
          clear hown9 hg9 hb9
          go_wp2_with (at_builtin; refine zero_own el_u8 rfl rfl 0 rfl Try.underlying3 rfl _ _ rfl rfl HO9.out rfl ?p1 ?p2 ?p3 ?p4 ?p5)
          case p2 => first | omega | (simp; omega)
          case p4 => exact hE9.size
          intro v10 w10 hown10 hb10
          have hE10 : Ext w8 w10 := hb10 _ _ hE9 (Nat.le_refl _)
          have hr10 := hown10.rd (enc_int .u8)
          obtain ⟨va, vn, vc, rfl, hvn, HVN⟩ := hr10.val
          have ct := fun W => hr10.run_cut_h (P := Try.prog) el_u8.under el_u8.size .i64 8 (by decide) (by have h1 := HVN.out; simp at h1; omega) W
          have rc := hr10.cut (l := 0) (m := 8) (Nat.zero_le _) (by simp)
          obtain ⟨a2, n2, c2', hcv, hn2, HN2⟩ := rc.val
          simp only [show (8 : Int).toNat = 8 from rfl] at ct
          rw [hcv] at ct rc
          obtain ⟨vv, rc2, hvv8⟩ : ∃ vv, Rd w10 1 (fun x => [Value.int .u8 x]) (.slice a2 n2 c2') vv ∧ vv.length = 8 := ⟨_, rc, by simp⟩
          have st := rc2.run_str (P := Try.prog) Try.underlying40 Try.underlying5 Try.underlying9
          have HVV : Hid ((strOfNums vv).size = 8) := Lib.hid (by rw [strOf_size]; exact hvv8)
          clear rc rc2 hvv8
          generalize strOfNums vv = VV at *
          have HE10 := Lib.hid hE10
          have HS10 := Lib.hid (HS.out.go (((Ext.rfl' wr).alloc' _).trans' (HX1.out.trans' hE10)))
          have hS10 := (HS10.out.map)
          have lk := (run_lookup_str (P := Try.prog) Try.underlying54 Try.underlying9 zero_str hS10 K).2
          have gk0 := hE10.cellOf b0
          have gk4 := hE10.cellOf b4
          clear hown10 hb10 hr10 hcv hE10 hE9 hS10 b0 b1 b2 b3 b4
          have hnd := HS10.out.map.nodup
          have HND := Lib.hid hnd
          clear hnd
          obtain ⟨cb, w11, hcb, he11, hs11, hlt11⟩ := run_bytes_own K (by have := HKK.out; have := HKD.out; omega) w10
          have HS11 := Lib.hid (HS10.out.go he11)
          have HKB := Lib.hid hs11
          by_cases hd2 : x.kind % 5 = 2
          · as_aux_lemma =>
            have d1 : (x.kind % 5 == 2) = true := by simpa using hd2
            obtain ⟨⟨rr, e1, e2⟩, hinv⟩ := ke_drop HS11.out.inv HND.out K (by have := HKK.out; omega)
            obtain ⟨hb, hhb⟩ : ∃ hb, (M.lookup K).isSome = hb := ⟨_, rfl⟩
            rw [hhb] at e2 lk
            have HE1' := Lib.hid e1
            have HI' := Lib.hid hinv
            clear hd2 e1 hinv hhb he11 hs11 hlt11
            go_wp2_with fail
            refine (int_drop HS11.out.base.tab 0 _ (numsK K) HKB.out).mono ?_
            rintro e w12 ⟨rfl, h12, m12⟩
            rw [HE1'.out]
            obtain ⟨hbase, hmap⟩ := HS11.out.base.step HS11.out.map (fun g h => h) h12 m12
            have HBS := Lib.hid hbase
            have HMP := Lib.hid hmap
            clear h12 m12 hbase hmap hcb
            obtain ⟨w13, hrun, hs13, hk13⟩ := run_delete_str (P := Try.prog) Try.underlying54 Try.underlying9 HMP.out K 0
            have HN := Lib.hid (KeRel.mk HI'.out hs13 (HBS.out.map hk13))
            clear hs13 hk13
            rcases Bool.eq_false_or_eq_true hb with rfl | rfl
            all_goals
              go_wp2_with fail
              go_roundw
              case rel => exact ⟨j + 1, _, _, by omega, by go_num, HN⟩
              case measure => simp [intOf]; omega
          · have d1 : (x.kind % 5 == 2) = false := by simpa using hd2
            by_cases hd3 : x.kind % 5 = 3 ∨ x.kind % 5 = 4
            · as_aux_lemma =>
              obtain ⟨rr, e1, e2⟩ := ke_look HS11.out.inv HND.out K (by have := HKK.out; omega)
              obtain ⟨hb, hhb⟩ : ∃ hb, (M.lookup K).isSome = hb := ⟨_, rfl⟩
              rw [hhb] at e2 lk
              have e3 : (rr != 0) = hb := by rw [bne, e2, Bool.not_not]
              have HE1' := Lib.hid e1
              have HN0 : Hid (KeInv V M kd mx (j + 1)) := Lib.hid ⟨HS11.out.inv.wf, (by obtain ⟨t, t1, t2, t3, t4, t5, t6⟩ := HS11.out.inv.one; exact ⟨t, t1, t2, t3, t4, t5, by omega⟩), HS11.out.inv.vals⟩
              clear hd2 e1 hhb he11 hs11 hlt11
              have dd : ((x.kind % 5 == 3) = true) ∨ ((x.kind % 5 == 3) = false ∧ (x.kind % 5 == 4) = true) := by
                rcases hd3 with h | h
                · left; simpa using h
                · right; simp [h]
              clear hd3
              rcases dd with d2 | ⟨d2, d3⟩
              all_goals
                go_wp2_with fail
                refine (int_look HS11.out.base.tab 0 _ (numsK K) HKB.out).mono ?_
                rintro e w12 ⟨rfl, h12, he12⟩
                rw [HE1'.out]
                have HN := Lib.hid (KeRel.mk HN0.out (HS11.out.map.ext he12) (HS11.out.base.go he12))
                clear h12 he12 hcb
                rcases Bool.eq_false_or_eq_true hb with rfl | rfl
                all_goals
                  go_wp2_with fail
                  go_roundw
                  case rel => exact ⟨j + 1, _, _, by omega, by go_num, HN⟩
                  case measure => simp [intOf]; omega
            · as_aux_lemma =>
              have d2 : (x.kind % 5 == 3) = false := by have : x.kind % 5 ≠ 3 := fun h => hd3 (.inl h); simpa using this
              have d3 : (x.kind % 5 == 4) = false := by have : x.kind % 5 ≠ 4 := fun h => hd3 (.inr h); simpa using this
              have hf0 : 0 ≤ x.flags % 3 := by omega
              have hf2 : x.flags % 3 ≤ 2 := by omega
              have HFm : Hid (x.flags % 3 ≤ 18446744073709551615) := Lib.hid (by omega)
              obtain ⟨cv, w12, hcv, he12, hs12, hlt12⟩ := run_bytes_own VV (by have := HVV.out; omega) w11
              obtain ⟨⟨rr, e1, e2⟩, hinv⟩ := ke_put HS11.out.inv HND.out (by have := H150.out; omega) K VV (by have := HKK.out; omega) HVV.out (x.flags % 3) hf0 hf2
              have HE1' := Lib.hid e1
              have HI' := Lib.hid hinv
              have HS12 := Lib.hid (HS11.out.go he12)
              have HKB12 := Lib.hid (HKB.out.ext he12)
              have gk5 := he11.cellOf gk4
              have gk6 := he12.cellOf gk5
              have hEr : Ext (wr.alloc (actObj x)) w11 := HX1.out.trans' (HE10.out.trans' he11)
              have hEs := hEr.size
              rw [World.size_alloc, HXX.out] at hEs
              have HADD := Lib.hid (HS.out.base.tab.add (((Ext.rfl' wr).alloc' _).trans' (hEr.trans' he12)) (w11.heap.size :: X :: r :: g0) (fun g hg => by
                rcases List.mem_cons.1 hg with rfl | hg
                · exact .inr (by rw [HXX.out]; omega)
                rcases List.mem_cons.1 hg with rfl | hg
                · exact .inr (by rw [HXX.out]; exact Nat.le_refl _)
                · exact .inl hg))
              have hX12 : X < w12.heap.size := by omega
              have HGL : Hid (∀ g ∈ w11.heap.size :: X :: r :: g0, g < w12.heap.size) := Lib.hid fun g hg => by
                rcases List.mem_cons.1 hg with rfl | hg
                · exact hlt12
                rcases List.mem_cons.1 hg with rfl | hg
                · exact hX12
                · exact HS12.out.base.lt g hg
              have HST : Hid (Firm W1 (w11.heap.size :: X :: r :: g0) w12 fun w' => Sl w' .u8 (.slice (some ⟨w11.heap.size, 0, none⟩) VV.size cv) (numsK VV)) := Lib.hid (Firm.of_in hs12 List.mem_cons_self)
              obtain ⟨lt, hlt'⟩ : ∃ lt, decide ((M.length : Int) < mx) = lt := ⟨_, rfl⟩
              obtain ⟨hb, hhb⟩ : ∃ hb, (M.lookup K).isSome = hb := ⟨_, rfl⟩
              obtain ⟨fl, hflq⟩ : ∃ fl, x.flags % 3 = fl := ⟨_, rfl⟩
              rw [hhb] at lk e2 HI'
              rw [hlt'] at e2 HI'
              rw [hflq] at ef hf0 hf2 HFm e2 HE1' HI'
              have HLT := Lib.hid hlt'
              clear hd2 hd3 e1 hinv hhb hflq he11 hs11 hlt11 he12 hs12 hlt12 hlt' gk5 hEr hEs
              go_wp2_with fail
              refine (int_put HADD.out HGL.out 0 _ _ (numsK K) (numsK VV) fl HKB12.out (numsK_rng VV) hf0 HFm HST).mono ?_
              rintro e w13 ⟨rfl, h13, m13⟩
              rw [HE1'.out]
              obtain ⟨hbase, hmap⟩ := HS12.out.base.step HS12.out.map (fun g h => List.mem_cons_of_mem _ (List.mem_cons_of_mem _ h)) h13 m13
              have gk7 : w13.cell? ⟨X, 4, none⟩ = some (.int .u64 x.flags) := by
                obtain ⟨F, hF1, hF2⟩ := m13
                exact (World.cell?_of_block (hF2.block X hX12 (fun h => (hF1 _ h).2 (by simp)))).trans gk6
              obtain ⟨-, -, -, q13⟩ := hq.out _ (HW1.out.trans' hbase.tab.ext)
              have hlen := fun ty => run_len_map (P := Try.prog) (ty := ty) Try.underlying54 hmap
              have HBS := Lib.hid hbase
              have HMP := Lib.hid hmap
              have hl1 : decide ((M.length : Int) < (mx : Int)) = lt := HLT.out
              have hl2 : decide (M.length < mx) = lt := by rw [← HLT.out]; simp
              clear h13 m13 hbase hmap gk6 hcb hcv
              go_upto_region 15 with fail
              go_cut [21] (fun v21 wx => v21 = .bool (mayB fl hb lt) ∧ wx = w13)
              case first =>
                as_aux_lemma =>
                have hfl3 : fl = 0 ∨ fl = 1 ∨ fl = 2 := by omega
                rcases hfl3 with rfl | rfl | rfl <;> rcases Bool.eq_false_or_eq_true hb with rfl | rfl <;> rcases Bool.eq_false_or_eq_true lt with rfl | rfl
                all_goals
                  go_wp2_with fail
                  go_meet
                  exact ⟨rfl, rfl⟩
              case rest =>
                obtain ⟨rfl, rfl⟩ := hcut
                clear hl1 hl2 hlen
                generalize mayB fl hb lt = mb at *
                rcases Bool.eq_false_or_eq_true mb with rfl | rfl
                · obtain ⟨w14, hrun, hs14, hk14⟩ := run_update_str (P := Try.prog) Try.underlying54 Try.underlying9 HMP.out K (.string VV)
                  have hi := HI'.out
                  rw [if_pos rfl] at hi
                  have HN := Lib.hid (KeRel.mk hi hs14 (HBS.out.map hk14))
                  clear hs14 hk14 hi
                  go_wp2_with fail
                  go_roundw
                  case rel => exact ⟨j + 1, _, _, by omega, by go_num, HN⟩
                  case measure => simp [intOf]; omega
                · have hi := HI'.out
                  rw [if_neg (by simp)] at hi
                  have HN := Lib.hid (KeRel.mk hi HMP.out HBS.out)
                  clear hi
                  go_wp2_with fail
                  go_roundw
                  case rel => exact ⟨j + 1, _, _, by omega, by go_num, HN⟩
                  case measure => simp [intOf]; omega
      · as_aux_lemma =>
        obtain ⟨i1, i2, i3⟩ := ke_items HS.out.inv HS.out.map.nodup
        have HSM := Lib.hid HS.out.inv.wf.small
        have HI1 := Lib.hid i1
        have HI2 := Lib.hid i2
        have HI3 := Lib.hid i3
        clear i1 i2 i3
        go_wp2_with fail
        refine (int_items HS.out.base.tab 0 HSM).mono ?_
        rintro e w6 ⟨iv, rfl, hit, he6⟩
        generalize titems V 0 = T at *
        obtain ⟨I, hI, hrows, hmap⟩ := hit
        have hIl : I.length = T.length := by have := congrArg List.length hmap; simpa using this
        obtain ⟨ia, inn, ic, rfl, hin, hIN⟩ := hI.val
        have HI := Lib.hid hI
        have HR := Lib.hid hrows
        have HMP := Lib.hid hmap
        have HIL := Lib.hid hIl
        have HE := Lib.hid ((HE0.out.trans' HW1.out).trans' (HS.out.base.tab.ext.trans' he6))
        have HM6 := Lib.hid (HS.out.map.ext he6)
        clear hI hrows hmap hIl he6
        go_wp2_with fail
        go_loopw [196] (fun i wr => ∃ (j : Nat), j ≤ inn ∧ i = .int .i64 j ∧ Ext w6 wr) (fun i _ => inn - (intOf i).toNat)
        case atStart => exact ⟨0, Nat.zero_le _, rfl, Ext.rfl' _⟩
        case round =>
          obtain ⟨j, hj, rfl, hwr⟩ := hrel
          by_cases hlt : (j : Int) < inn
          · obtain ⟨x, hx⟩ := at_of_lt (xs := I) (k := j) (by have := hIN.out; omega)
            have ix := fun W => HI.out.run_at (P := Try.prog) el_item.under el_item.size .i64 (j : Int) (by omega) (by omega) W
            obtain ⟨c0, c1⟩ := item_cells (HI.out.ext hwr) hx
            simp only [Int.toNat_natCast] at ix
            obtain ⟨xk, xv⟩ := HR.out x (List.mem_of_getElem? hx)
            have hxm : T[j]? = some (strOfNums x.key, x.val) := by
              have h1 := congrArg (fun l => l[j]?) HMP.out
              simp only [List.getElem?_map, hx, Option.map_some] at h1
              exact h1.symm
            rw [IT.kv] at c0 xk
            rw [IT.vv] at c1 xv
            obtain ⟨kn, hkn⟩ : ∃ kn, x.key.length = kn := ⟨_, rfl⟩
            obtain ⟨vn, hvn⟩ : ∃ vn, x.val.length = vn := ⟨_, rfl⟩
            rw [hkn] at c0 xk
            rw [hvn] at c1 xv
            have HXM := Lib.hid hxm
            have hitm : Ext w6 (wr.alloc (.cells #[.slice x.ka kn x.kc, .slice x.va vn x.vc] 60)) := hwr.alloc' _
            have HITM := Lib.hid hitm
            have s1 := (xk.ext hitm).run_str (P := Try.prog) Try.underlying40 Try.underlying5 Try.underlying9
            have s1n := fun n => ((xk.ext hitm).ext ((Ext.rfl' _).drewN' n)).run_str (P := Try.prog) Try.underlying40 Try.underlying5 Try.underlying9
            have s2n := fun n => ((xv.ext hitm).ext ((Ext.rfl' _).drewN' n)).run_str (P := Try.prog) Try.underlying40 Try.underlying5 Try.underlying9
            have lk := (run_lookup_str (P := Try.prog) Try.underlying54 Try.underlying9 zero_str (HM6.out.ext hitm) (strOfNums x.key)).2
            rw [show M.lookup (strOfNums x.key) = some (.string (strOfNums x.val)) from HI2.out _ (List.mem_of_getElem? hxm)] at lk
            simp only [Option.getD_some, Option.isSome_some] at lk
            clear hx hxm hkn hvn xk xv hitm
            by_cases hj0 : j = 0
            · subst hj0
              simp only [show ((0 : Nat) : Int) = 0 from rfl, Nat.zero_mul] at ix c0 c1
              clear HXM
              generalize strOfNums x.key = sx at *
              generalize strOfNums x.val = sv at *
              go_wp2_with fail
              go_quiet (fail)
              go_wp2_with fail
              go_roundw
              case rel => exact ⟨1, by omega, rfl, HITM.out.drewN' _⟩
              case measure => simp [intOf]; omega
            · obtain ⟨y, hy⟩ := at_of_lt (xs := I) (k := j - 1) (by have := hIN.out; omega)
              have iy := fun W => HI.out.run_at (P := Try.prog) el_item.under el_item.size .i64 ((j : Int) - 1) (by omega) (by omega) W
              obtain ⟨d0, d1⟩ := item_cells (HI.out.ext HITM.out) hy
              simp only [show ((j : Int) - 1).toNat = j - 1 from by omega] at iy
              obtain ⟨yk, -⟩ := HR.out y (List.mem_of_getElem? hy)
              have hym : T[j - 1]? = some (strOfNums y.key, y.val) := by
                have h1 := congrArg (fun l => l[j - 1]?) HMP.out
                simp only [List.getElem?_map, hy, Option.map_some] at h1
                exact h1.symm
              have hless := HI3.out (j - 1) _ _ hym (by rw [show j - 1 + 1 = j from by omega]; exact HXM.out)
              simp only at hless
              rw [IT.kv] at d0 yk
              obtain ⟨yn, hyn⟩ : ∃ yn, y.key.length = yn := ⟨_, rfl⟩
              rw [hyn] at d0 yk
              have s3n := fun n => ((yk.ext HITM.out).ext ((Ext.rfl' _).drewN' n)).run_str (P := Try.prog) Try.underlying40 Try.underlying5 Try.underlying9
              have hgt : decide ((0 : Int) < j) = true := by simp; omega
              have hjp : 0 < j := by omega
              clear hy hym hyn yk d1 HXM hj0
              have wj : IntKind.i64.wrap ((j : Int) - 1) = (j : Int) - 1 := IntWalk.i64_in _ (by omega)
              generalize strOfNums x.key = sx at *
              generalize strOfNums x.val = sv at *
              generalize strOfNums y.key = sy at *
              go_wp2_with fail
              go_quiet (fail)
              clear wj
              go_wp2_with fail
              go_roundw
              case rel => exact ⟨j + 1, by omega, by go_num, HITM.out.drewN' _⟩
              case measure => simp [intOf]; omega
          · have hle : (inn : Int) = (M.length : Int) := by have := hIN.out; have := HIL.out; have := HI1.out; omega
            have hlen := fun ty => run_len_map (P := Try.prog) (ty := ty) Try.underlying54 (HM6.out.ext hwr)
            rw [← hle] at hlen
            clear hle
            go_wp2_with fail
            go_returns
            exact ⟨rfl, HE.out.trans' hwr⟩
end Go.Proofs.Ytjimmbcihcmfoaa
