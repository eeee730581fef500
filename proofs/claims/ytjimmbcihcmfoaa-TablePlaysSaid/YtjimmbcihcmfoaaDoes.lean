/- TablePlays: an act on both. -/
import Derived.Test.YtjimmbcihcmfoaaRTwo
import Derived.Test.YtjimmbcihcmfoaaTabK
namespace Go.Proofs.Ytjimmbcihcmfoaa
open Go.RowKit
set_option linter.unusedVariables false
set_option linter.unusedSimpArgs false

/-- Both are alike. -/
def Alike (F0 : List Nat) (wf w : World) (mb t1 rb t2 : Nat) : Prop := ∃ V V', TwoR F0 wf w mb t1 rb t2 V V' ∧ VRel V V'
def DoesA (F0 : List Nat) (wf : World) (mb t1 rb t2 : Nat) (e : Ending) (w' : World) : Prop := e = .returned (.bool true) ∧ Alike F0 wf w' mb t1 rb t2
@[reducible] def boxAct (x : Act9) : Obj := .cells #[.int .u8 x.kind, .int .i64 x.map, .slice x.ka x.kn x.kc, .slice x.va x.vn x.vc, .int .u64 x.flags] 43
theorem box_cells {F : List Nat} {w w' : World} {x : Act9} (k : Keep F (w.alloc (boxAct x)) w') (hF : ∀ j ∈ F, j < w.heap.size) :
    w'.cell? ⟨w.heap.size, 0, none⟩ = some (.int .u8 x.kind) ∧ w'.cell? ⟨w.heap.size, 1, none⟩ = some (.int .i64 x.map) ∧ w'.cell? ⟨w.heap.size, 2, none⟩ = some (.slice x.ka x.kn x.kc) ∧ w'.cell? ⟨w.heap.size, 3, none⟩ = some (.slice x.va x.vn x.vc) ∧ w'.cell? ⟨w.heap.size, 4, none⟩ = some (.int .u64 x.flags) := by
  have h := k.obj (obj_top w (boxAct x) rfl) (fun hj => by have := hF _ hj; omega)
  exact ⟨cell_obj h, cell_obj h, cell_obj h, cell_obj h, cell_obj h⟩
theorem tlook_le (T : List TM) (i : Int) (ks : List Int) : 0 ≤ (tlook T i ks).1 ∧ (tlook T i ks).1 ≤ 18446744073709551615 := by
  unfold tlook
  split
  · simp
  · split
    · simp
    · exact mat_le _ _
set_option maxRecDepth 20000 in
set_option maxHeartbeats 4000000 in
theorem does_any {F0 : List Nat} {wf w : World} {mb t1 rb t2 : Nat} {V V' : Areas × List TM} (h : TwoR F0 wf w mb t1 rb t2 V V') (r : VRel V V') (x : Act9) (ks vs : List Int) (hkd : 0 ≤ x.kind ∧ x.kind ≤ 255) (hf0 : 0 ≤ x.flags) (HF : Hid (x.flags ≤ 18446744073709551615)) (hu : ∀ q ∈ vs, 0 ≤ q ∧ q ≤ 255)
    (HST : Hid (Holds F0 wf fun w' => Sl w' .u8 x.vv vs)) (HKT : Hid (Holds F0 wf fun w' => Sl w' .u8 x.kv ks)) :
    Calls Try.prog 15 #[.pointer (some ⟨mb, 0, none⟩), .pointer (some ⟨t1, 0, none⟩), .pointer (some ⟨rb, 0, none⟩), .pointer (some ⟨t2, 0, none⟩), .agg #[.int .u8 x.kind, .int .i64 x.map, .slice x.ka x.kn x.kc, .slice x.va x.vn x.vc, .int .u64 x.flags]] w (DoesA F0 wf mb t1 rb t2) := by
  obtain ⟨F, hT, hF⟩ := h.fix ((Ext.rfl' w).alloc' (boxAct x))
  have hkp : Keep F0 wf (w.alloc (boxAct x)) := h.keep.trans (Keep.of_ext ((Ext.rfl' w).alloc' _))
  have HFF : Hid (∀ j ∈ F, j ∈ F0 ∨ wf.heap.size ≤ j) := Lib.hid fun j hj => (hF j hj).2
  have HFL : Hid (∀ j ∈ F, j < w.heap.size) := Lib.hid fun j hj => (hF j hj).1
  have HS : Hid (Holds F (w.alloc (boxAct x)) fun w' => Sl w' .u8 (.slice x.va x.vn x.vc) vs) := Lib.hid fun u k => HST.out u (hkp.through k HFF.out)
  have HK : Hid (Holds F (w.alloc (boxAct x)) fun w' => Sl w' .u8 (.slice x.ka x.kn x.kc) ks) := Lib.hid fun u k => HKT.out u (hkp.through k HFF.out)
  have HBACK : Hid (∀ u A B, TwoR F (w.alloc (boxAct x)) u mb t1 rb t2 A B → VRel A B → Alike F0 wf u mb t1 rb t2) := Lib.hid fun u A B k r => ⟨A, B, k.back hkp HFF.out, r⟩
  have HT := Lib.hid hT
  have HR := Lib.hid r
  have HU := Lib.hid hu
  have HRS := Lib.hid r.small.2
  have ek : x.kind.tmod 5 = x.kind % 5 := Int.tmod_eq_emod_of_nonneg hkd.1
  have hbn : ∀ z : Int, (z != z) = false := fun z => by simp
  clear h hT hF hkp r hu HST HKT
  by_cases hk2 : x.kind % 5 = 2
  · have d2 : (x.kind % 5 == 2) = true := by simpa using hk2
    have d4 : (x.kind % 5 == 4) = false := by rw [hk2]; rfl
    clear hk2
    go_enter Try.func15, Try.ntmps15
    go_wp2_with fail
    refine (twor_drop HT.out x.map _ ks (HK.out _ HT.out.keep)).mono ?_
    rintro e w8 ⟨rfl, h8⟩
    obtain ⟨g0, g1, g2, g3, g4⟩ := box_cells h8.keep HFL.out
    have H8 := Lib.hid h8
    clear h8
    go_wp2_with fail
    refine (twor_rdrop H8.out x.map _ ks HRS (HK.out _ H8.out.keep)).mono ?_
    rintro e w9 ⟨rfl, h9⟩
    obtain ⟨g0, g1, g2, g3, g4⟩ := box_cells h9.keep HFL.out
    obtain ⟨r1, r2⟩ := drop_rel HR.out x.map ks
    rw [r1]
    have H9 := Lib.hid h9
    have R9 := Lib.hid r2
    clear h9 r1 r2
    go_wp2_with fail
    go_quiet (fail)
    go_wp2_with fail
    go_returns
    exact ⟨by simp, HBACK.out _ _ _ (H9.out.go (by (repeat (first | exact Ext.rfl' _ | assumption | refine Ext.drewN' ?_ _ | refine Ext.drew' ?_ | refine Ext.alloc' ?_ _ | refine Ext.trans' ?_ (by assumption))))) R9.out⟩
  have d2 : (x.kind % 5 == 2) = false := by simpa using hk2
  by_cases hk3 : x.kind % 5 = 3
  · have d3 : (x.kind % 5 == 3) = true := by simpa using hk3
    have d4 : (x.kind % 5 == 4) = false := by rw [hk3]; rfl
    clear hk2 hk3
    go_enter Try.func15, Try.ntmps15
    go_wp2_with fail
    refine (twor_look HT.out x.map _ ks (HK.out _ HT.out.keep)).mono ?_
    rintro e w8 ⟨rfl, h8, -⟩
    obtain ⟨g0, g1, g2, g3, g4⟩ := box_cells h8.keep HFL.out
    have H8 := Lib.hid h8
    clear h8
    go_wp2_with fail
    refine (twor_rlook H8.out x.map _ ks (HK.out _ H8.out.keep)).mono ?_
    rintro e w9 ⟨rfl, h9, -⟩
    obtain ⟨g0, g1, g2, g3, g4⟩ := box_cells h9.keep HFL.out
    rw [look_rel HR.out]
    have H9 := Lib.hid h9
    clear h9
    go_wp2_with fail
    go_quiet (fail)
    go_wp2_with fail
    go_returns
    exact ⟨by simp, HBACK.out _ _ _ (H9.out.go (by (repeat (first | exact Ext.rfl' _ | assumption | refine Ext.drewN' ?_ _ | refine Ext.drew' ?_ | refine Ext.alloc' ?_ _ | refine Ext.trans' ?_ (by assumption))))) HR.out⟩
  have d3 : (x.kind % 5 == 3) = false := by simpa using hk3
  by_cases hk4 : x.kind % 5 = 4
  · have d4 : (x.kind % 5 == 4) = true := by simpa using hk4
    clear hk2 hk3 hk4
    go_enter Try.func15, Try.ntmps15
    go_wp2_with fail
    refine (twor_look HT.out x.map _ ks (HK.out _ HT.out.keep)).mono ?_
    rintro e w8 ⟨rfl, h8, -⟩
    obtain ⟨g0, g1, g2, g3, g4⟩ := box_cells h8.keep HFL.out
    have H8 := Lib.hid h8
    clear h8
    go_wp2_with fail
    refine (twor_rlook H8.out x.map _ ks (HK.out _ H8.out.keep)).mono ?_
    rintro e w9 ⟨rfl, h9, -⟩
    obtain ⟨g0, g1, g2, g3, g4⟩ := box_cells h9.keep HFL.out
    rw [look_rel HR.out]
    have H9 := Lib.hid h9
    obtain ⟨hp0, hp1⟩ := tlook_le V.2 x.map ks
    generalize (tlook V.2 x.map ks).1 = p at *
    generalize (tlook V.2 x.map ks).2 = pe at *
    have HP1 := Lib.hid hp1
    have HSB : Hid (∀ u A B, TwoR F (w.alloc (boxAct x)) u mb t1 rb t2 A B → u.cell? ⟨w.heap.size, 0, none⟩ = some (.int .u8 x.kind) ∧ u.cell? ⟨w.heap.size, 4, none⟩ = some (.int .u64 x.flags)) := Lib.hid fun u A B k => ⟨(box_cells k.keep HFL.out).1, (box_cells k.keep HFL.out).2.2.2.2⟩
    clear h9 hp1 g1 g2 g3
    go_wp2_with fail
    go_region_held3 (fun w' => w'.cell? ⟨w.heap.size, 0, none⟩ = some (.int .u8 x.kind) ∧ w'.cell? ⟨w.heap.size, 4, none⟩ = some (.int .u64 x.flags))
      (first | exact ⟨g0, g4⟩ | exact s5 | exact s6)
      ((first
        | (go_at_call 29; refine (twor_store (H9.out.go (by (repeat (first | exact Ext.rfl' _ | assumption | refine Ext.drewN' ?_ _ | refine Ext.drew' ?_ | refine Ext.alloc' ?_ _ | refine Ext.trans' ?_ (by assumption))))) p 8 x.flags hp0 HP1 hf0).mono ?_; rintro e w5 ⟨rfl, h5⟩; have s5 := HSB.out _ _ _ h5; have H5 := Lib.hid h5; clear h5)
        | (go_at_call 39; refine (twor_rstore (H5.out.go (by (repeat (first | exact Ext.rfl' _ | assumption | refine Ext.drewN' ?_ _ | refine Ext.drew' ?_ | refine Ext.alloc' ?_ _ | refine Ext.trans' ?_ (by assumption))))) p 8 x.flags hp0 HP1 hf0 HF).mono ?_; rintro e w6 ⟨rfl, h6⟩; have s6 := HSB.out _ _ _ h6; have H6 := Lib.hid h6; clear h6)))
    all_goals
      rw [HR.out.mem] at H6
      try rw [HR.out.mem]
      have R6 := Lib.hid (HR.out.areas (mstore V.1 p 8 x.flags).1)
      go_wp2_with fail
      go_returns
      exact ⟨by simp, HBACK.out _ _ _ (H6.out.go (by (repeat (first | exact Ext.rfl' _ | assumption | refine Ext.drewN' ?_ _ | refine Ext.drew' ?_ | refine Ext.alloc' ?_ _ | refine Ext.trans' ?_ (by assumption))))) R6.out⟩
  · have d4 : (x.kind % 5 == 4) = false := by simpa using hk4
    clear hk2 hk3 hk4
    go_enter Try.func15, Try.ntmps15
    go_wp2_with fail
    refine (twor_put HT.out x.map _ _ ks vs x.flags HU.out hf0 HF HS HK).mono ?_
    rintro e w8 ⟨rfl, h8⟩
    obtain ⟨g0, g1, g2, g3, g4⟩ := box_cells h8.keep HFL.out
    have H8 := Lib.hid h8
    clear h8
    go_wp2_with fail
    refine (twor_rput H8.out x.map _ _ ks vs x.flags HRS HU.out hf0 HF HS HK).mono ?_
    rintro e w9 ⟨rfl, h9⟩
    obtain ⟨g0, g1, g2, g3, g4⟩ := box_cells h9.keep HFL.out
    obtain ⟨r1, r2⟩ := put_rel HR.out x.map ks vs x.flags
    rw [r1]
    have H9 := Lib.hid h9
    have R9 := Lib.hid r2
    clear h9 r1 r2
    go_wp2_with fail
    go_quiet (fail)
    go_wp2_with fail
    go_returns
    exact ⟨by simp, HBACK.out _ _ _ (H9.out.go (by (repeat (first | exact Ext.rfl' _ | assumption | refine Ext.drewN' ?_ _ | refine Ext.drew' ?_ | refine Ext.alloc' ?_ _ | refine Ext.trans' ?_ (by assumption))))) R9.out⟩
end Go.Proofs.Ytjimmbcihcmfoaa
