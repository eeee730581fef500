/- machine.New, given nothing. -/
import Derived.Test.YtlpeljpjgmapgaaGreatMaC
import Derived.Test.YtlpeljpjgmapgaaGreatCoI
import Derived.Test.YtlpeljpjgmapgaaGreatMemG
namespace Go.Proofs.YtlpeljpjgmapgaaGreat
open Go.RowKit
set_option linter.unusedVariables false
set_option linter.unusedSimpArgs false

theorem run_make512 (u : World) : (Instr.makeSlice 23 (.int .i64 512) (.int .i64 512)).run Tryz.prog u = .ok (.slice (some ⟨u.heap.size, 0, none⟩) 512 512) (u.alloc (.cells (madeCells #[.int .u8 0] 512) 5)) := by
  obtain ⟨i0, hi0, hz0, hz1, hz2⟩ := info_parts el_u8.info
  have h := run_make (P := Tryz.prog) u 23 5 i0 (.int .u8 0) el_u8.under hi0 hz0 .i64 .i64 512 512 (by omega) (Int.le_refl _) (by rw [hz2]; omega) (by omega)
  simpa [hz1, Value.cells] using h
theorem rd_zeros (n : Nat) (hn : n ≤ 1000) (u : World) (b : Nat) (hb : b = u.heap.size) : Sl (u.alloc (.cells (madeCells #[.int .u8 0] n) 5)) .u8 (.slice (some ⟨b, 0, none⟩) n n) (List.replicate n 0) := by
  have e : (madeCells #[.int .u8 0] n : Array Value) = ((List.replicate n (0 : Int)).flatMap fun x => [Value.int .u8 x]).toArray := by
    apply Array.toList_inj.1
    rw [toList_madeCells_one, flat1, List.map_replicate]
  rw [e]
  exact (Own.lit (enc_int .u8) (base := 0) _ hb (by simp) (Nat.zero_le _) (by simp [maxLen]; omega)).rd (enc_int .u8)
theorem rd_512 (u : World) : Sl (u.alloc (.cells (madeCells #[.int .u8 0] 512) 5)).drew .u8 (.slice (some ⟨u.heap.size, 0, none⟩) 512 512) (List.replicate 512 0) := (rd_zeros 512 (by decide) u _ rfl).ext (Ext.drew' (Ext.rfl' _))
theorem small_512 : ∀ x ∈ List.replicate 512 (0 : Int), 0 ≤ x ∧ x ≤ 255 := fun x hx => by rw [List.eq_of_mem_replicate hx]; decide
/-- A machine being made: its object at B, its memory at b, both later than W6. -/
structure NewS (W6 : World) (B b r : Nat) (o : Obj) (w : World) : Prop where
  ext : Ext W6 w
  obj : w.heap[B]? = some o
  mem : ∃ L', MemAt w b r L' ∧ B ∉ foot b r L' ∧ ∀ k ∈ foot b r L', W6.heap.size ≤ k
  hB : W6.heap.size ≤ B
theorem NewS.go {W6 w w' : World} {B b r : Nat} {o : Obj} (h : NewS W6 B b r o w) (k : Ext w w') : NewS W6 B b r o w' := by
  obtain ⟨h1, h2, ⟨L', h3, h4, h5⟩, h6⟩ := h
  exact ⟨h1.trans' k, k.obj h2, ⟨L', h3.ext k, h4, h5⟩, h6⟩
theorem NewS.set {W6 w : World} {B b r : Nat} {cs : Array Value} {ty : TypeId} (h : NewS W6 B b r (.cells cs ty (0, 0)) w) (i : Nat) (v : Value) : NewS W6 B b r (.cells (cs.setIfInBounds i v) ty (0, 0)) (w.setCell ⟨B, i, none⟩ v) := by
  obtain ⟨h1, h2, ⟨L', h3, h4, h5⟩, h6⟩ := h
  have hk : Keep [B] w (w.setCell ⟨B, i, none⟩ v) := (Keep.rfl' _ _).setCell (by simp) _
  exact ⟨h1.setCell h6 _, heap_setCell_same w B i cs ty v h2, ⟨L', h3.keep hk (fun x hx hm => by simp at hm; subst hm; exact h4 hx), h4, h5⟩, h6⟩
theorem new_make {W6 w : World} {B b r : Nat} {o : Obj} (h : NewS W6 B b r o w) (n : Int) (v : Value) (xs : List Int) (blank fixed : Bool) (hv : Sl w .u8 v xs) (hu : ∀ x ∈ xs, 0 ≤ x ∧ x ≤ 255) :
    Calls Tryz.prog 26 #[.pointer (some ⟨b, 0, none⟩), .int .i64 n, v, .bool blank, .bool fixed] w fun e w' => (∃ er : Int, e = .returned (.int .i64 er)) ∧ NewS W6 B b r o w' := by
  obtain ⟨h1, h2, ⟨L', h3, h4, h5⟩, h6⟩ := h
  refine (mem_make b r L' n v xs blank fixed w h3 hv hu).mono ?_
  rintro e w' ⟨rfl, hk, L2, g1, g2, g3⟩
  refine ⟨⟨_, rfl⟩, hk.below h1 h1.size h5, hk.obj h2 h4, ⟨L2, g1, fun hm => ?_, fun k hk2 => ?_⟩, h6⟩
  · rcases g3 B hm with h | h
    · exact h4 h
    · have := heap_lt h2; omega
  · rcases g3 k hk2 with h | h
    · exact h5 k h
    · exact Nat.le_trans h1.size h
set_option maxRecDepth 20000 in
set_option maxHeartbeats 4000000 in
theorem ma_new0 (v : Value) (L : List Ins) (w : World) (h : Rd w 5 Ins.enc v L) (hl : L.length ≤ 1000000) (hok : InsOk L) (hp : progS L = true) :
    Calls Tryz.prog 9 #[v, .agg #[.slice none 0 0, .slice none 0 0, .slice none 0 0, .slice none 0 0]] w fun e w' =>
      ∃ (B b t : Nat) (ca : Option Addr) (cn cc : Nat), e = .returned (.tuple #[.pointer (some ⟨B, 0, none⟩), .int .i64 0]) ∧ w'.heap[B]? = some (maObj (.slice ca cn cc) (.pointer (some ⟨b, 0, none⟩)) (.pointer (some ⟨t, 0, none⟩)) 0 false (mat 1 0) true (mat 2 512) true 0 false 0 0) ∧ (∀ F W, (∀ j ∈ F, (Value.slice ca cn cc).ownBlock ≠ some j) → Keep F w' W → Rd W 5 Ins.enc (.slice ca cn cc) L) ∧ (∀ j, (Value.slice ca cn cc).ownBlock = some j → w.heap.size ≤ j ∧ j < B) ∧ w.heap.size ≤ B ∧ Ext w w' := by
  have HD := Lib.hid h
  have HL := Lib.hid hl
  have HOK := Lib.hid hok
  have HP := Lib.hid hp
  clear h hl hok hp
  go_enter Tryz.func9, Tryz.ntmps9
  go_upto_region 1 with fail
  have HQ := Lib.hid (obj_top w (.cells #[.slice none 0 0, .slice none 0 0, .slice none 0 0, .slice none 0 0] 28 (0, 0)) rfl)
  have HE0 : Hid (Ext w (w.alloc (.cells #[.slice none 0 0, .slice none 0 0, .slice none 0 0, .slice none 0 0] 28 (0, 0)))) := Lib.hid (by (repeat (first | exact Ext.rfl' _ | assumption | refine Ext.drewN' ?_ _ | refine Ext.drew' ?_ | refine Ext.alloc' ?_ _ | refine Ext.trans' ?_ (by assumption))))
  go_wp2_with fail
  refine (p_Check _ L _ (HD.out.ext HE0.out) HL.out HOK.out).mono ?_
  rintro e w5 ⟨at_, er, rfl, her, hE⟩
  rw [HP.out] at her
  obtain rfl : er = 0 := by simpa using her
  have HE5 := Lib.hid (HE0.out.trans' hE)
  have HQ5 := Lib.hid (hE.obj HQ.out)
  clear hE her HE0 HQ
  have q0 := cell_obj (i := 0) HQ5.out
  have q1 := cell_obj (i := 1) HQ5.out
  have q2 := cell_obj (i := 2) HQ5.out
  have q3 := cell_obj (i := 3) HQ5.out
  simp only [List.getElem?_toArray, List.getElem?_cons_zero, List.getElem?_cons_succ] at q0 q1 q2 q3
  go_upto_region 4 with fail
  have HCL := Lib.hid (fun W (hW : Ext w5 W) => clone_ins v L W (HD.out.ext (HE5.out.trans' hW)) HL.out)
  have hS : ∀ W, Ext w5 W → (W.cell? ⟨w.heap.size, 1, none⟩ = some (.slice none 0 0) ∧ W.cell? ⟨w.heap.size, 3, none⟩ = some (.slice none 0 0)) := fun W h => ⟨h.cellOf q1, h.cellOf q3⟩
  have HS := Lib.hid hS
  clear hS
  go_cut [8] from 39 to 50 (fun v8 wx => ∃ (B b r : Nat) (ca : Option Addr) (cn cc : Nat), v8 = .pointer (some ⟨B, 0, none⟩) ∧ Hid (wx.heap[B]? = some (maObj (.slice ca cn cc) (.pointer (some ⟨b, 0, none⟩)) (.pointer none) 0 false 0 false 0 false 0 false 0 0) ∧ MemAt wx b r [] ∧ Rd wx 5 Ins.enc (.slice ca cn cc) L ∧ Ext w5 wx ∧ w5.heap.size ≤ B ∧ w5.heap.size ≤ b ∧ w5.heap.size ≤ r ∧ B ≠ b ∧ B ≠ r ∧ ∃ W6, Own W6 w5.heap.size 64 5 Ins.enc (.slice ca cn cc) L ∧ Ext w5 W6 ∧ Ext W6 wx ∧ W6.heap.size ≤ B ∧ W6.heap.size ≤ b ∧ W6.heap.size ≤ r))
  case first =>
    go_region_held3 (fun w' => w'.cell? ⟨w.heap.size, 1, none⟩ = some (.slice none 0 0) ∧ w'.cell? ⟨w.heap.size, 3, none⟩ = some (.slice none 0 0))
      (exact HS.out _ (by (repeat (first | exact Ext.rfl' _ | assumption | refine Ext.drewN' ?_ _ | refine Ext.drew' ?_ | refine Ext.alloc' ?_ _ | refine Ext.trans' ?_ (by assumption)))))
      ((first
        | (go_at_call 22; refine (HCL.out _ (by (repeat (first | exact Ext.rfl' _ | assumption | refine Ext.drewN' ?_ _ | refine Ext.drew' ?_ | refine Ext.alloc' ?_ _ | refine Ext.trans' ?_ (by assumption))))).mono ?_; rintro e w6 ⟨v6, rfl, hO6, hE6⟩; have R6 := Lib.hid (hO6.rd enc_ins); obtain ⟨ca, cn, cc, hcv, hcn, hCN⟩ := (hO6.rd enc_ins).val; subst hcv; have O6 := Lib.hid hO6; clear hO6)
        | (go_at_call 23; refine (mem_new _).mono ?_; rintro e w7 ⟨b, r, rfl, hM7, hb7, hr7, hE7⟩; have M7 := Lib.hid hM7; clear hM7)
        | (go_at_call 24; refine (clone_def0 _).mono ?_; rintro e w8 ⟨rfl, rfl⟩)
        | (go_at_call 25; refine (clone_u64_0 _).mono ?_; rintro e w9 ⟨rfl, rfl⟩)))
    all_goals
      have a1 := hE6.size
      have a2 := hE7.size
      have a3 := heap_lt M7.out.head
      have a4 := M7.out.map.lt
      have e5 : Ext w5 w6 := by (repeat (first | exact Ext.rfl' _ | assumption | refine Ext.drewN' ?_ _ | refine Ext.drew' ?_ | refine Ext.alloc' ?_ _ | refine Ext.trans' ?_ (by assumption)))
      have a5 := e5.size
      go_wp2_with fail
      go_meet
      exact ⟨_, b, r, ca, cn, cc, rfl, Lib.hid ⟨obj_top _ _ rfl, M7.out.ext (Ext.alloc' (Ext.rfl' _) _), R6.out.ext (Ext.alloc' hE7 _), Ext.alloc' (e5.trans' hE7) _, by omega, by omega, by omega, by omega, by omega, w6, O6.out, e5, Ext.alloc' hE7 _, by omega, by omega, by omega⟩⟩
  case rest =>
    obtain ⟨B, b, r, ca, cn, cc, rfl, HI⟩ := hcut
    obtain ⟨hM, hA, hR, hE, b1, b2, b3, b4, b5, W6, hR6, hE6, hX6, b6, b7, b8⟩ := HI.out
    have HN := Lib.hid (NewS.mk hX6 hM ⟨[], hA, by simp [foot]; omega, by simp [foot]; omega⟩ b6)
    have HR6 := Lib.hid hR6
    have HBK : Hid (∀ j, (Value.slice ca cn cc).ownBlock = some j → w.heap.size ≤ j ∧ j < B) := Lib.hid (fun j hj => by
      have h1 := hR6.lt hj
      have h2 := HE5.out.size
      omega)
    have HEW := Lib.hid (HE5.out.trans' hE6)
    have hq6 := hE6.obj HQ5.out
    have HQW := Lib.hid (fun W (hW : Ext W6 W) => hW.obj hq6)
    have hB6 : w.heap.size ≤ B := by have := HEW.out.size; omega
    clear hM hA hR hE hR6 hE6 hX6 HI HCL HS q0 q1 q2 q3 HQ5 HE5 b1 b2 b3 b4 b5 b6 b7 b8 hq6
    obtain ⟨Q, hQ⟩ : ∃ Q, Q = w.heap.size := ⟨_, rfl⟩
    rw [← hQ] at HQW ⊢
    clear hQ
    have m23 := cell_obj (i := 23) HN.out.obj
    have q0 := cell_obj (i := 0) (HQW.out _ HN.out.ext)
    simp only [List.getElem?_toArray, List.getElem?_cons_zero, List.getElem?_cons_succ] at m23 q0
    have hlB := heap_lt HN.out.obj
    go_upto_region 5 with fail
    go_cut [50] from 50 to 57 (fun _ wx => Hid (NewS W6 B b r (maObj (.slice ca cn cc) (.pointer (some ⟨b, 0, none⟩)) (.pointer none) 0 false 0 false 0 false 0 false 0 0) wx))
    case first =>
      go_region_law ((go_simp; go_at_call 26; refine (new_make (HN.out.go (by (repeat (first | exact Ext.rfl' _ | assumption | refine Ext.drewN' ?_ _ | refine Ext.drew' ?_ | refine Ext.alloc' ?_ _ | refine Ext.trans' ?_ (by assumption))))) 1 _ [] false true (Rd.nil _ _ _) (by simp)).mono ?_; rintro e w7 ⟨⟨er, rfl⟩, hN⟩; have HN7 := Lib.hid hN; clear hN))
      all_goals
        go_wp2_with fail
        go_meet
        exact HN7
    case rest =>
      clear HN m23 q0 hlB
      have HN := hcut
      have m23 := cell_obj (i := 23) HN.out.obj
      simp only [List.getElem?_toArray, List.getElem?_cons_zero, List.getElem?_cons_succ] at m23
      have mo23 := fun o => cell_obj (i := 23) (obj_old o HN.out.obj)
      simp only [List.getElem?_toArray, List.getElem?_cons_zero, List.getElem?_cons_succ] at mo23
      have hlB := heap_lt HN.out.obj
      clear hcut
      go_upto_region 6 with fail
      have hmk := run_make512
      go_cut [57] from 57 to 63 (fun _ wx => Hid (NewS W6 B b r (maObj (.slice ca cn cc) (.pointer (some ⟨b, 0, none⟩)) (.pointer none) 0 false 0 false 0 false 0 false 0 0) wx))
      case first =>
        go_region_law ((go_simp; go_at_call 26; refine (new_make (HN.out.go (by (repeat (first | exact Ext.rfl' _ | assumption | refine Ext.drewN' ?_ _ | refine Ext.drew' ?_ | refine Ext.alloc' ?_ _ | refine Ext.trans' ?_ (by assumption))))) 2 _ (List.replicate 512 0) true false (rd_512 _) small_512).mono ?_; rintro e w7 ⟨⟨er, rfl⟩, hN⟩; have HN7 := Lib.hid hN; clear hN))
        all_goals
          go_wp2_with fail
          go_meet
          exact HN7
      case rest =>
        clear HN m23 mo23 hlB hmk
        have HN := hcut
        have m23 := cell_obj (i := 23) HN.out.obj
        have q1 := cell_obj (i := 1) (HQW.out _ HN.out.ext)
        simp only [List.getElem?_toArray, List.getElem?_cons_zero, List.getElem?_cons_succ] at m23 q1
        have hlB := heap_lt HN.out.obj
        clear hcut
        go_upto_region 7 with fail
        go_cut [9, 10] from 63 to 73 (fun v9 v10 wx => ∃ t : Nat, v9 = .pointer (some ⟨t, 0, none⟩) ∧ v10 = .int .i64 0 ∧ Hid (NewS W6 B b r (maObj (.slice ca cn cc) (.pointer (some ⟨b, 0, none⟩)) (.pointer none) 0 false 0 false 0 false 0 false 0 0) wx))
        case first =>
          go_region_law ((go_simp; go_at_call 27; refine (tab_new0 b _).mono ?_; rintro e w7 ⟨t, rfl, ht, hE7⟩; have HN7 := Lib.hid ((HN.out.go (by (repeat (first | exact Ext.rfl' _ | assumption | refine Ext.drewN' ?_ _ | refine Ext.drew' ?_ | refine Ext.alloc' ?_ _ | refine Ext.trans' ?_ (by assumption))))).go hE7)))
          all_goals
            go_wp2_with fail
            go_meet
            exact ⟨_, rfl, rfl, HN7⟩
        case rest =>
          obtain ⟨t, rfl, rfl, HN2⟩ := hcut
          clear HN m23 q1 hlB
          have m24 := cell_obj (i := 24) HN2.out.obj
          have mf := fun i => frozen_obj (i := i) HN2.out.obj
          have q2 := cell_obj (i := 2) (HQW.out _ HN2.out.ext)
          simp only [List.getElem?_toArray, List.getElem?_cons_zero, List.getElem?_cons_succ] at m24 q2
          have hlB := heap_lt HN2.out.obj
          have hN3 := HN2.out.set 24 (.pointer (some ⟨t, 0, none⟩))
          simp at hN3
          have HN3 := Lib.hid hN3
          clear hN3
          go_upto_region 11 with fail
          generalize hF : World.setCell _ _ (Value.pointer (some ⟨t, 0, none⟩)) = wb at HN3 ⊢
          clear hF HN2 m24 mf q2 hlB
          have q2 := cell_obj (i := 2) (HQW.out _ HN3.out.ext)
          have m3 := cell_obj (i := 3) HN3.out.obj
          have m4 := cell_obj (i := 4) HN3.out.obj
          have mf := fun i => frozen_obj (i := i) HN3.out.obj
          have hlB := heap_lt HN3.out.obj
          simp only [List.getElem?_toArray, List.getElem?_cons_zero, List.getElem?_cons_succ] at q2 m3 m4
          have hN4 := (HN3.out.set 3 (.int .u64 (mat 1 0))).set 4 (.bool true)
          simp at hN4
          have HN4 := Lib.hid hN4
          clear hN4
          go_wp2_with fail
          refine wp_loop_rounds 1 ?_
          rw [rounds_succ]
          go_upto_region 22 with fail
          go_cut [111] from 111 to 117 (fun _ wx => Hid (NewS W6 B b r (maObj (.slice ca cn cc) (.pointer (some ⟨b, 0, none⟩)) (.pointer (some ⟨t, 0, none⟩)) 0 false (mat 1 0) true 0 false 0 false 0 0) wx))
          case first =>
            go_region_law ((go_simp; go_at_call 17; refine (in_at 1 0 _).mono ?_; rintro e w7 ⟨rfl, rfl⟩))
            all_goals
              go_wp2_with fail
              go_meet
              exact Lib.hid (HN4.out.go (by (repeat (first | exact Ext.rfl' _ | assumption | refine Ext.drewN' ?_ _ | refine Ext.drew' ?_ | refine Ext.alloc' ?_ _ | refine Ext.trans' ?_ (by assumption)))))
          case rest =>
            clear HN3 HN4 q2 m3 m4 mf hlB
            have HN5 := hcut
            clear hcut
            have m21 := cell_obj (i := 21) HN5.out.obj
            have m22 := cell_obj (i := 22) HN5.out.obj
            have mf := fun i => frozen_obj (i := i) HN5.out.obj
            have hlB := heap_lt HN5.out.obj
            simp only [List.getElem?_toArray, List.getElem?_cons_zero, List.getElem?_cons_succ] at m21 m22
            have hN6 := (HN5.out.set 21 (.int .u64 (mat 2 512))).set 22 (.bool true)
            simp at hN6
            have HN6 := Lib.hid hN6
            clear hN6
            go_upto_region 23 with fail
            go_cut [117] from 117 to 123 (fun _ wx => Hid (NewS W6 B b r (maObj (.slice ca cn cc) (.pointer (some ⟨b, 0, none⟩)) (.pointer (some ⟨t, 0, none⟩)) 0 false (mat 1 0) true (mat 2 512) true 0 false 0 0) wx))
            case first =>
              go_region_law ((go_simp; go_at_call 17; refine (in_at 2 512 _).mono ?_; rintro e w7 ⟨rfl, rfl⟩))
              all_goals
                go_wp2_with fail
                go_meet
                exact Lib.hid (HN6.out.go (by (repeat (first | exact Ext.rfl' _ | assumption | refine Ext.drewN' ?_ _ | refine Ext.drew' ?_ | refine Ext.alloc' ?_ _ | refine Ext.trans' ?_ (by assumption)))))
            case rest =>
              clear HN5 HN6 m21 m22 mf hlB
              have HN7 := hcut
              clear hcut
              go_wp2_with fail
              go_returns
              exact ⟨B, b, t, _, _, _, rfl, HN7.out.obj, fun F W hF hW => ((HR6.out.ext HN7.out.ext).keep hW (fun j hj hm => hF j hm hj)).rd enc_ins, HBK.out, hB6, HEW.out.trans' HN7.out.ext⟩
end Go.Proofs.YtlpeljpjgmapgaaGreat
