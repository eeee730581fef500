/- Memory: Make, Area. -/
import Derived.Test.YtlpeljpjgmapgaaGreatMemD
import Derived.Deep.DeepCutAuto
namespace Go.Proofs.YtlpeljpjgmapgaaGreat
open Go.RowKit
set_option linter.unusedVariables false
set_option linter.unusedSimpArgs false

section
variable {α : Type} {P : Program} {w : World} {ops : Array Oper} {rest : List Oper} {o : Oper} {a : Act} {Q : Exit → Act → World → Prop} {f : α → Value}
/-- 'copy(v, y)', v a row of its own of n elements, y as long: then the row holds what y holds. -/
theorem copy_all (hgd : o.guard = none) (d s : Operand) (dT sT : TypeId) (ho : o.op = .call { callee := .builtin .copy, args := #[d, s], argTypes := #[dT, sT] }) (elem : TypeId) (hu : P.underlying dT = some (.slice elem)) (hsz : (P.info? elem).map (·.size) = some 1)
    {g n c : Nat} (hd : a.eval d = .slice (some ⟨g, 0, none⟩) n c) {y : Value} (hs : a.eval s = y) {cur : Array Value} {t : TypeId} (hg : w.heap[g]? = some (.cells cur t (0, 0))) (hcur : cur.size = n) {ys : List α}
    (hy : Rd w 1 (fun x => [f x]) y ys) (hn : ys.length = n) (h1 : ∀ x, (f x).oneCell' = true)
    (h : ∀ w', Hid (w'.heap[g]? = some (.cells (ys.flatMap fun x => [f x]).toArray t (0, 0))) → Keep [g] w w' → wpList P ops Q rest (a.put o.dst (goInt n)) w') : wpList P ops Q (o :: rest) a w := by
  refine wpList_plain hgd fun K hK => ?_
  obtain ⟨ya, yc, rfl, h2, h3, h4, h5⟩ := hy
  by_cases hz : n = 0
  · subst hz
    have hys : ys = [] := List.eq_nil_of_length_eq_zero hn
    subst hys
    have hrun := run_copy_none (P := P) w dT sT o.type elem (some ⟨g, 0, none⟩) ya 0 c 0 yc hu hsz rfl
    unfold Oper.wp
    simp [execOp, ho, resolve, invoke, builtin, hd, hs, hrun, Result.andThen]
    have hc : cur = #[] := Array.eq_empty_of_size_eq_zero hcur
    subst hc
    exact hK _ _ (h w (Lib.hid hg) (Keep.rfl' _ _))
  · cases ya with
    | none => have := (h4 rfl).1; subst this; simp at hn; omega
    | some ad =>
      have hrun := run_copy_row (P := P) w dT sT o.type elem g 0 n c ad ys.length yc cur t (ys.map f) hu hsz hg (by rw [List.length_map, hn]; simp) (by
        intro j u hj
        rw [List.getElem?_map] at hj
        obtain ⟨x, hx, rfl⟩ := Option.map_eq_some_iff.1 hj
        have := h5 j x hx 0 (f x) rfl
        simpa [elt] using this) (by simp [hn, hcur]) (by
        intro u hu
        obtain ⟨x, _, rfl⟩ := List.mem_map.1 hu
        exact h1 x)
      unfold Oper.wp
      simp [execOp, ho, resolve, invoke, builtin, hd, hs, hrun, Result.andThen]
      have e : (cur.toList.take 0 ++ ys.map f ++ cur.toList.drop (0 + (ys.map f).length)).toArray = (ys.flatMap fun x => [f x]).toArray := by
        rw [flat1, List.drop_eq_nil_of_le (by simp [hn, hcur])]; simp
      have hw : ∀ X : Array Value, X = (ys.flatMap fun x => [f x]).toArray → K (a.put o.dst (goInt ys.length)) (w.setRow g X) := by
        intro X hX
        subst hX
        rw [hn]
        exact hK _ _ (h _ (Lib.hid (setRow_heap w g cur _ t _ hg)) ⟨rfl, rfl, rfl, by simp [World.setRow], fun k _ hk => setRow_other w g k _ (by simpa using hk)⟩)
      first
        | exact hw _ (by simpa using e)
        | (have := hw _ e; simpa [hn] using this)
end

theorem size1 : (Tryz.prog.info? 5).map (·.size) = some 1 := by kernel_rfl
theorem flat_made (n : Nat) : ((List.replicate n false).flatMap fun x => [Value.bool x]).toArray = madeCells #[.bool false] n := by
  apply Array.toList_inj.1
  rw [toList_madeCells_one, flat1, List.map_replicate]
theorem mark_at {vn k : Nat} {q : Bool} (h : k < vn) : (over (List.replicate vn false) 0 (List.replicate k q))[0 + k]? = some false := by
  rw [over_at _ _ _ _ (by simp; omega)]
  simp [h]
theorem mark_step {wr : World} {p k vn : Nat} {q : Bool} (h : k < vn) (HP : wr.heap[p]? = some (.cells ((over (List.replicate vn false) 0 (List.replicate k q)).flatMap fun x => [Value.bool x]).toArray 4 (0, 0))) :
    (wr.setCell ⟨p, k, none⟩ (.bool q)).heap[p]? = some (.cells ((over (List.replicate vn false) 0 (List.replicate (k + 1) q)).flatMap fun x => [Value.bool x]).toArray 4 (0, 0)) := by
  rw [heap_setCell_same wr p k _ _ _ HP, ← flat_set, show List.replicate (k + 1) q = List.replicate k q ++ [q] from List.replicate_succ', over_snoc _ _ _ _ (by simp; omega)]
  simp
theorem marks_full (q : Bool) (n : Nat) : over (List.replicate n false) 0 (List.replicate n q) = List.replicate n q := by simp [over]
/-- A new area's three blocks, as they are laid: no byte put there. -/
def LaidNew (w : World) (n : Nat) (fixed : Bool) (v : Value) (wx : World) : Prop :=
  ∃ a g p, v = .pointer (some ⟨a, 0, none⟩) ∧ Ext w wx ∧ (w.heap.size ≤ a ∧ w.heap.size ≤ g ∧ w.heap.size ≤ p) ∧ (a ≠ g ∧ a ≠ p ∧ g ≠ p) ∧
    wx.heap[a]? = some (.cells #[.slice (some ⟨g, 0, none⟩) n n, .slice (some ⟨p, 0, none⟩) n n, .bool fixed] 115 (0, 0)) ∧
    wx.heap[g]? = some (.cells (madeCells #[.int .u8 0] n) 5 (0, 0)) ∧ wx.heap[p]? = some (.cells (madeCells #[.bool false] n) 4 (0, 0))

def MakeAns (b r : Nat) (L : List Rec) (n : Int) (xs : List Int) (blank fixed : Bool) (w : World) (e : Ending) (w' : World) : Prop :=
  e = .returned (.int .i64 (mmake (view L) n xs blank fixed).2) ∧ Keep (foot b r L) w w' ∧ ∃ L', MemAt w' b r L' ∧ view L' = (mmake (view L) n xs blank fixed).1 ∧ ∀ k ∈ foot b r L', k ∈ foot b r L ∨ w.heap.size ≤ k
set_option maxRecDepth 20000 in
set_option maxHeartbeats 1000000 in
theorem mem_make (b r : Nat) (L : List Rec) (n : Int) (v : Value) (xs : List Int) (blank fixed : Bool) (w : World) (h : MemAt w b r L) (hv : Sl w .u8 v xs) (hu : ∀ x ∈ xs, 0 ≤ x ∧ x ≤ 255) :
    Calls Tryz.prog 26 #[.pointer (some ⟨b, 0, none⟩), .int .i64 n, v, .bool blank, .bool fixed] w (MakeAns b r L n xs blank fixed w) := by
  obtain ⟨va, vn, vc, rfl, hvn, hVN⟩ := hv.val
  have HV := Lib.hid hv
  have HU := Lib.hid hu
  have HM := Lib.hid h
  have hb := cell_obj (i := 0) h.head
  have hlk := (run_lookup_int (P := Tryz.prog) Tryz.underlying109 Tryz.underlying3 zero_area h.map n).2
  clear hv hu
  rcases lookup_view L n with ⟨h1, h2⟩ | ⟨x, hx, hxn, h1, h2⟩
  case inr =>
    rw [h1] at hlk
    simp only [Option.getD_some, Option.isSome_some] at hlk
    have H2 := Lib.hid h2
    clear h h1 h2
    go_enter Tryz.func26, Tryz.ntmps26
    go_wp2_with fail
    go_returns
    exact ⟨by simp [mmake, H2.out], Keep.rfl' _ _, L, HM.out, by simp [mmake, H2.out], fun k hk => .inl hk⟩
  rw [h1] at hlk
  simp only [Option.getD_none, Option.isSome_none] at hlk
  have H1 := Lib.hid h1
  have H2 := Lib.hid h2
  clear h h1 h2
  by_cases hbad : n < 1 ∨ 2147483647 < n
  · have HB := Lib.hid hbad
    rcases hbad with hs | hs
    all_goals
      go_enter Tryz.func26, Tryz.ntmps26
      go_wp2_with fail
      go_returns
      have hc : (((view L).lookup n).isSome = true ∨ n < 1 ∨ 2147483647 < n) := .inr HB.out
      exact ⟨by simp only [mmake, hc, if_true]; rfl, Keep.rfl' _ _, L, HM.out, by simp only [mmake, hc, if_true], fun k hk => .inl hk⟩
  have hn1 : 1 ≤ n := by omega
  have hn2 : n ≤ 2147483647 := by omega
  have hc : ¬ (((view L).lookup n).isSome = true ∨ n < 1 ∨ 2147483647 < n) := by rw [H2.out]; simp; omega
  have HC := Lib.hid hc
  clear hbad hc
  by_cases hlong : (1024 : Int) < vn
  · go_enter Tryz.func26, Tryz.ntmps26
    go_wp2_with fail
    go_returns
    have hl : 1024 < xs.length := by have := hVN.out; omega
    exact ⟨by simp only [mmake, HC.out, hl, if_true, if_false]; rfl, Keep.rfl' _ _, L, HM.out, by simp only [mmake, HC.out, hl, if_true, if_false], fun k hk => .inl hk⟩
  · have hl : ¬ 1024 < xs.length := by have := hVN.out; omega
    have HL := Lib.hid hl
    clear hl
    obtain ⟨i0, hi0, hz0, hz1, hz2⟩ := info_parts el_u8.info
    obtain ⟨i1, hi1, hy0, hy1, hy2⟩ := info_parts el_bool.info
    have hm1 : ∀ u : World, (Instr.makeSlice 23 (.int .i64 (vn : Int)) (.int .i64 (vn : Int))).run Tryz.prog u = .ok (.slice (some ⟨u.heap.size, 0, none⟩) vn vn) (u.alloc (.cells (madeCells #[.int .u8 0] vn) 5)) := fun u => by
      have h := run_make (P := Tryz.prog) u 23 5 i0 (.int .u8 0) el_u8.under hi0 hz0 .i64 .i64 (vn : Int) (vn : Int) (by omega) (Int.le_refl _) (by rw [hz2]; omega) (by omega)
      simpa [hz1, Value.cells] using h
    have hm2 : ∀ u : World, (Instr.makeSlice 106 (.int .i64 (vn : Int)) (.int .i64 (vn : Int))).run Tryz.prog u = .ok (.slice (some ⟨u.heap.size, 0, none⟩) vn vn) (u.alloc (.cells (madeCells #[.bool false] vn) 4)) := fun u => by
      have h := run_make (P := Tryz.prog) u 106 4 i1 (.bool false) el_bool.under hi1 hy0 .i64 .i64 (vn : Int) (vn : Int) (by omega) (Int.le_refl _) (by rw [hy2]; omega) (by omega)
      simpa [hy1, Value.cells] using h
    clear hi0 hz0 hz1 hz2 hi1 hy0 hy1 hy2
    go_enter Tryz.func26, Tryz.ntmps26
    go_upto_region 8 with fail
    go_cut [13] (fun v13 wx => LaidNew w vn fixed v13 wx)
    case first =>
      go_region
      all_goals
        go_wp2_with fail
        go_meet
        first
          | exact ⟨_, w.heap.size, w.heap.size + 1, rfl, by (repeat (first | exact Ext.rfl' _ | assumption | refine Ext.drewN' ?_ _ | refine Ext.drew' ?_ | refine Ext.alloc' ?_ _ | refine Ext.trans' ?_ (by assumption))), by omega, by omega, obj_top _ _ (by simp), obj_old _ (obj_old _ (obj_top _ _ rfl)), obj_old _ (obj_top _ _ (by simp))⟩
          | exact ⟨_, w.heap.size + 1, w.heap.size, rfl, by (repeat (first | exact Ext.rfl' _ | assumption | refine Ext.drewN' ?_ _ | refine Ext.drew' ?_ | refine Ext.alloc' ?_ _ | refine Ext.trans' ?_ (by assumption))), by omega, by omega, obj_top _ _ (by simp), obj_old _ (obj_top _ _ (by simp)), obj_old _ (obj_old _ (obj_top _ _ rfl))⟩
    case rest =>
      obtain ⟨a, g, p, rfl, hE, hfr, hap, ha, hg, hp⟩ := hcut
      have HG := Lib.hid hg
      have HP := Lib.hid hp
      have HA := Lib.hid ha
      have c0 := cell_obj (i := 0) ha
      have c1 := cell_obj (i := 1) ha
      simp only [List.getElem?_toArray, List.getElem?_cons_zero, List.getElem?_cons_succ] at c0 c1
      clear hm1 hm2 hlk hb ha hg hp
      go_wp2_with (refine copy_all (o := ⟨some 54, _, _, _, _, _⟩) rfl (.tmp 52) (.tmp 53) 23 23 rfl 5 el_u8.under size1 rfl rfl HG.out (size_madeCells _ _) (ys := xs) (f := fun x => Value.int .u8 x) ?q1 ?q2 ?q3 ?q4)
      case q1 => exact HV.out.ext hE
      case q2 => exact hVN.out.symm
      case q3 => exact fun x => rfl
      intro w2 HG2 hk2
      have HA2 := Lib.hid (hk2.obj HA.out (by simp; omega))
      have HP2 := Lib.hid (hk2.obj HP.out (by simp; omega))
      have hE2 : Ext w w2 := hk2.below hE hE.size (by simp; omega)
      have d0 := cell_obj (i := 0) HA2.out
      have d1 := cell_obj (i := 1) HA2.out
      simp only [List.getElem?_toArray, List.getElem?_cons_zero, List.getElem?_cons_succ] at d0 d1
      clear c0 c1 HG HP HA
      go_wp2_with fail
      go_loopw [60] (fun i wr => ∃ k : Nat, k ≤ vn ∧ i = .int .i64 k ∧ Keep [p] w2 wr ∧ Hid (wr.heap[p]? = some (.cells ((over (List.replicate vn false) 0 (List.replicate k (!blank))).flatMap fun x => [Value.bool x]).toArray 4 (0, 0)))) (fun i _ => vn - (intOf i).toNat)
      case atStart => exact ⟨0, Nat.zero_le _, rfl, Keep.rfl' _ _, by simp only [List.replicate_zero, over_nil, flat_made]; exact HP2.out⟩
      case round =>
        obtain ⟨k, hk, rfl, hK, HP3⟩ := hrel
        have HA3 := Lib.hid (hK.obj HA2.out (by simp; exact hap.2.1))
        have e1 := cell_obj (i := 1) HA3.out
        simp only [List.getElem?_toArray, List.getElem?_cons_zero, List.getElem?_cons_succ] at e1
        by_cases hlt : (k : Int) < (vn : Int)
        · have f2 := (cell_obj (i := 0 + k) HP3.out).trans (flat_get _ _ _ _ (mark_at (q := !blank) (Int.ofNat_lt.1 hlt)))
          have f3 := frozen_obj (i := 0 + k) HP3.out
          have e3 : (0 : Int) ≤ (k : Int) := by omega
          have HST := Lib.hid (mark_step (q := !blank) (Int.ofNat_lt.1 hlt) HP3.out)
          clear d0 d1
          rw [Nat.zero_add] at f2 f3
          go_wp2_with fail
          go_roundw
          case rel => exact ⟨k + 1, by omega, by go_num, hK.setCell (by simp) _, Lib.hid HST.out⟩
          case measure => simp [intOf]; omega
        · have hks : k = vn := by omega
          have HKS := Lib.hid hks
          have hE3 : Ext w wr := hK.below hE2 hE2.size (by simp; omega)
          have HG3 := Lib.hid (hK.obj HG2.out (by simp; exact hap.2.2))
          have HM3 : MemAt wr b r L := HM.out.ext hE3
          have hb3 := cell_obj (i := 0) HM3.head
          obtain ⟨w', hrun, hmo, hkr⟩ := run_update_new (P := Tryz.prog) Tryz.underlying109 Tryz.underlying3 HM3.map n (.pointer (some ⟨a, 0, none⟩)) H1.out
          have HM4 := Lib.hid HM3
          have HMO := Lib.hid hmo
          clear hks d0 d1 HM3 hmo
          go_wp2_with fail
          go_returns
          have eN := HKS.out
          subst eN
          rw [marks_full] at HP3
          have hkf : ∀ j ∈ foot b r L, j < w.heap.size := HM.out.lt
          have hkey := hkr
          have hlen : k = xs.length := hVN.out
          have hRX : RecAt w' ⟨n, a, g, p, ⟨xs, xs.map fun _ => !blank, fixed⟩⟩ := by
            have hr : r < w.heap.size := hkf r (by simp [foot])
            refine ⟨?_, ?_, ?_, by simp, by have := HL.out; simp; omega, HU.out⟩
            · simp only [← hlen]
              exact hkr.obj HA3.out (by simp; omega)
            · exact hkr.obj HG3.out (by simp; omega)
            · have e : (xs.map fun _ => !blank) = List.replicate k (!blank) := by rw [hlen]; exact List.map_const' ..
              simp only [e]
              exact hkr.obj HP3.out (by simp; omega)
          refine ⟨by simp only [mmake, HC.out, HL.out, if_false]; rfl, (Keep.of_ext hE3).trans (hkr.mono fun j hj => .inl ?_), L ++ [⟨n, a, g, p, ⟨xs, xs.map fun _ => !blank, fixed⟩⟩], ?_, ?_, ?_⟩
          · simp only [List.mem_singleton] at hj
            subst hj
            simp [foot]
          · exact HM4.out.push (B := w.heap.size) H2.out ⟨hn1, hn2⟩ hkr HMO.out hRX hkf hfr hap
          · simp only [mmake, HC.out, HL.out, if_false]
            simp [view]
          · intro j hj
            rcases foot_push b r L _ j hj with hj | hj
            · exact .inl hj
            · simp only [Rec.blocks, List.mem_cons, List.not_mem_nil, or_false] at hj
              right
              rcases hj with rfl | rfl | rfl <;> omega

/-- What asking for a whole area tells: its bytes, new, and whether there is one. -/
def marea (M : Areas) (n : Int) : List Int × Bool := match M.lookup n with | none => ([], false) | some A => (A.bytes, true)
def AreaAns (L : List Rec) (n : Int) (w : World) (e : Ending) (w' : World) : Prop :=
  ∃ v, e = .returned (.tuple #[v, .bool (marea (view L) n).2]) ∧ Own w' w.heap.size 5 1 (fun x => [Value.int .u8 x]) v (marea (view L) n).1 ∧ Ext w w'
theorem mem_area (b r : Nat) (L : List Rec) (n : Int) (w : World) (h : MemAt w b r L) :
    Calls Tryz.prog 55 #[.pointer (some ⟨b, 0, none⟩), .int .i64 n] w (AreaAns L n w) := by
  have HM := Lib.hid h
  have hb := cell_obj (i := 0) h.head
  have hlk := (run_lookup_int (P := Tryz.prog) Tryz.underlying109 Tryz.underlying3 zero_area h.map n).1
  rcases lookup_view L n with ⟨h1, h2⟩ | ⟨x, hx, hxn, h1, h2⟩
  · rw [h1] at hlk
    simp only [Option.getD_none] at hlk
    have H2 := Lib.hid h2
    clear h h1 h2
    go_enter Tryz.func55, Tryz.ntmps55
    go_wp2_with fail
    go_returns
    exact ⟨.slice none 0 0, by simp [marea, H2.out], by simp only [marea, H2.out]; exact Own.nil _ _ _ _ _, Ext.rfl' _⟩
  · rw [h1] at hlk
    simp only [Option.getD_some] at hlk
    have H2 := Lib.hid h2
    have hR := h.recs x hx
    have c0 := cell_obj (i := 0) hR.area
    have hsm := hR.small
    have OB : Hid (Own w 0 5 1 (fun x => [Value.int .u8 x]) (.slice (some ⟨x.g, 0, none⟩) x.A.bytes.length x.A.bytes.length) x.A.bytes) := Lib.hid (own_obj (enc_int .u8) hR.bytes (Nat.zero_le _) rfl (by simp only [maxLen]; omega))
    have RB := Lib.hid (OB.out.rd (enc_int _))
    clear h h1 h2 hR OB
    go_enter Tryz.func55, Tryz.ntmps55
    go_wp2_with fail
    refine (clone_u8 _ x.A.bytes _ RB.out (by omega)).mono ?_
    rintro e w3 ⟨v, rfl, hv, he⟩
    have HV := Lib.hid hv
    clear hv
    go_wp2_with fail
    go_returns
    exact ⟨v, by simp [marea, H2.out], by simp only [marea, H2.out]; exact HV.out, he⟩
end Go.Proofs.YtlpeljpjgmapgaaGreat
