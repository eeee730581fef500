/- Maps of layer 9: Put. -/
import Derived.Test.YtjimmbcihcmfoaaTabC
namespace Go.Proofs.Ytjimmbcihcmfoaa
open Go.RowKit
set_option linter.unusedVariables false
set_option linter.unusedSimpArgs false

/-- The first k bytes of a value are stored, one by one, from the area's beginning on. -/
def mputs (M : Areas) (a : Int) (vs : List Int) : Nat → Areas
  | 0 => M
  | k + 1 => (mstore (mputs M a vs k) (mat a k) 1 (vs.getD k 0)).1
def tput (V : Areas × List TM) (i : Int) (ks vs : List Int) (flags : Int) : (Areas × List TM) × Int × Int :=
  match tfind V.2 i ks.length with
  | none => (V, 0, 1)
  | some t =>
    if (vs.length : Int) ≠ t.val then (V, 0, 1)
    else if 2 < flags then (V, 18446744073709551594, 0)
    else match t.slots.lookup (strOfNums ks) with
      | some n => if flags = 1 then (V, 18446744073709551599, 0) else ((mputs V.1 (tarea i n) vs vs.length, V.2), 0, 0)
      | none => if t.hash = false then (V, 18446744073709551609, 0) else if flags = 2 then (V, 18446744073709551614, 0) else if t.max ≤ t.slots.length then (V, 18446744073709551609, 0) else
        match tslot V i (strOfNums ks) vs with
        | none => (V, 18446744073709551604, 0)
        | some V' => (V', 0, 0)
def PutT (base tb : Nat) (S : Tabs) (i : Int) (ks vs : List Int) (flags : Int) (w : World) (e : Ending) (w' : World) : Prop :=
  e = .returned (.tuple #[.int .u64 (tput (tview S) i ks vs flags).2.1, .int .i64 (tput (tview S) i ks vs flags).2.2]) ∧ Keep (tfoot tb S) w w' ∧ ∃ S', TabAt w' base tb S' ∧ tview S' = (tput (tview S) i ks vs flags).1 ∧ (∀ j ∈ tfoot tb S', j ∈ tfoot tb S ∨ w.heap.size ≤ j) ∧ S'.b = S.b
/-- Nothing has turned. -/
theorem put_same {base tb : Nat} {S : Tabs} {i : Int} {ks vs : List Int} {flags a b : Int} {w w' : World} (h : TabAt w base tb S) (he : Ext w w') (e : tput (tview S) i ks vs flags = (tview S, a, b)) : PutT base tb S i ks vs flags w (.returned (.tuple #[.int .u64 a, .int .i64 b])) w' :=
  ⟨by rw [e], Keep.of_ext he, S, h.ext he, by rw [e], fun j hj => .inl hj, rfl⟩
set_option maxRecDepth 20000 in
set_option maxHeartbeats 8000000 in
theorem tab_put (base tb : Nat) (S : Tabs) (i : Int) (kv vv : Value) (ks vs : List Int) (flags : Int) (w : World) (h : TabAt w base tb S) (hk : Sl w .u8 kv ks) (hv : Sl w .u8 vv vs) (hu : ∀ q ∈ vs, 0 ≤ q ∧ q ≤ 255) (hf0 : 0 ≤ flags) (HF : Hid (flags ≤ 18446744073709551615)) (HST : Hid (∀ w', Keep (tfoot tb S) w w' → Sl w' .u8 vv vs)) :
    Calls Try.prog 25 #[.pointer (some ⟨tb, 0, none⟩), .int .i64 i, kv, vv, .int .u64 flags] w (PutT base tb S i ks vs flags w) := by
  have HT := Lib.hid h
  obtain ⟨ka, kn, kc, rfl, hkn, hKN⟩ := hk.val
  obtain ⟨va, vn, vc, rfl, hvn, hVN⟩ := hv.val
  have HK := Lib.hid hk
  have HV := Lib.hid hv
  have HU := Lib.hid hu
  clear h hk hv hu
  go_enter Try.func25, Try.ntmps25
  go_wp2_with fail
  refine (tab_find base tb S i _ ks _ HT.out HK.out).mono ?_
  intro e w1 hf
  obtain ⟨he, ⟨hn, rfl⟩ | ⟨x, hp, hx, hm, h0, hl, hg, rfl⟩⟩ := hf.cases
  · have HN := Lib.hid hn
    clear hn hf
    go_wp2_with fail
    go_returns
    exact put_same HT.out he (by simp only [tput, tview, HN.out])
  · have HX := Lib.hid hx
    have HG := Lib.hid hg
    have HM := Lib.hid hm
    have HP := Lib.hid hp
    have hT1 := HT.out.ext he
    have k0 := cell_obj (i := 0) (hT1.ones x hm)
    have k2 := cell_obj (i := 2) (hT1.ones x hm)
    have k3 := cell_obj (i := 3) (hT1.ones x hm)
    have k4 := cell_obj (i := 4) (hT1.ones x hm)
    simp only [TRec.cells, List.getElem?_toArray, List.getElem?_cons_zero, List.getElem?_cons_succ] at k0 k2 k3 k4
    have hfew := HT.out.few
    have HMD := Lib.hid (HT.out.made x hm)
    have HT1 := Lib.hid hT1
    clear hp hx hg hf hm hT1
    by_cases hval : (vn : Int) = x.T.val
    case neg =>
      have HVAL : Hid ((vs.length : Int) ≠ x.T.val) := Lib.hid (by have := hVN.out; omega)
      have d1 : ((vn : Int) != x.T.val) = true := by simpa using hval
      clear hval
      go_wp2_with fail
      go_returns
      exact put_same HT.out he (by simp only [tput, tview, HX.out]; rw [if_pos HVAL.out])
    have HVAL : Hid (¬ (vs.length : Int) ≠ x.T.val) := Lib.hid (by have := hVN.out; omega)
    have d1 : ((vn : Int) != x.T.val) = false := by simpa using hval
    clear hval
    by_cases hfl : 2 < flags
    · have HFL := Lib.hid hfl
      go_wp2_with fail
      refine (tab_refused 22 _ (by decide) (by decide)).mono ?_
      rintro e w2 ⟨rfl, rfl⟩
      go_wp2_with fail
      go_returns
      exact put_same HT.out he (by simp only [tput, tview, HX.out]; rw [if_neg HVAL.out, if_pos HFL.out])
    have HFL := Lib.hid hfl
    have d2 : decide (2 < flags) = false := by simpa using hfl
    clear hfl
    cases hlk : x.T.slots.lookup (strOfNums ks) with
    | some n =>
      have HLK := Lib.hid hlk
      have hn := HMD.out.2 _ (lookup_mem' hlk)
      simp only at hn
      clear hlk
      simp only [Option.getD_some, Option.isSome_some]
      by_cases h1 : flags = 1
      · subst h1
        go_wp2_with fail
        refine (tab_refused 17 _ (by decide) (by decide)).mono ?_
        rintro e w2 ⟨rfl, rfl⟩
        go_wp2_with fail
        go_returns
        exact put_same HT.out he (by simp only [tput, tview, HX.out]; rw [if_neg HVAL.out, if_neg (show ¬ (2 : Int) < _ by have := HFL.out; omega)]; simp only [HLK.out, if_true])
      · have d3 : (flags == 1) = false := by simpa using h1
        have H1 := Lib.hid h1
        clear h1
        go_wp2_with fail
        have hput : tput (tview S) i ks vs flags = ((mputs (view S.L) (tarea i n) vs vs.length, (tview S).2), 0, 0) := by
          simp only [tput, tview, HX.out]
          rw [if_neg HVAL.out, if_neg (show ¬ (2 : Int) < _ by have := HFL.out; omega)]
          simp only [HLK.out]
          rw [if_neg H1.out]
        have HPUT := Lib.hid hput
        clear hput
        go_loopw [59] (fun t wr => ∃ (j : Nat) (Lj : List Rec), j ≤ vn ∧ t = .int .i64 j ∧ TabAt wr base tb { S with L := Lj } ∧ view Lj = mputs (view S.L) (tarea i n) vs j ∧ Keep (foot S.b S.r S.L) w1 wr ∧ foot S.b S.r Lj = foot S.b S.r S.L) (fun t _ => vn - (intOf t).toNat)
        case atStart => exact ⟨0, S.L, Nat.zero_le _, rfl, HT1.out, rfl, Keep.rfl' _ _, rfl⟩
        case round =>
          obtain ⟨j, Lj, hj, rfl, hTj, hVj, hKj, hFj⟩ := hrel
          have HTj := Lib.hid hTj
          have HVj := Lib.hid hVj
          have HKj := Lib.hid hKj
          have HFj := Lib.hid hFj
          clear hTj hVj hKj hFj k0 k2 k3 k4
          by_cases hlt : (j : Int) < vn
          · have hsl := HST.out wr ((Keep.of_ext he).trans (HKj.out.mono fun q hq => .inl (foot_sub tb S q hq)))
            obtain ⟨v, hv⟩ := at_of_lt (xs := vs) (k := j) (by have := hVN.out; omega)
            have iv := fun W => HV.out.run_at (P := Try.prog) el_u8.under el_u8.size .i64 (j : Int) (by omega) (by omega) W
            have cv := hsl.cell hv (j := 0) rfl
            simp only [Nat.mul_one, Nat.add_zero, Int.toNat_natCast] at iv cv
            have hvr := HU.out v (List.mem_of_getElem? hv)
            have hv0 := hvr.1
            have hv1 := hvr.2
            have hwv : IntKind.u64.wrap v = v := by rw [IntKind.wrap_u64]; omega
            have HVD : Hid (vs.getD j 0 = v) := Lib.hid (by rw [List.getD_eq_getElem?_getD, hv]; rfl)
            have cb := cell_obj (i := 0) HTj.out.head
            simp only [List.getElem?_toArray, List.getElem?_cons_zero] at cb
            have HS : Hid (∀ w5 : World, Keep (foot S.b S.r Lj) wr w5 → w5.cell? ⟨tb, 0, none⟩ = some (.pointer (some ⟨S.b, 0, none⟩))) := Lib.hid fun w5 k => by
              have n0 := List.nodup_cons.1 HTj.out.apart
              exact cell_obj (k.obj HTj.out.head (fun hj => n0.1 (List.mem_append_right _ (List.mem_append_right _ hj))))
            clear hsl hv hvr
            go_wp2_with fail
            go_region_held3 (fun w' => w'.cell? ⟨tb, 0, none⟩ = some (.pointer (some ⟨S.b, 0, none⟩)))
              (first | exact cb | exact s5)
              ((first
                | (go_at_call 20; refine (tab_area i n _ h0 (by omega) (by omega) (by omega)).mono ?_; rintro e w2 ⟨rfl, rfl⟩)
                | (go_at_call 26; refine (mem_at (tarea i n) j _).mono ?_; rintro e w3 ⟨rfl, rfl⟩)
                | (go_at_call 29; (try rw [hwv]); refine (mem_store S.b S.r Lj (mat (tarea i n) j) 1 v _ (HTj.out.mem.ext (by (repeat (first | exact Ext.rfl' _ | assumption | refine Ext.drewN' ?_ _ | refine Ext.drew' ?_ | refine Ext.alloc' ?_ _ | refine Ext.trans' ?_ (by assumption))))) (mat_le _ _).1 (Lib.hid (mat_le _ _).2) hv0).mono ?_; rintro e w5 ⟨rfl, hk5, L5, hm5, hv5, hf5⟩; have hk5' : Keep (foot S.b S.r Lj) wr w5 := ⟨hk5.os, hk5.tape, hk5.output, hk5.size, hk5.block⟩; have s5 := HS.out w5 hk5'; have HM5 := Lib.hid hm5; have HV5 := Lib.hid hv5; have HF5 := Lib.hid hf5; have HK5 := Lib.hid hk5'; clear hk5 hk5' hm5 hv5 hf5)))
            all_goals
              have hst := HTj.out.memStep HK5.out HM5.out (fun q hq => .inl (by rw [HF5.out] at hq; exact hq))
              have HT5 := Lib.hid hst.1
              clear hst
              go_wp2_with fail
              go_roundw
              case rel =>
                refine ⟨j + 1, L5, by omega, by go_num, HT5.out, by rw [HV5.out, HVj.out, mputs, HVD.out], HKj.out.trans (HK5.out.mono fun q hq => .inl (by rw [HFj.out] at hq; exact hq)), by rw [HF5.out, HFj.out]⟩
              case measure => simp [intOf]; omega
          · have hjn : j = vs.length := by have := hVN.out; omega
            have HJN := Lib.hid hjn
            clear hjn
            go_wp2_with fail
            go_returns
            refine ⟨by rw [HPUT.out]; rfl, (Keep.of_ext he).trans (HKj.out.mono fun q hq => .inl (foot_sub tb S q hq)), _, HTj.out, by rw [HPUT.out]; simp only [tview, HVj.out, HJN.out], fun q hq => .inl ?_, rfl⟩
            simp only [tfoot, HFj.out] at hq
            exact hq
    | none =>
      have HLK := Lib.hid hlk
      clear hlk
      simp only [Option.getD_none, Option.isSome_none]
      cases hh : x.T.hash with
      | false =>
        have HH := Lib.hid hh
        rw [hh] at k0
        clear hh
        go_wp2_with fail
        refine (tab_refused 7 _ (by decide) (by decide)).mono ?_
        rintro e w2 ⟨rfl, rfl⟩
        go_wp2_with fail
        go_returns
        exact put_same HT.out he (by simp only [tput, tview, HX.out]; rw [if_neg HVAL.out, if_neg (show ¬ (2 : Int) < _ by have := HFL.out; omega)]; simp only [HLK.out, HH.out, if_true])
      | true =>
        have HH := Lib.hid hh
        rw [hh] at k0
        clear hh
        by_cases h2 : flags = 2
        · subst h2
          go_wp2_with fail
          refine (tab_refused 2 _ (by decide) (by decide)).mono ?_
          rintro e w2 ⟨rfl, rfl⟩
          go_wp2_with fail
          go_returns
          exact put_same HT.out he (by simp only [tput, tview, HX.out]; rw [if_neg HVAL.out, if_neg (show ¬ (2 : Int) < _ by have := HFL.out; omega)]; simp only [HLK.out, HH.out, Bool.true_eq_false, if_false, if_true])
        · have d3 : (flags == 2) = false := by simpa using h2
          have H2 := Lib.hid h2
          clear h2
          have hlen := run_len_map (P := Try.prog) (ty := 3) Try.underlying77 ((HT1.out.slots x HM.out).ext (Ext.drew' (Ext.rfl' w1)))
          have hes' : x.T.strs.length = x.T.slots.length := by simp [TM.strs]
          rw [hes'] at hlen
          clear hes'
          by_cases hfull : x.T.max ≤ (x.T.slots.length : Int)
          · have HFULL := Lib.hid hfull
            go_wp2_with fail
            go_region
            go_wp2_with fail
            refine (tab_refused 7 _ (by decide) (by decide)).mono ?_
            rintro e w2 ⟨rfl, rfl⟩
            go_wp2_with fail
            go_returns
            exact put_same HT.out (by (repeat (first | exact Ext.rfl' _ | assumption | refine Ext.drewN' ?_ _ | refine Ext.drew' ?_ | refine Ext.alloc' ?_ _ | refine Ext.trans' ?_ (by assumption)))) (by simp only [tput, tview, HX.out]; rw [if_neg HVAL.out, if_neg (show ¬ (2 : Int) < _ by have := HFL.out; omega)]; simp only [HLK.out, HH.out, Bool.true_eq_false, if_false]; rw [if_neg H2.out, if_pos HFULL.out])
          · have HFULL := Lib.hid hfull
            have d4 : decide (x.T.max ≤ (x.T.slots.length : Int)) = false := by simpa using hfull
            clear hfull
            go_wp2_with fail
            go_region
            have st := (HK.out.ext he.drew').run_str (P := Try.prog) Try.underlying40 Try.underlying5 Try.underlying9
            go_wp2_with fail
            refine (tab_slot base tb S i (strOfNums ks) _ vs x _ (HT1.out.ext (Ext.drew' (Ext.rfl' w1))) ((HV.out.ext he).ext (Ext.drew' (Ext.rfl' w1))) HU.out HP.out HLK.out).mono ?_
            rintro e w2 ⟨rfl, hk2, S2, hT2, hv2, hf2, hb2, -⟩
            have HB2 := Lib.hid hb2
            have HT2 := Lib.hid hT2
            have HV2 := Lib.hid hv2
            have HF2 := Lib.hid hf2
            have hk3 : Keep (tfoot tb S) w w2 := (Keep.of_ext he).trans ⟨hk2.os, hk2.tape, hk2.output, hk2.size, hk2.block⟩
            have hsz := he.size
            clear hT2 hv2 hf2 hk2 hb2
            have hput : tput (tview S) i ks vs flags = match tslot (tview S) i (strOfNums ks) vs with | none => (tview S, 18446744073709551604, 0) | some V' => (V', 0, 0) := by
              simp only [tput, tview, HX.out]
              rw [if_neg HVAL.out, if_neg (show ¬ (2 : Int) < _ by have := HFL.out; omega)]
              simp only [HLK.out, HH.out, Bool.true_eq_false, if_false]
              rw [if_neg H2.out, if_neg (by have := HFULL.out; omega)]
            have HPUT := Lib.hid hput
            have HFR : Hid (∀ j ∈ tfoot tb S2, j ∈ tfoot tb S ∨ w.heap.size ≤ j) := Lib.hid fun j hj => (HF2.out j hj).imp id (fun h => by simp at h; omega)
            clear hput
            cases hs : tslot (tview S) i (strOfNums ks) vs with
            | none =>
              have HSL := Lib.hid hs
              clear hs
              go_wp2_with fail
              refine (tab_refused 12 _ (by decide) (by decide)).mono ?_
              rintro e w3 ⟨rfl, rfl⟩
              go_wp2_with fail
              go_returns
              exact ⟨by rw [HPUT.out, HSL.out]; rfl, hk3, S2, HT2.out, by rw [HV2.out, HPUT.out, HSL.out]; rfl, HFR.out, HB2.out⟩
            | some V' =>
              have HSL := Lib.hid hs
              clear hs
              go_wp2_with fail
              go_returns
              exact ⟨by rw [HPUT.out, HSL.out]; rfl, hk3, S2, HT2.out, by rw [HV2.out, HPUT.out, HSL.out]; rfl, HFR.out, HB2.out⟩
end Go.Proofs.Ytjimmbcihcmfoaa
