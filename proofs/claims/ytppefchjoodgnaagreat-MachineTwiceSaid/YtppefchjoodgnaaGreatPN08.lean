/- What the claim leans on: TabD · TabE · RTG · RTB. -/
import Derived.Test.YtppefchjoodgnaaGreatPN07
namespace Go.Proofs.YtppefchjoodgnaaGreat
open Go.RowKit
set_option linter.unusedVariables false
set_option linter.unusedSimpArgs false
def mputs (M : Areas) (a : Int) (vs : List Int) : Nat → Areas
 | 0 => M
 | k + 1 => (mstore (mputs M a vs k) (mat a k) 1 (vs.getD k 0)).1
def tput (V : Areas × List TM) (i : Int) (ks vs : List Int) (flags : Int) : (Areas × List TM) × Int × Int :=
 match tfind V.2 i ks.length with
 | none => (V, 0, 1)
 | some t =>
  if (vs.length : Int) ≠ t.val then (V, 0, 1)
  else if 2 < flags then (V, 18446744073709551594, 0)
  else match t.slots.lookup (strOfNums ks) with
   | some n => if flags = 1 then (V, 18446744073709551599, 0) else ((mputs V.1 (tarea i n) vs vs.length, V.2), 0, 0)
   | none => if t.hash = false then (V, 18446744073709551609, 0) else if flags = 2 then (V, 18446744073709551614, 0) else if t.max ≤ t.slots.length then (V, 18446744073709551609, 0) else
    match tslot V i (strOfNums ks) vs with
    | none => (V, 18446744073709551604, 0)
    | some V' => (V', 0, 0)
def PutT (base tb : Nat) (S : Tabs) (i : Int) (ks vs : List Int) (flags : Int) (w : World) (e : Ending) (w' : World) : Prop :=
 e = .returned (.tuple #[.int .u64 (tput (tview S) i ks vs flags).2.1, .int .i64 (tput (tview S) i ks vs flags).2.2]) ∧ Keep (tfoot tb S) w w' ∧ ∃ S', TabAt w' base tb S' ∧ tview S' = (tput (tview S) i ks vs flags).1 ∧ (∀ j ∈ tfoot tb S', j ∈ tfoot tb S ∨ w.heap.size ≤ j) ∧ S'.b = S.b
theorem put_same {base tb : Nat} {S : Tabs} {i : Int} {ks vs : List Int} {flags a b : Int} {w w' : World} (h : TabAt w base tb S) (he : Ext w w') (e : tput (tview S) i ks vs flags = (tview S, a, b)) : PutT base tb S i ks vs flags w (.returned (.tuple #[.int .u64 a, .int .i64 b])) w' :=
 ⟨by rw [e], Keep.of_ext he, S, h.ext he, by rw [e], fun j hj => .inl hj, rfl⟩
set_option maxRecDepth 20000 in
set_option maxHeartbeats 8000000 in
theorem tab_put (base tb : Nat) (S : Tabs) (i : Int) (kv vv : Value) (ks vs : List Int) (flags : Int) (w : World) (h : TabAt w base tb S) (hk : Sl w .u8 kv ks) (hv : Sl w .u8 vv vs) (hu : ∀ q ∈ vs, 0 ≤ q ∧ q ≤ 255) (hf0 : 0 ≤ flags) (HF : Hid (flags ≤ 18446744073709551615)) (HST : Hid (∀ w', Keep (tfoot tb S) w w' → Sl w' .u8 vv vs)) :
  Calls Tryz.prog 54 #[.pointer (some ⟨tb, 0, none⟩), .int .i64 i, kv, vv, .int .u64 flags] w (PutT base tb S i ks vs flags w) := by
 have HT := η h
 obtain ⟨ka, kn, kc, rfl, hkn, hKN⟩ := hk.val
 obtain ⟨va, vn, vc, rfl, hvn, hVN⟩ := hv.val
 have HK := η hk
 have HV := η hv
 have HU := η hu
 clear h hk hv hu
 go_enter Tryz.func54, Tryz.ntmps54
 go_wp2_with fail
 refine (tab_find base tb S i _ ks _ HT.out HK.out).mono ?_
 intro e w1 hf
 obtain ⟨he, ⟨hn, rfl⟩ | ⟨x, hp, hx, hm, h0, hl, hg, rfl⟩⟩ := hf.cases
 ·have HN := η hn
  clear hn hf
  go_wp2_with fail
  go_returns
  exact put_same HT.out he (by simp only [tput, tview, HN.out])
 ·have HX := η hx
  have HG := η hg
  have HM := η hm
  have HP := η hp
  have hT1 := HT.out.ext he
  have k0 := cO (i := 0) (hT1.ones x hm)
  have k2 := cO (i := 2) (hT1.ones x hm)
  have k3 := cO (i := 3) (hT1.ones x hm)
  have k4 := cO (i := 4) (hT1.ones x hm)
  simp only [TRec.cells, gA, gB, gC] at k0 k2 k3 k4
  have hfew := HT.out.few
  have HMD := η (HT.out.made x hm)
  have HT1 := η hT1
  clear hp hx hg hf hm hT1
  by_cases hval : (vn : Int) = x.T.val
  case neg =>
   have HVAL : Hid ((vs.length : Int) ≠ x.T.val) := η (by have := hVN.out; omega)
   have d1 : ((vn : Int) != x.T.val) = true := by simpa using hval
   clear hval
   go_wp2_with fail
   go_returns
   exact put_same HT.out he (by simp only [tput, tview, HX.out]; rw [if_pos HVAL.out])
  have HVAL : Hid (¬ (vs.length : Int) ≠ x.T.val) := η (by have := hVN.out; omega)
  have d1 : ((vn : Int) != x.T.val) = false := by simpa using hval
  clear hval
  by_cases hfl : 2 < flags
  ·have HFL := η hfl
   go_wp2_with fail
   refine (tab_refused 22 _ (by decide) (by decide)).mono ?_
   rintro e w2 ⟨rfl, rfl⟩
   go_wp2_with fail
   go_returns
   exact put_same HT.out he (by simp only [tput, tview, HX.out]; rw [if_neg HVAL.out, if_pos HFL.out])
  have HFL := η hfl
  have d2 : decide (2 < flags) = false := by simpa using hfl
  clear hfl
  cases hlk : x.T.slots.lookup (strOfNums ks) with
  | some n =>
   have HLK := η hlk
   have hn := HMD.out.2 _ (lookup_mem' hlk)
   simp only at hn
   clear hlk
   simp only [Option.getD_some, Option.isSome_some]
   by_cases h1 : flags = 1
   ·subst h1
    go_wp2_with fail
    refine (tab_refused 17 _ (by decide) (by decide)).mono ?_
    rintro e w2 ⟨rfl, rfl⟩
    go_wp2_with fail
    go_returns
    exact put_same HT.out he (by simp only [tput, tview, HX.out]; rw [if_neg HVAL.out, if_neg (show ¬ (2 : Int) < _ by have := HFL.out; omega)]; simp only [HLK.out, if_true])
   ·have d3 : (flags == 1) = false := by simpa using h1
    have H1 := η h1
    clear h1
    go_wp2_with fail
    have hput : tput (tview S) i ks vs flags = ((mputs (view S.L) (tarea i n) vs vs.length, (tview S).2), 0, 0) := by
     simp only [tput, tview, HX.out]
     rw [if_neg HVAL.out, if_neg (show ¬ (2 : Int) < _ by have := HFL.out; omega)]
     simp only [HLK.out]
     rw [if_neg H1.out]
    have HPUT := η hput
    clear hput
    go_loopw [59] (fun t wr => ∃ (j : Nat) (Lj : List Rec), j ≤ vn ∧ t = .int .i64 j ∧ TabAt wr base tb { S with L := Lj } ∧ view Lj = mputs (view S.L) (tarea i n) vs j ∧ Keep (foot S.b S.r S.L) w1 wr ∧ foot S.b S.r Lj = foot S.b S.r S.L) (fun t _ => vn - (intOf t).toNat)
    case atStart => exact ⟨0, S.L, Nat.zero_le _, rfl, HT1.out, rfl, Keep.rfl' _ _, rfl⟩
    case round =>
     obtain ⟨j, Lj, hj, rfl, hTj, hVj, hKj, hFj⟩ := hrel
     have HTj := η hTj
     have HVj := η hVj
     have HKj := η hKj
     have HFj := η hFj
     clear hTj hVj hKj hFj k0 k2 k3 k4
     by_cases hlt : (j : Int) < vn
     ·have hsl := HST.out wr ((Keep.of_ext he).trans (HKj.out.mono fun q hq => .inl (foot_sub tb S q hq)))
      obtain ⟨v, hv⟩ := at_of_lt (xs := vs) (k := j) (by have := hVN.out; omega)
      have iv := fun W => HV.out.run_at (P := Tryz.prog) el_u8.under el_u8.size .i64 (j : Int) (by omega) (by omega) W
      have cv := hsl.cell hv (j := 0) rfl
      simp only [Nat.mul_one, Nat.add_zero, Int.toNat_natCast] at iv cv
      have hvr := HU.out v (List.mem_of_getElem? hv)
      have hv0 := hvr.1
      have hv1 := hvr.2
      have hwv : IntKind.u64.wrap v = v := by rw [IntKind.wrap_u64]; omega
      have HVD : Hid (vs.getD j 0 = v) := η (by rw [List.getD_eq_getElem?_getD, hv]; rfl)
      have cb := cO (i := 0) HTj.out.head
      simp only [List.getElem?_toArray, List.getElem?_cons_zero] at cb
      have HS : Hid (∀ w5 : World, Keep (foot S.b S.r Lj) wr w5 → w5.cell? ⟨tb, 0, none⟩ = some (.pointer (some ⟨S.b, 0, none⟩))) := η fun w5 k => by
       have n0 := List.nodup_cons.1 HTj.out.apart
       exact cO (k.obj HTj.out.head (fun hj => n0.1 (List.mem_append_right _ (List.mem_append_right _ hj))))
      clear hsl hv hvr
      go_wp2_with fail
      go_region_held3 (fun w' => w'.cell? ⟨tb, 0, none⟩ = some (.pointer (some ⟨S.b, 0, none⟩)))
       (first | exact cb | exact s5)
       ((first
        | (go_at_call 90; refine (tab_area i n _ h0 (by omega) (by omega) (by omega)).mono ?_; rintro e w2 ⟨rfl, rfl⟩)
        | (go_at_call 29; refine (mem_at (tarea i n) j _).mono ?_; rintro e w3 ⟨rfl, rfl⟩)
        | (go_at_call 89; (try rw [hwv]); refine (mem_store S.b S.r Lj (mat (tarea i n) j) 1 v _ (HTj.out.mem.ext (by (repeat (first|exact xE0 _|assumption|refine xE1 ?_ _|refine xE2 ?_|refine xE3 ?_ _|refine xE4 ?_ (by assumption))))) (mat_le _ _).1 (η (mat_le _ _).2) hv0).mono ?_; rintro e w5 ⟨rfl, hk5, L5, hm5, hv5, hf5⟩; have hk5' : Keep (foot S.b S.r Lj) wr w5 := ⟨hk5.os, hk5.tape, hk5.output, hk5.size, hk5.block⟩; have s5 := HS.out w5 hk5'; have HM5 := η hm5; have HV5 := η hv5; have HF5 := η hf5; have HK5 := η hk5'; clear hk5 hk5' hm5 hv5 hf5)))
      all_goals
       have hst := HTj.out.memStep HK5.out HM5.out (fun q hq => .inl (by rw [HF5.out] at hq; exact hq))
       have HT5 := η hst.1
       clear hst
       go_wp2_with fail
       go_roundw
       case rel =>
        refine ⟨j + 1, L5, by omega, by go_num, HT5.out, by rw [HV5.out, HVj.out, mputs, HVD.out], HKj.out.trans (HK5.out.mono fun q hq => .inl (by rw [HFj.out] at hq; exact hq)), by rw [HF5.out, HFj.out]⟩
       case measure => simp [intOf]; omega
     ·have hjn : j = vs.length := by have := hVN.out; omega
      have HJN := η hjn
      clear hjn
      go_wp2_with fail
      go_returns
      refine ⟨by rw [HPUT.out]; rfl, (Keep.of_ext he).trans (HKj.out.mono fun q hq => .inl (foot_sub tb S q hq)), _, HTj.out, by rw [HPUT.out]; simp only [tview, HVj.out, HJN.out], fun q hq => .inl ?_, rfl⟩
      simp only [tfoot, HFj.out] at hq
      exact hq
  | none =>
   have HLK := η hlk
   clear hlk
   simp only [Option.getD_none, Option.isSome_none]
   cases hh : x.T.hash with
   | false =>
    have HH := η hh
    rw [hh] at k0
    clear hh
    go_wp2_with fail
    refine (tab_refused 7 _ (by decide) (by decide)).mono ?_
    rintro e w2 ⟨rfl, rfl⟩
    go_wp2_with fail
    go_returns
    exact put_same HT.out he (by simp only [tput, tview, HX.out]; rw [if_neg HVAL.out, if_neg (show ¬ (2 : Int) < _ by have := HFL.out; omega)]; simp only [HLK.out, HH.out, if_true])
   | true =>
    have HH := η hh
    rw [hh] at k0
    clear hh
    by_cases h2 : flags = 2
    ·subst h2
     go_wp2_with fail
     refine (tab_refused 2 _ (by decide) (by decide)).mono ?_
     rintro e w2 ⟨rfl, rfl⟩
     go_wp2_with fail
     go_returns
     exact put_same HT.out he (by simp only [tput, tview, HX.out]; rw [if_neg HVAL.out, if_neg (show ¬ (2 : Int) < _ by have := HFL.out; omega)]; simp only [HLK.out, HH.out, Bool.true_eq_false, if_false, if_true])
    ·have d3 : (flags == 2) = false := by simpa using h2
     have H2 := η h2
     clear h2
     have hlen := run_len_map (P := Tryz.prog) (ty := 3) Tryz.underlying156 ((HT1.out.slots x HM.out).ext (Ext.drew' (Ext.rfl' w1)))
     have hes' : x.T.strs.length = x.T.slots.length := by simp [TM.strs]
     rw [hes'] at hlen
     clear hes'
     by_cases hfull : x.T.max ≤ (x.T.slots.length : Int)
     ·have HFULL := η hfull
      go_wp2_with fail
      go_region
      go_wp2_with fail
      refine (tab_refused 7 _ (by decide) (by decide)).mono ?_
      rintro e w2 ⟨rfl, rfl⟩
      go_wp2_with fail
      go_returns
      exact put_same HT.out (by (repeat (first|exact xE0 _|assumption|refine xE1 ?_ _|refine xE2 ?_|refine xE3 ?_ _|refine xE4 ?_ (by assumption)))) (by simp only [tput, tview, HX.out]; rw [if_neg HVAL.out, if_neg (show ¬ (2 : Int) < _ by have := HFL.out; omega)]; simp only [HLK.out, HH.out, Bool.true_eq_false, if_false]; rw [if_neg H2.out, if_pos HFULL.out])
     ·have HFULL := η hfull
      have d4 : decide (x.T.max ≤ (x.T.slots.length : Int)) = false := by simpa using hfull
      clear hfull
      go_wp2_with fail
      go_region
      have st := (HK.out.ext he.drew').run_str (P := Tryz.prog) Tryz.underlying23 Tryz.underlying5 Tryz.underlying9
      go_wp2_with fail
      refine (tab_slot base tb S i (strOfNums ks) _ vs x _ (HT1.out.ext (Ext.drew' (Ext.rfl' w1))) ((HV.out.ext he).ext (Ext.drew' (Ext.rfl' w1))) HU.out HP.out HLK.out).mono ?_
      rintro e w2 ⟨rfl, hk2, S2, hT2, hv2, hf2, hb2, -⟩
      have HB2 := η hb2
      have HT2 := η hT2
      have HV2 := η hv2
      have HF2 := η hf2
      have hk3 : Keep (tfoot tb S) w w2 := (Keep.of_ext he).trans ⟨hk2.os, hk2.tape, hk2.output, hk2.size, hk2.block⟩
      have hsz := he.size
      clear hT2 hv2 hf2 hk2 hb2
      have hput : tput (tview S) i ks vs flags = match tslot (tview S) i (strOfNums ks) vs with | none => (tview S, 18446744073709551604, 0) | some V' => (V', 0, 0) := by
       simp only [tput, tview, HX.out]
       rw [if_neg HVAL.out, if_neg (show ¬ (2 : Int) < _ by have := HFL.out; omega)]
       simp only [HLK.out, HH.out, Bool.true_eq_false, if_false]
       rw [if_neg H2.out, if_neg (by have := HFULL.out; omega)]
      have HPUT := η hput
      have HFR : Hid (∀ j ∈ tfoot tb S2, j ∈ tfoot tb S ∨ w.heap.size ≤ j) := η fun j hj => (HF2.out j hj).imp id (fun h => by simp at h; omega)
      clear hput
      cases hs : tslot (tview S) i (strOfNums ks) vs with
      | none =>
       have HSL := η hs
       clear hs
       go_wp2_with fail
       refine (tab_refused 12 _ (by decide) (by decide)).mono ?_
       rintro e w3 ⟨rfl, rfl⟩
       go_wp2_with fail
       go_returns
       exact ⟨by rw [HPUT.out, HSL.out]; rfl, hk3, S2, HT2.out, by rw [HV2.out, HPUT.out, HSL.out]; rfl, HFR.out, HB2.out⟩
      | some V' =>
       have HSL := η hs
       clear hs
       go_wp2_with fail
       go_returns
       exact ⟨by rw [HPUT.out, HSL.out]; rfl, hk3, S2, HT2.out, by rw [HV2.out, HPUT.out, HSL.out]; rfl, HFR.out, HB2.out⟩
structure TDef where
 hash : Bool
 key : Int
 val : Int
 max : Int
def TDef.enc (d : TDef) : List Value := [.bool d.hash, .int .i64 d.key, .int .i64 d.val, .int .i64 d.max]
theorem enc_def : Enc 4 TDef.enc := ⟨fun _ => rfl, fun x u hu => by
 simp only [TDef.enc, List.mem_cons, List.not_mem_nil, or_false] at hu
 rcases hu with rfl | rfl | rfl | rfl <;> rfl⟩
theorem el_def : El Tryz.prog 24 102 4 32 (.agg #[.bool false, .int .i64 0, .int .i64 0, .int .i64 0]) := ⟨Tryz.underlying24, by kernel_rfl, rfl, by decide, fun _ => by kernel_rfl⟩
def mayD (d : TDef) : Bool := (if d.hash then decide (1 ≤ d.key) && decide (d.key ≤ 16) else d.key == 4) && decide (8 ≤ d.val) && decide (d.val ≤ 64) && d.val % 8 == 0 && decide (1 ≤ d.max) && decide (d.max ≤ 16)
def TDef.agg (d : TDef) : Value := .agg #[.bool d.hash, .int .i64 d.key, .int .i64 d.val, .int .i64 d.max]
def BoolAns (b : Bool) (w : World) (e : Ending) (w' : World) : Prop := e = .returned (.bool b) ∧ Ext w w'
set_option maxHeartbeats 2000000 in
theorem tab_may (d : TDef) (w : World) : Calls Tryz.prog 123 #[.agg #[.bool d.hash, .int .i64 d.key, .int .i64 d.val, .int .i64 d.max]] w (BoolAns (mayD d) w) := by
 obtain ⟨h, k, v, m⟩ := d
 simp only
 cases h with
 | false =>
  cases hk : (k == 4) with
  | false =>
   have HK := η hk
   go_enter Tryz.func123, Tryz.ntmps123
   go_wp2_with fail
   go_returns
   exact ⟨ret_bool (by simp [mayD, HK.out]), by (repeat (first|exact xE0 _|assumption|refine xE1 ?_ _|refine xE2 ?_|refine xE3 ?_ _|refine xE4 ?_ (by assumption)))⟩
  | true =>
   have HK := η hk
   by_cases h1 : 8 ≤ v
   case neg =>
    go_enter Tryz.func123, Tryz.ntmps123
    go_wp2_with fail
    go_returns
    exact ⟨ret_bool (by have : decide (8 ≤ v) = false := by simpa using h1
                        simp [mayD, this]), by (repeat (first|exact xE0 _|assumption|refine xE1 ?_ _|refine xE2 ?_|refine xE3 ?_ _|refine xE4 ?_ (by assumption)))⟩
   by_cases h2 : v ≤ 64
   case neg =>
    go_enter Tryz.func123, Tryz.ntmps123
    go_wp2_with fail
    go_returns
    exact ⟨ret_bool (by have : decide (v ≤ 64) = false := by simpa using h2
                        simp [mayD, this]), by (repeat (first|exact xE0 _|assumption|refine xE1 ?_ _|refine xE2 ?_|refine xE3 ?_ _|refine xE4 ?_ (by assumption)))⟩
   cases h3 : (v % 8 == 0) with
   | false =>
    have H3 := η h3
    go_enter Tryz.func123, Tryz.ntmps123
    go_wp2_with fail
    go_returns
    exact ⟨ret_bool (by simp [mayD, H3.out]), by (repeat (first|exact xE0 _|assumption|refine xE1 ?_ _|refine xE2 ?_|refine xE3 ?_ _|refine xE4 ?_ (by assumption)))⟩
   | true =>
    have H3 := η h3
    by_cases h4 : 1 ≤ m
    case neg =>
     go_enter Tryz.func123, Tryz.ntmps123
     go_wp2_with fail
     go_returns
     exact ⟨ret_bool (by have : decide (1 ≤ m) = false := by simpa using h4
                         simp [mayD, this]), by (repeat (first|exact xE0 _|assumption|refine xE1 ?_ _|refine xE2 ?_|refine xE3 ?_ _|refine xE4 ?_ (by assumption)))⟩
    have D1 := η (show decide (8 ≤ v) = true by simpa using h1)
    have D2 := η (show decide (v ≤ 64) = true by simpa using h2)
    have D4 := η (show decide (1 ≤ m) = true by simpa using h4)
    go_enter Tryz.func123, Tryz.ntmps123
    go_wp2_with fail
    go_returns
    exact ⟨ret_bool (by simp [mayD, HK.out, H3.out, D1.out, D2.out, D4.out]), by (repeat (first|exact xE0 _|assumption|refine xE1 ?_ _|refine xE2 ?_|refine xE3 ?_ _|refine xE4 ?_ (by assumption)))⟩
 | true =>
  by_cases g1 : 1 ≤ k
  case neg =>
   go_enter Tryz.func123, Tryz.ntmps123
   go_wp2_with fail
   go_returns
   exact ⟨ret_bool (by have : decide (1 ≤ k) = false := by simpa using g1
                       simp [mayD, this]), by (repeat (first|exact xE0 _|assumption|refine xE1 ?_ _|refine xE2 ?_|refine xE3 ?_ _|refine xE4 ?_ (by assumption)))⟩
  by_cases g2 : k ≤ 16
  case neg =>
   go_enter Tryz.func123, Tryz.ntmps123
   go_wp2_with fail
   go_returns
   exact ⟨ret_bool (by have : decide (k ≤ 16) = false := by simpa using g2
                       simp [mayD, this]), by (repeat (first|exact xE0 _|assumption|refine xE1 ?_ _|refine xE2 ?_|refine xE3 ?_ _|refine xE4 ?_ (by assumption)))⟩
  have G1 := η (show decide (1 ≤ k) = true by simpa using g1)
  have G2 := η (show decide (k ≤ 16) = true by simpa using g2)
  by_cases h1 : 8 ≤ v
  case neg =>
   go_enter Tryz.func123, Tryz.ntmps123
   go_wp2_with fail
   go_returns
   exact ⟨ret_bool (by have : decide (8 ≤ v) = false := by simpa using h1
                       simp [mayD, this]), by (repeat (first|exact xE0 _|assumption|refine xE1 ?_ _|refine xE2 ?_|refine xE3 ?_ _|refine xE4 ?_ (by assumption)))⟩
  by_cases h2 : v ≤ 64
  case neg =>
   go_enter Tryz.func123, Tryz.ntmps123
   go_wp2_with fail
   go_returns
   exact ⟨ret_bool (by have : decide (v ≤ 64) = false := by simpa using h2
                       simp [mayD, this]), by (repeat (first|exact xE0 _|assumption|refine xE1 ?_ _|refine xE2 ?_|refine xE3 ?_ _|refine xE4 ?_ (by assumption)))⟩
  cases h3 : (v % 8 == 0) with
  | false =>
   have H3 := η h3
   go_enter Tryz.func123, Tryz.ntmps123
   go_wp2_with fail
   go_returns
   exact ⟨ret_bool (by simp [mayD, H3.out]), by (repeat (first|exact xE0 _|assumption|refine xE1 ?_ _|refine xE2 ?_|refine xE3 ?_ _|refine xE4 ?_ (by assumption)))⟩
  | true =>
   have H3 := η h3
   by_cases h4 : 1 ≤ m
   case neg =>
    go_enter Tryz.func123, Tryz.ntmps123
    go_wp2_with fail
    go_returns
    exact ⟨ret_bool (by have : decide (1 ≤ m) = false := by simpa using h4
                        simp [mayD, this]), by (repeat (first|exact xE0 _|assumption|refine xE1 ?_ _|refine xE2 ?_|refine xE3 ?_ _|refine xE4 ?_ (by assumption)))⟩
   have D1 := η (show decide (8 ≤ v) = true by simpa using h1)
   have D2 := η (show decide (v ≤ 64) = true by simpa using h2)
   have D4 := η (show decide (1 ≤ m) = true by simpa using h4)
   go_enter Tryz.func123, Tryz.ntmps123
   go_wp2_with fail
   go_returns
   exact ⟨ret_bool (by simp [mayD, G1.out, G2.out, H3.out, D1.out, D2.out, D4.out]), by (repeat (first|exact xE0 _|assumption|refine xE1 ?_ _|refine xE2 ?_|refine xE3 ?_ _|refine xE4 ?_ (by assumption)))⟩
theorem tab_may1 (d : TDef) (w : World) : Calls Tryz.prog 122 #[.agg #[.bool d.hash, .int .i64 d.key, .int .i64 d.val, .int .i64 d.max]] w (BoolAns (!mayD d) w) := by
 go_enter Tryz.func122, Tryz.ntmps122
 go_wp2_with fail
 refine (tab_may d _).mono ?_
 rintro e w2 ⟨rfl, he⟩
 have he' := (Ext.alloc' (Ext.rfl' w) _).trans' he
 go_wp2_with fail
 go_returns
 exact ⟨rfl, he'⟩
def IdxD (ds : List TDef) (w : World) (e : Ending) (w' : World) : Prop := ∃ i : Int, e = .returned (.int .i64 i) ∧ Ext w w' ∧ (decide (0 ≤ i) = !ds.all mayD)
theorem def_cells {w : World} {v : Value} {L : List TDef} (R : Rd w 4 TDef.enc v L) {i : Nat} {x : TDef} (hx : L[i]? = some x) :
  w.cell? (elt v (i * 4)) = some (.bool x.hash) ∧ w.cell? ⟨(elt v (i * 4)).block, (elt v (i * 4)).off + 1, none⟩ = some (.int .i64 x.key) ∧ w.cell? ⟨(elt v (i * 4)).block, (elt v (i * 4)).off + 2, none⟩ = some (.int .i64 x.val) ∧ w.cell? ⟨(elt v (i * 4)).block, (elt v (i * 4)).off + 3, none⟩ = some (.int .i64 x.max) := by
 have E := R.elt_add hx
 have F : ∀ (p : Addr) (j : Nat), j ≠ 0 → (⟨p.block, p.off + j, none⟩ : Addr) = p.add j := fun p j h => by simp [Addr.add, h]
 rw [F _ 1 (by decide), F _ 2 (by decide), F _ 3 (by decide), E, E, E]
 exact ⟨R.cell hx (j := 0) rfl, R.cell hx (j := 1) rfl, R.cell hx (j := 2) rfl, R.cell hx (j := 3) rfl⟩
set_option maxHeartbeats 1000000 in
theorem tab_index (dv : Value) (ds : List TDef) (w : World) (h : Rd w 4 TDef.enc dv ds) : Calls Tryz.prog 158 #[dv, .func (.func 122) #[] #[]] w (IdxD ds w) := by
 obtain ⟨a, n, c, rfl, hn, hN⟩ := h.val
 have HD := η h
 clear h
 go_enter Tryz.func158, Tryz.ntmps158
 go_wp2_with fail
 go_loopw [8] (fun i wr => ∃ j : Nat, j ≤ n ∧ i = .int .i64 j ∧ Ext w wr ∧ Hid (∀ (q : Nat) (y : TDef), q < j → ds[q]? = some y → mayD y = true)) (fun i _ => n - (intOf i).toNat)
 case atStart => exact ⟨0, Nat.zero_le _, rfl, Ext.rfl' _, η fun q y hq => absurd hq (Nat.not_lt_zero _)⟩
 case round =>
  obtain ⟨j, hj, rfl, hwr, HJ⟩ := hrel
  by_cases hlt : (j : Int) < n
  ·obtain ⟨x, hx⟩ := at_of_lt (xs := ds) (k := j) (by have := hN.out; omega)
   obtain ⟨c0, c1, c2, c3⟩ := def_cells (HD.out.ext hwr) hx
   have ix := fun W => HD.out.run_at (P := Tryz.prog) el_def.under el_def.size .i64 (j : Int) (by omega) (by omega) W
   simp only [Int.toNat_natCast] at ix
   have HX := η hx
   clear hx
   go_wp2_with fail
   refine (tab_may1 x _).mono ?_
   rintro e w2 ⟨rfl, he2⟩
   cases hm : mayD x with
   | true =>
    have HMX := η hm
    clear hm
    simp only [Bool.not_true]
    go_wp2_with fail
    go_roundw
    case rel =>
     refine ⟨j + 1, by omega, by go_num, hwr.trans' he2, η fun q y hq hy => ?_⟩
     rcases Nat.lt_succ_iff_lt_or_eq.1 hq with hq | rfl
     ·exact HJ.out q y hq hy
     ·rw [HX.out] at hy; injection hy with e; subst e; exact HMX.out
    case measure => simp [intOf]; omega
   | false =>
    have HMX := η hm
    clear hm
    simp only [Bool.not_false]
    go_wp2_with fail
    go_returns
    refine ⟨j, rfl, hwr.trans' he2, ?_⟩
    have : ds.all mayD = false := by
     rw [Bool.eq_false_iff]
     intro h
     rw [List.all_eq_true] at h
     have := h x (List.mem_of_getElem? HX.out)
     rw [HMX.out] at this; cases this
    rw [this]; simp
  ·have hjn : j = ds.length := by have := hN.out; omega
   have HJN := η hjn
   clear hjn
   go_wp2_with fail
   go_returns
   refine ⟨-1, rfl, hwr, ?_⟩
   have : ds.all mayD = true := by
    rw [List.all_eq_true]
    intro y hy
    obtain ⟨q, hq⟩ := List.getElem?_of_mem hy
    exact HJ.out q y (by rw [HJN.out]; exact (List.getElem?_eq_some_iff.1 hq).1) hq
   rw [this]; rfl
theorem tab_contains (dv : Value) (ds : List TDef) (w : World) (h : Rd w 4 TDef.enc dv ds) : Calls Tryz.prog 121 #[dv, .func (.func 122) #[] #[]] w (BoolAns (!ds.all mayD) w) := by
 go_enter Tryz.func121, Tryz.ntmps121
 go_wp2_with fail
 refine (tab_index dv ds _ h).mono ?_
 rintro e w2 ⟨i, rfl, he, hi⟩
 have HI := η hi
 clear hi
 go_wp2_with fail
 go_returns
 exact ⟨ret_bool HI.out, he⟩
def rightL (ds : List TDef) : Bool := decide (ds.length ≤ 8) && ds.all mayD
theorem tab_right (dv : Value) (ds : List TDef) (w : World) (h : Rd w 4 TDef.enc dv ds) : Calls Tryz.prog 84 #[dv] w (BoolAns (rightL ds) w) := by
 obtain ⟨a, n, c, rfl, hn, hN⟩ := h.val
 have HD := η h
 clear h
 by_cases h8 : (n : Int) ≤ 8
 ·have HL : Hid (decide (ds.length ≤ 8) = true) := η (by have := hN.out; simp; omega)
  go_enter Tryz.func84, Tryz.ntmps84
  go_wp2_with fail
  refine (tab_contains _ ds _ HD.out).mono ?_
  rintro e w2 ⟨rfl, he⟩
  go_wp2_with fail
  go_returns
  exact ⟨ret_bool (by simp [rightL, HL.out]), he⟩
 ·have HL : Hid (decide (ds.length ≤ 8) = false) := η (by have := hN.out; simp; omega)
  go_enter Tryz.func84, Tryz.ntmps84
  go_wp2_with fail
  go_returns
  exact ⟨ret_bool (by simp [rightL, HL.out]), by (repeat (first|exact xE0 _|assumption|refine xE1 ?_ _|refine xE2 ?_|refine xE3 ?_ _|refine xE4 ?_ (by assumption)))⟩
def numKey (n : Int) : ByteArray := strOfNums [n % 256, 0, 0, 0]
theorem tab_key (n : Int) (w : World) : Calls Tryz.prog 86 #[.int .i64 n] w fun e w' => e = .returned (.string (numKey n)) ∧ Ext w w' := by
 have hlit : ∀ u : World, Own (u.alloc (.cells #[.int .u8 (IntKind.u8.wrap n), .int .u8 0, .int .u8 0, .int .u8 0] 5)) 0 5 1 (fun x => [Value.int .u8 x]) (.slice (some ⟨u.heap.size, 0, none⟩) 4 4) [IntKind.u8.wrap n, 0, 0, 0] := fun u => Own.lit (enc_int .u8) (w := u) [IntKind.u8.wrap n, 0, 0, 0] rfl rfl (Nat.zero_le _) (by simp [maxLen])
 have st := ((hlit w).rd (enc_int _)).run_str (P := Tryz.prog) Tryz.underlying23 Tryz.underlying5 Tryz.underlying9
 have e : IntKind.u8.wrap n = n % 256 := by rw [IntKind.wrap_u8]
 rw [e] at st
 clear hlit e
 go_enter Tryz.func86, Tryz.ntmps86
 go_wp2_with fail
 go_returns
 exact ⟨rfl, by (repeat (first|exact xE0 _|assumption|refine xE1 ?_ _|refine xE2 ?_|refine xE3 ?_ _|refine xE4 ?_ (by assumption)))⟩
theorem may_iff (d : TDef) : mayD d = true ↔ ((d.hash = true ∧ 1 ≤ d.key ∧ d.key ≤ 16) ∨ (d.hash = false ∧ d.key = 4)) ∧ 8 ≤ d.val ∧ d.val ≤ 64 ∧ d.val % 8 = 0 ∧ 1 ≤ d.max ∧ d.max ≤ 16 := by
 unfold mayD
 cases d.hash <;> simp [and_assoc]
def slotOf (o : Option Nat) : Int := match o with | some s => (s : Nat) | none => -1
def RFindT (o : Option Nat) (w : World) (e : Ending) (w' : World) : Prop := e = .returned (.int .i64 (slotOf o)) ∧ Ext w w'
theorem lookup_not {L : List (ByteArray × Nat)} {s : ByteArray} (h : ∀ (q : Nat) p, L[q]? = some p → p.1 ≠ s) : L.lookup s = none := by
 cases hl : L.lookup s with
 | none => rfl
 | some v =>
  obtain ⟨q, hq⟩ := List.getElem?_of_mem (lookup_mem' hl)
  exact absurd rfl (h q _ hq)
theorem lookup_first {L : List (ByteArray × Nat)} {s : ByteArray} {i : Nat} {p : ByteArray × Nat} (hi : L[i]? = some p) (hp : p.1 = s) (h : ∀ (q : Nat) p, q < i → L[q]? = some p → p.1 ≠ s) : L.lookup s = some p.2 := by
 induction L generalizing i with
 | nil => simp at hi
 | cons y L ih =>
  obtain ⟨m, u⟩ := y
  cases i with
  | zero => simp at hi; subst hi; simp only at hp; subst hp; simp [List.lookup]
  | succ i =>
   have hm := h 0 (m, u) (by omega) rfl
   simp only [List.lookup, ba_ne (fun e => hm e.symm : s ≠ m)]
   exact ih (i := i) (by simpa using hi) (fun q p hq hp' => h (q + 1) p (by omega) (by simpa using hp'))
set_option maxRecDepth 20000 in
set_option maxHeartbeats 2000000 in
theorem rtab_find (base tb : Nat) (S : RTabs) (i : Nat) (x : RM) (kv : Value) (ks : List Int) (w : World) (h : RTabAt w base tb S) (hk : Sl w .u8 kv ks) (hx : S.R[i]? = some x) :
  Calls Tryz.prog 65 #[.pointer (some ⟨tb, 0, none⟩), .int .i64 (i : Nat), kv] w (RFindT (x.T.slots.lookup (strOfNums ks)) w) := by
 obtain ⟨ka, kn, kc, rfl, hkn, hKN⟩ := hk.val
 have hb1 := cO (i := 1) h.head
 simp only [gA, gB, gC] at hb1
 have RMM := η (h.maps.rd enc_rm)
 obtain ⟨ma, mn, mc, hmv, hmn, hMN⟩ := RMM.out.val
 rw [hmv] at hb1 RMM
 have hlt : i < S.R.length := (List.getElem?_eq_some_iff.1 hx).1
 have hi1 : ((i : Nat) : Int) < (mn : Int) := by have := hMN.out; omega
 have RK := η ((h.keys x (List.mem_of_getElem? hx)).rd enc_ks)
 obtain ⟨la, ln, lc, hlv, hln, hLN⟩ := RK.out.val
 rw [hlv] at RK
 have ix := fun W => RMM.out.run_at (P := Tryz.prog) el_rm.under el_rm.size .i64 (i : Int) (by omega) (by omega) W
 obtain ⟨c0, c1, c2, c3, c4, c5⟩ := rm_cells RMM.out hx
 simp only [Int.toNat_natCast] at ix
 rw [hlv] at c4
 have HK := η hk
 clear hk h hmv hx hlv hlt c0 c1 c2 c3 c5
 go_enter Tryz.func65, Tryz.ntmps65
 go_wp2_with fail
 go_loopw [7] (fun q wr => ∃ (j : Nat), j ≤ ln ∧ q = .int .i64 j ∧ Ext w wr ∧ Hid (∀ (q : Nat) p, q < j → x.T.slots[q]? = some p → p.1 ≠ strOfNums ks)) (fun q _ => ln - (intOf q).toNat)
 case atStart => exact ⟨0, Nat.zero_le _, rfl, Ext.rfl' _, η (fun q p h => by omega)⟩
 case round =>
  obtain ⟨j, hj, rfl, hwr, HNO⟩ := hrel
  have d1 := hwr.cellOf hb1
  have d4 := hwr.cellOf c4
  by_cases hlt : (j : Int) < ln
  ·obtain ⟨p, hp⟩ := at_of_lt (xs := x.T.slots) (k := j) (by have := hLN.out; omega)
   have iy := fun W => RK.out.run_at (P := Tryz.prog) el_rk.under el_rk.size .i64 (j : Int) (by omega) (by omega) W
   simp only [Int.toNat_natCast] at iy
   obtain ⟨y0, y1⟩ := ks_cells (RK.out.ext hwr) hp
   have st := fun n => ((HK.out.ext hwr).ext ((Ext.rfl' _).drewN' n)).run_str (P := Tryz.prog) Tryz.underlying23 Tryz.underlying5 Tryz.underlying9
   have HP := η hp
   clear hp
   by_cases he : p.1 = strOfNums ks
   ·have HRET : Hid (x.T.slots.lookup (strOfNums ks) = some p.2) := η (lookup_first HP.out he HNO.out)
    rw [HRET.out]
    rw [he] at y0
    generalize strOfNums ks = sk at *
    clear he
    go_wp2_with fail
    go_quiet (fail)
    go_wp2_with fail
    go_returns
    exact ⟨rfl, hwr.drewN' _⟩
   ·have hb : (p.1.toList == (strOfNums ks).toList) = false := by rw [← beq_toListBytes]; exact ba_ne he
    have HE := η he
    clear he
    generalize hsk : strOfNums ks = sk at *
    clear hsk
    go_wp2_with fail
    go_quiet (fail)
    go_wp2_with fail
    go_roundw
    case rel => exact ⟨j + 1, by omega, by go_num, hwr.drewN' _, η (fun q p' hq hp' => by
     by_cases e : q = j
     ·subst e; rw [HP.out] at hp'; injection hp' with e; subst e; exact HE.out
     ·exact HNO.out q p' (by omega) hp')⟩
    case measure => simp [intOf]; omega
  ·have HRET : Hid (x.T.slots.lookup (strOfNums ks) = none) := η (lookup_not fun q p hp => HNO.out q p (by have := (List.getElem?_eq_some_iff.1 hp).1; have := hLN.out; omega) hp)
   go_wp2_with fail
   go_returns
   exact ⟨by rw [HRET.out]; rfl, hwr⟩
theorem rpick (S : RTabs) (j : Nat) (t : TM) (h : (S.R.map (·.T))[j]? = some t) : ∃ x, S.R[j]? = some x ∧ x.T = t ∧ x ∈ S.R := by
 rw [List.getElem?_map, Option.map_eq_some_iff] at h
 obtain ⟨x, hx, rfl⟩ := h
 exact ⟨x, hx, rfl, List.mem_of_getElem? hx⟩
def RLookT (S : RTabs) (i : Int) (ks : List Int) (w : World) (e : Ending) (w' : World) : Prop :=
 e = .returned (.tuple #[.int .u64 (tlook (rview S).2 i ks).1, .int .i64 (tlook (rview S).2 i ks).2]) ∧ Ext w w'
set_option maxHeartbeats 1000000 in
theorem rtab_look (base tb : Nat) (S : RTabs) (i : Int) (kv : Value) (ks : List Int) (w : World) (h : RTabAt w base tb S) (hk : Sl w .u8 kv ks) :
  Calls Tryz.prog 146 #[.pointer (some ⟨tb, 0, none⟩), .int .i64 i, kv] w (RLookT S i ks w) := by
 obtain ⟨ka, kn, kc, rfl, hkn, hKN⟩ := hk.val
 have HT := η h
 have HK := η hk
 clear h hk
 rcases tfind_cases' (S.R.map (·.T)) i ks.length with h0 | ⟨j, t, rfl, hp, hkk⟩
 ·have hr : tlook (rview S).2 i ks = (0, 1) := by rw [tlook, rview, h0]
  have HR := η hr
  have H0 := η h0
  clear hr h0
  go_enter Tryz.func146, Tryz.ntmps146
  go_wp2_with fail
  refine (rtab_may base tb S i _ ks w HT.out HK.out).mono ?_
  rintro e w1 ⟨rfl, rfl⟩
  rw [H0.out]
  go_wp2_with fail
  go_returns
  exact ⟨by rw [HR.out]; rfl, Ext.rfl' _⟩
 ·obtain ⟨x, hx, hxt, hxm⟩ := rpick S j t hp
  have hf : tfind (S.R.map (·.T)) j ks.length = some t := tfind_at' hp hkk
  have hj8 : j < S.R.length := (List.getElem?_eq_some_iff.1 hx).1
  have h8 := HT.out.few
  have hmd := HT.out.made x hxm
  have HF := η hf
  have HX := η hx
  have HXT := η hxt
  clear hf hx hxt hp hkk
  go_enter Tryz.func146, Tryz.ntmps146
  go_wp2_with fail
  refine (rtab_may base tb S j _ ks w HT.out HK.out).mono ?_
  rintro e w1 ⟨rfl, rfl⟩
  rw [HF.out]
  go_wp2_with fail
  refine (rtab_find base tb S j x _ ks _ HT.out HK.out HX.out).mono ?_
  rintro e w1 ⟨rfl, he1⟩
  cases hl : x.T.slots.lookup (strOfNums ks) with
  | none =>
   have HR : Hid (tlook (rview S).2 (j : Int) ks = (0, 0)) := η (by rw [tlook, rview, HF.out]; simp only; rw [← HXT.out, hl])
   simp only [slotOf]
   clear hl hmd
   go_wp2_with fail
   go_returns
   exact ⟨by rw [HR.out]; rfl, he1⟩
  | some s =>
   have HR : Hid (tlook (rview S).2 (j : Int) ks = (mat (tarea j s) 0, 0)) := η (by rw [tlook, rview, HF.out]; simp only; rw [← HXT.out, hl])
   have hs : s ≤ 1024 := hmd.2 _ (lookup_mem' hl)
   simp only [slotOf]
   clear hl hmd
   go_wp2_with fail
   refine (rtab_area j s w1 (by omega) (by omega) (by omega) (by omega)).mono ?_
   rintro e w2 ⟨rfl, rfl⟩
   go_wp2_with fail
   refine (ref_at (tarea j s) 0 _).mono ?_
   rintro e w2 ⟨rfl, rfl⟩
   go_wp2_with fail
   go_returns
   exact ⟨by rw [HR.out]; rfl, he1⟩
end Go.Proofs.YtppefchjoodgnaaGreat
