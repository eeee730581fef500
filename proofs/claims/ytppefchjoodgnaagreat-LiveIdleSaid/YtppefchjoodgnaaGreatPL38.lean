/- What the claim leans on: MsL · Law. -/
import Derived.Test.YtppefchjoodgnaaGreatPL35
import Derived.Test.YtppefchjoodgnaaGreatPL26
import Derived.Test.YtppefchjoodgnaaGreatPL01
import Derived.ProofKit
import Derived.OpenShut
import Derived.JoinedCond
namespace Go.Proofs.YtppefchjoodgnaaGreat
open Go.RowKit
set_option linter.unusedVariables false
set_option linter.unusedSimpArgs false
abbrev envObj (cv dv iv rv : Value) : Obj := .cells #[cv, dv, iv, rv] 28 (0, 0)
def NewA (r : Option RS) (Z0 : List Nat) (w : World) (e : Ending) (w' : World) : Prop :=
 match r with
 | none => e = .returned (.tuple #[.pointer none, .int .i64 1]) ∧ Ext w w'
 | some σ => ∃ mb, e = .returned (.tuple #[.pointer (some ⟨mb, 0, none⟩), .int .i64 0]) ∧ MRel [] Z0 w w.heap.size w' mb σ
structure NewU (w0 : World) (B b : Nat) (M : Areas) (mo eo : Obj) (xv : Value) (ds : List Int) (w : World) : Prop where
 n : NewR (w0.heap.size :: B :: xv.ownBlock.toList) w0 b M w
 obj : w.heap[B]? = some mo
 env : w.heap[w0.heap.size]? = some eo
 dr : Own w w0.heap.size 29 1 (fun x => [Value.int .u64 x]) xv ds
theorem NewU.go {w0 w w' : World} {B b : Nat} {M : Areas} {mo eo : Obj} {xv : Value} {ds : List Int} (h : NewU w0 B b M mo eo xv ds w) (k : Ext w w') : NewU w0 B b M mo eo xv ds w' :=
 ⟨h.n.go k, k.obj h.obj, k.obj h.env, h.dr.ext k⟩
theorem NewU.step {w0 w w' : World} {B b : Nat} {M M' : Areas} {mo eo : Obj} {xv : Value} {ds : List Int} (h : NewU w0 B b M mo eo xv ds w) (hn : NewR (w0.heap.size :: B :: xv.ownBlock.toList) w0 b M' w') (hk : ∀ q ∈ w0.heap.size :: B :: xv.ownBlock.toList, ∀ o, w.heap[q]? = some o → w'.heap[q]? = some o) : NewU w0 B b M' mo eo xv ds w' :=
 ⟨hn, hk B (by simp) _ h.obj, hk _ (by simp) _ h.env, own_objs h.dr (fun j o h1 h2 => hk j (by simp [h1]) o h2)⟩
def NewTA (w0 : World) (B b : Nat) (M : Areas) (ds : List TDef) (mo eo : Obj) (xv : Value) (dr : List Int) (e : Ending) (w' : World) : Prop :=
 match rnew M ds with
 | none => e = .returned (.tuple #[.pointer none, .int .i64 1]) ∧ Ext w0 w'
 | some V => ∃ tb S, e = .returned (.tuple #[.pointer (some ⟨tb, 0, none⟩), .int .i64 0]) ∧ rview S = V ∧ RTabAt w' w0.heap.size tb S ∧ S.rb = b ∧ Ext w0 w' ∧ w'.heap[B]? = some mo ∧ w'.heap[w0.heap.size]? = some eo ∧ Own w' w0.heap.size 29 1 (fun x => [Value.int .u64 x]) xv dr ∧ ∀ q ∈ w0.heap.size :: B :: xv.ownBlock.toList, q ∉ rtfoot tb S ∧ q < w'.heap.size
theorem new_tab {w0 w : World} {B b : Nat} {M : Areas} {mo eo : Obj} {xv dv : Value} {dr : List Int} {ds : List TDef} (h : NewU w0 B b M mo eo xv dr w) (hd : Rd w0 4 TDef.enc dv ds) : Calls Tryz.prog 34 #[.pointer (some ⟨b, 0, none⟩), dv] w (NewTA w0 B b M ds mo eo xv dr) := by
 obtain ⟨hE, lv, L, hR, hV, hQ⟩ := h.n
 have hlt := hR.lt
 refine (rtab_new w0.heap.size b lv L dv ds w hR hE.size (η fun w' k => hd.ext (k.below hE hE.size (fun q hq => (hlt q hq).1)))).mono ?_
 rintro e w' ⟨hk, hA⟩
 rw [hV] at hA
 have hE' : Ext w0 w' := hk.below hE hE.size (fun q hq => (hlt q hq).1)
 unfold NewTA
 rcases hA with ⟨h1, h2⟩ | ⟨tb, S, h1, h2, h3, h4, h5⟩
 ·rw [h1]; exact ⟨h2, hE'⟩
 ·rw [h1]
  refine ⟨tb, S, h2, rfl, h3, h4, hE', hk.obj h.obj (hQ B (by simp)).1, hk.obj h.env (hQ _ (by simp)).1, h.dr.keep hk (fun j hj => (hQ j (by simp [hj])).1), fun q hq => ⟨fun hm => ?_, Nat.lt_of_lt_of_le (hQ q hq).2 hk.size⟩⟩
  rcases h5 q hm with h6 | h6
  ·exact (hQ q hq).1 h6
  ·have := (hQ q hq).2; omega
theorem new_mach {w0 w' : World} {B b tb : Nat} {S : RTabs} {V : Areas × List TM} {lv dv xv : Value} {L : List Ins} {ds : List TDef} {dr : List Int} (hl : Rd w0 5 Ins.enc lv L) (hd : Rd w0 4 TDef.enc dv ds) (h2 : rview S = V) (h3 : RTabAt w' w0.heap.size tb S) (h4 : S.rb = b) (h5 : Ext w0 w')
  (h6 : w'.heap[B]? = some (mz lv dv xv (.pointer none) b)) (h8 : Own w' w0.heap.size 29 1 (fun x => [Value.int .u64 x]) xv dr) (h9 : ∀ q ∈ w0.heap.size :: B :: xv.ownBlock.toList, q ∉ rtfoot tb S ∧ q < w'.heap.size) (hB : w0.heap.size < B) (hxB : ∀ j, xv.ownBlock = some j → j ≠ B ∧ j ≠ w0.heap.size) :
  MRelQ [w0.heap.size] [] (fblk lv ++ fblk dv) w0 w0.heap.size (w'.setCell ⟨B, 24, none⟩ (.pointer (some ⟨tb, 0, none⟩))) B (RS.zero L ds dr V) := by
 have k : Keep [B] w' (w'.setCell ⟨B, 24, none⟩ (.pointer (some ⟨tb, 0, none⟩))) := (Keep.rfl' _ _).setCell (by simp) _
 have hE : Ext w0 (w'.setCell ⟨B, 24, none⟩ (.pointer (some ⟨tb, 0, none⟩))) := h5.setCell (Nat.le_of_lt hB) _
 have hBt : B ∉ rtfoot tb S := (h9 B (by simp)).1
 have hs5 := h5.size
 have hge : ∀ j ∈ rtfoot tb S, w0.heap.size ≤ j := fun j hj => (h3.lt j hj).1
 have hfz : ∀ j ∈ fblk lv ++ fblk dv, j < w0.heap.size := fun j hj => (List.mem_append.1 hj).elim (hl.fblk_lt (fun x => ⟨_, rfl⟩) j) (hd.fblk_lt (fun x => ⟨_, rfl⟩) j)
 have hfz2 : ∀ j ∈ fblk lv ++ fblk dv, j ∉ B :: rtfoot tb S := fun j hj hm => by
  have := hfz j hj
  rcases List.mem_cons.1 hm with rfl | hm
  ·omega
  ·have := hge j hm; omega
 have hxv : ∀ j ∈ vblk xv, xv.ownBlock = some j := fun j hj => by rw [own_vblk h8] at hj; simpa using hj
 refine ⟨Keep.of_ext hE, Nat.le_refl _, ⟨lv, tb, S, dv, xv, .slice none 0 0, []⟩, ⟨?_, Nat.le_of_lt hB, h3.keep k (fun j hj e => hBt (by rw [List.mem_singleton] at e; rwa [← e])), h2, Own.nil _ _ _ _ _, rfl, (fun c hc => by cases hc), hl.ext hE, hd.ext hE, (h8.keep k (fun j hj e => by rw [List.mem_singleton] at e; exact (hxB j hj).1 e)).rd (enc_int _), ?_, ?_⟩, ?_, ?_, ?_⟩
 ·have := heap_setCell_same w' B 24 _ _ (.pointer (some ⟨tb, 0, none⟩)) h6
  rw [this]
  simp only [rCells, RS.zero, h4]
  rfl
 ·simp only [mfoot, Value.ownBlock, Option.toList_none, List.nil_append]
  exact List.nodup_cons.2 ⟨hBt, h3.apart⟩
 ·intro j hj
  simp only [mfrz, List.flatMap_nil, List.append_nil, List.mem_append] at hj
  simp only [mfoot, Value.ownBlock, Option.toList_none, List.nil_append]
  have hsz := k.size
  rcases hj with hj | hj | hj
  ·exact ⟨hfz2 j (List.mem_append_left _ hj), by have := hfz j (List.mem_append_left _ hj); omega⟩
  ·exact ⟨hfz2 j (List.mem_append_right _ hj), by have := hfz j (List.mem_append_right _ hj); omega⟩
  ·have hx := hxv j hj
   have h10 := h9 j (by simp [hx])
   exact ⟨fun hm => (List.mem_cons.1 hm).elim (hxB j hx).1 h10.1, by omega⟩
 ·intro j hj
  simp only [mfoot, Value.ownBlock, Option.toList_none, List.nil_append] at hj
  rcases List.mem_cons.1 hj with rfl | hj
  ·exact .inr (Nat.le_of_lt hB)
  ·exact .inr (hge j hj)
 ·intro j hj
  simp only [mfrz, List.flatMap_nil, List.append_nil, List.mem_append] at hj
  rcases hj with hj | hj | hj
  ·exact .inl (List.mem_append_left _ hj)
  ·exact .inl (List.mem_append_right _ hj)
  ·exact .inr (h8.lt (hxv j hj)).1
 ·intro q hq
  rw [List.mem_singleton] at hq
  subst hq
  have h10 := h9 w0.heap.size (by simp)
  refine ⟨Nat.lt_of_lt_of_le h10.2 k.size, fun hm => ?_, fun hm => ?_⟩
  ·simp only [mfoot, Value.ownBlock, Option.toList_none, List.nil_append] at hm
   rcases List.mem_cons.1 hm with e | hm
   ·omega
   ·exact h10.1 hm
  ·simp only [mfrz, List.flatMap_nil, List.append_nil, List.mem_append] at hm
   rcases hm with hm | hm | hm
   ·have := hfz _ (List.mem_append_left _ hm); omega
   ·have := hfz _ (List.mem_append_right _ hm); omega
   ·exact (hxB _ (hxv _ hm)).2 rfl
set_option maxRecDepth 20000 in
set_option maxHeartbeats 8000000 in
theorem m_New (lv cv dv iv rv : Value) (rows : List SV) (L : List Ins) (e : EnvD) (w : World) (h : Rd w 5 Ins.enc lv L) (hl : L.length ≤ 1000000) (hok : InsOk L) (he : EnvR w e cv dv iv rv rows) (hd : e.draws.length ≤ 1000000) :
  Calls Tryz.prog 12 #[lv, .agg #[cv, dv, iv, rv]] w (NewA (RS.new L e) (fblk lv ++ fblk dv) w) := by
 have HD := η h
 have HL := η hl
 have HOK := η hok
 have HE := η he
 obtain ⟨ca, cn, cc, rfl, hcn, hCN⟩ := he.ctx.val
 obtain ⟨da, dn, dc, rfl, hdn, hDN⟩ := he.defs.val
 obtain ⟨ia, inn, ic, rfl, hin, hIN⟩ := he.rowsR.val
 obtain ⟨ra, rn, rc, rfl, hrn, hRN⟩ := he.draws.val
 obtain ⟨la, ln, lc, rfl, hln, hLN⟩ := h.val
 have hlen := η he.len
 clear h hl hok he
 obtain ⟨res, hres⟩ : ∃ r, RS.new L e = r := ⟨_, rfl⟩
 rw [hres]
 have HRES := η hres
 clear hres
 go_enter Tryz.func12, Tryz.ntmps12
 go_upto_region 1 with fail
 go_cut [7] from 15 to 20 (fun v wx => ∃ er : Int, v = .int .i64 er ∧ Hid (decide (er = 0) = progS L ∧ Ext w wx ∧ wx.heap[w.heap.size]? = some (envObj (.slice ca cn cc) (.slice da dn dc) (.slice ia inn ic) (.slice ra rn rc))))
 case first =>
  go_wp2_with fail
  refine (r_Check _ L _ (HD.out.ext (by (repeat (first|exact xE0 _|assumption|refine xE1 ?_ _|refine xE2 ?_|refine xE3 ?_ _|refine xE4 ?_ (by assumption))))) HL.out HOK.out).mono ?_
  rintro e1 w5 ⟨at_, er, rfl, her, hE⟩
  have HER := η her
  clear her
  go_wp2_with fail
  go_meet
  exact ⟨er, rfl, η ⟨HER.out, Ext.trans' ((Ext.rfl' _).alloc' _) hE, hE.obj (obj_top w _ rfl)⟩⟩
 case rest =>
  obtain ⟨er, rfl, HC⟩ := hcut
  have HE1 := η HC.out.2.1
  have HBX := η HC.out.2.2
  have HER := η HC.out.1
  clear HC
  (have x0 := cO (i := 0) (HBX.out); have x1 := cO (i := 1) (HBX.out); have x2 := cO (i := 2) (HBX.out); have x3 := cO (i := 3) (HBX.out); have xf := fun i => frozen_obj (i := i) (HBX.out); simp only [gA, gB, gC] at x0 x1 x2 x3)
  by_cases hbad : progS L = false ∨ 64 < e.ctx.length ∨ e.defs.length < e.items.length
  ·have HN : Hid (res = none) := η (by rw [← HRES.out, RS.new, if_pos hbad])
   obtain ⟨z1, hz1⟩ : ∃ b, (er != 0) = b := ⟨_, rfl⟩
   have HB3 : Hid ((er != 0) = true ∨ (cn : Int) > 64 ∨ (inn : Int) > dn) := η (by
    rcases hbad with h1 | h1 | h1
    ·left; have := HER.out; rw [h1] at this; simpa using this
    ·right; left; rw [hCN.out]; omega
    ·right; right; have := hlen.out; rw [hIN.out, hDN.out]; omega)
   have hret : NewA res (fblk (.slice la ln lc) ++ fblk (.slice da dn dc)) w (.returned (.tuple #[.pointer none, .int .i64 1])) wc := by rw [HN.out]; exact ⟨rfl, HE1.out⟩
   have HRET := η hret
   clear hbad hret HN HRES
   cases z1
   ·by_cases hc : (cn : Int) > 64
    ·go_wp2_with fail
     go_returns
     exact HRET.out
    ·have hi : (inn : Int) > dn := by
      rcases HB3.out with h1 | h1 | h1
      ·rw [hz1] at h1; cases h1
      ·exact absurd h1 hc
      ·exact h1
     go_wp2_with fail
     go_returns
     exact HRET.out
   ·go_wp2_with fail
    go_returns
    exact HRET.out
  ·have hp : progS L = true := by cases hq : progS L; exact absurd (.inl hq) hbad; rfl
   have hc : (cn : Int) ≤ 64 := by rw [hCN.out]; have := fun h => hbad (.inr (.inl h)); omega
   have hi : (inn : Int) ≤ dn := by have := hlen.out; rw [hIN.out, hDN.out]; have := fun h => hbad (.inr (.inr h)); omega
   obtain rfl : er = 0 := by have := HER.out; rw [hp] at this; simpa using this
   have HG : Hid (res = (rnew (areas0 e.ctx) e.defs).bind fun V => (putAll V 0 e.items).map fun V' => ((RS.zero L e.defs e.draws V').setR 1 4294967296).setR 10 8589935104) := η (by rw [← HRES.out, RS.new, if_neg hbad])
   have HP := η hp
   clear hbad hp HRES HER
   have e1 : decide ((64 : Int) < (cn : Int)) = false := by simp; omega
   have e2 : decide (dn < inn) = false := by simp; omega
   have e3 : decide ((dn : Int) < (inn : Int)) = false := by simp; omega
   have HSS : Hid (∀ w', Ext wc w' → w'.cell? ⟨w.heap.size, 1, none⟩ = some (.slice da dn dc) ∧ w'.cell? ⟨w.heap.size, 3, none⟩ = some (.slice ra rn rc)) := η (fun w' he => ⟨he.cellOf x1, he.cellOf x3⟩)
   go_upto_region 4 with fail
   go_cut [8] from 37 to 48 (fun v8 wx => ∃ (B b : Nat) (xa : Option Addr) (xn xc : Nat), v8 = .pointer (some ⟨B, 0, none⟩) ∧ Hid (Ext wc wx ∧ wx.heap[B]? = some (mz (.slice la ln lc) (.slice da dn dc) (.slice xa xn xc) (.pointer none) b) ∧ wc.heap.size ≤ B ∧ wc.heap.size ≤ b ∧ b < B ∧ wx.heap[b]? = some (.cells #[.slice none 0 0] 83 (0, 0)) ∧ Own wx wc.heap.size 29 1 (fun x => [Value.int .u64 x]) (.slice xa xn xc) e.draws ∧ ∀ j, (Value.slice xa xn xc).ownBlock = some j → j < B))
   case first =>
    go_region_held3 (fun w' => w'.cell? ⟨w.heap.size, 1, none⟩ = some (.slice da dn dc) ∧ w'.cell? ⟨w.heap.size, 3, none⟩ = some (.slice ra rn rc))
     ((refine HSS.out _ ?_; (repeat (first|exact xE0 _|assumption|refine xE1 ?_ _|refine xE2 ?_|refine xE3 ?_ _|refine xE4 ?_ (by assumption)))))
     (first
      | (apply app_step el_u64 (enc_int .u64) (xs := []) (ys := e.draws) (base := wc.heap.size); (case hw => rfl); (case ho => rfl); (case hs => rfl); (case hown => (first | exact Own.drew (Own.made wc wc.heap.size _ _ _ rfl (Nat.le_refl _)) | exact Own.drew ((Own.made wc wc.heap.size _ _ _ rfl (Nat.le_refl _)).alloc _) | exact Own.drew (Own.made (wc.alloc _) wc.heap.size _ _ _ (by simp) (by simp)) | exact Own.made wc.drew wc.heap.size _ _ _ (by simp) (by simp) | exact (Own.made wc.drew wc.heap.size _ _ _ (by simp) (by simp)).alloc _ | exact Own.made (wc.drew.alloc _) wc.heap.size _ _ _ (by simp) (by simp))); (case hx => rfl); (case hy => exact HE.out.draws.ext (HE1.out.trans' (by (repeat (first|exact xE0 _|assumption|refine xE1 ?_ _|refine xE2 ?_|refine xE3 ?_ _|refine xE4 ?_ (by assumption)))))); (case hbytes => simp; omega); (case hbase => simp <;> omega); intro v8 w8 hown8 hg8 hb8; have h8 : Ext wc w8 := hb8 _ _ (show Ext wc _ by (repeat (first|exact xE0 _|assumption|refine xE1 ?_ _|refine xE2 ?_|refine xE3 ?_ _|refine xE4 ?_ (by assumption)))) (Nat.le_refl _); simp only [List.nil_append] at hown8; obtain ⟨a8, n8, c8, rfl, hn8, hN8⟩ := (hown8.rd (enc_int .u64)).val; have O8 := η hown8; have K8 := η (grown_keep hg8); clear hown8 hg8 hb8))
    all_goals
     have hs8 := h8.size
     go_wp2_with fail
     go_meet
     have hwd : Ext wc w8 := h8
     have hk8 := K8.out.size
     have hso := fun j (hj : (Value.slice a8 n8 c8).ownBlock = some j) => (O8.out.lt hj).2
     first
     | exact ⟨w8.heap.size + 1, w8.heap.size, a8, n8, c8, by simp, η ⟨(hwd.alloc' _).alloc' _, obj_top _ _ (by simp), Nat.le_succ_of_le hs8, hs8, Nat.lt_succ_self _, obj_old _ (obj_top _ _ rfl), (O8.out.alloc _).alloc _, fun j hj => Nat.lt_succ_of_lt (hso j hj)⟩⟩
     | exact ⟨w8.heap.size, wc.heap.size, a8, n8, c8, rfl, η ⟨hwd.alloc' _, obj_top _ _ rfl, hs8, Nat.le_refl _, (by simp at hk8; omega), obj_old _ (K8.out.obj (show (World.heap _)[wc.heap.size]? = _ from obj_old _ (obj_top _ _ rfl)) (fun h => absurd (show wc.heap.size ∈ (Value.slice (some ⟨wc.heap.size + 1, 0, none⟩) 0 0).ownBlock.toList from h) (by simp [Value.ownBlock]))), O8.out.alloc _, hso⟩⟩
     | exact ⟨w8.heap.size, wc.heap.size + 1, a8, n8, c8, rfl, η ⟨hwd.alloc' _, obj_top _ _ rfl, hs8, Nat.le_succ _, (by simp at hk8; omega), obj_old _ (K8.out.obj (show (World.heap _)[wc.heap.size + 1]? = _ from obj_top _ _ (by simp)) (fun h => absurd (show wc.heap.size + 1 ∈ (Value.slice (some ⟨wc.heap.size, 0, none⟩) 0 0).ownBlock.toList from h) (by simp [Value.ownBlock]))), O8.out.alloc _, hso⟩⟩
   case rest =>
    obtain ⟨B, b, xa, xn, xc, rfl, HI⟩ := hcut
    obtain ⟨i1, i2, i3, i4, i5, i6, i7, i8⟩ := HI.out
    have hw1 := HE1.out.size
    have hlb := heap_lt i2
    have hlw := heap_lt HBX.out
    have HN := η (show NewU w B b [] (mz (.slice la ln lc) (.slice da dn dc) (.slice xa xn xc) (.pointer none) b) (envObj (.slice ca cn cc) (.slice da dn dc) (.slice ia inn ic) (.slice ra rn rc)) (.slice xa xn xc) e.draws wc from
     ⟨⟨HE1.out.trans' i1, .slice none 0 0, [], ⟨i6, by omega, Own.nil _ _ _ _ _, fun x hx => by simp at hx, fun x hx => by simp at hx, by simp [Value.ownBlock], fun x hx => by simp at hx, by simp⟩, rfl, fun q hq => by
      simp only [List.mem_cons] at hq
      simp only [rfoot, Value.ownBlock, Option.toList_none, List.flatMap_nil, List.append_nil, List.mem_singleton]
      rcases hq with rfl | rfl | hq
      ·exact ⟨by omega, by omega⟩
      ·exact ⟨by omega, hlb⟩
      ·have hj : (Value.slice xa xn xc).ownBlock = some q := by simpa using hq
       refine ⟨fun e => ?_, Nat.lt_trans (i8 q hj) hlb⟩
       subst e
       rcases i7.2 with ⟨h0, _⟩ | ⟨g, cap, cur, hv, _, hg, _⟩
       ·rw [h0] at hj; cases hj
       ·rw [hv] at hj
        cases hj
        rw [i6] at hg
        simp at hg⟩, i2, i1.obj HBX.out, i7.mono (by omega)⟩)
    have HBW : Hid (w.heap.size < B) := η (by omega)
    have HXB : Hid (∀ j, (Value.slice xa xn xc).ownBlock = some j → j ≠ B ∧ j ≠ w.heap.size) := η (fun j hj => ⟨by have := i8 j hj; omega, by have := (i7.lt hj).1; omega⟩)
    have hEW := HE1.out.trans' i1
    have HEW := η hEW
    clear i1 i2 i3 i4 i5 i6 i7 i8 HI HSS e1 e2 e3 x0 x1 x2 x3 xf hEW
    have c23 := cO (i := 23) HN.out.obj
    have c0 := cO (i := 0) HN.out.env
    simp only [gA, gB, gC] at c23 c0
    go_upto_region 5 with fail
    go_cut [54] from 48 to 55 (fun _ wx => Hid (NewU w B b (mmake [] 1 e.ctx false true).1 (mz (.slice la ln lc) (.slice da dn dc) (.slice xa xn xc) (.pointer none) b) (envObj (.slice ca cn cc) (.slice da dn dc) (.slice ia inn ic) (.slice ra rn rc)) (.slice xa xn xc) e.draws wx))
    case first =>
     have y0 := Grow.cell c23
     have y1 := Grow.cell c0
     clear c23 c0
     (refine wp_region_ext_tail 6 (by kernel_rfl) (by kernel_rfl) ?_; simp only [List.take_succ_cons, List.take_zero]; (repeat (go_big_quiet_step ((fail)))); refine wpQuiet_nil ?_; rintro wz ⟨nz, hz⟩; have hwq := nz.ext; rw [← hz] at hwq; simp only [List.drop_succ_cons, List.drop_zero]; clear hz)
     go_wp2_with fail
     refine (new_make (HN.out.go hwq).n 1 _ e.ctx false true (HE.out.ctx.ext (HN.out.n.ext.trans' hwq)) HE.out.u8).mono ?_
     rintro e1 w7 ⟨⟨er, rfl⟩, hN, hK⟩
     have HN7 := η ((HN.out.go hwq).step hN hK)
     clear hN hK
     go_wp2_with fail
     go_meet
     exact HN7
    case rest =>
     clear HN c23 c0
     have HN := hcut
     have m23 := cO (i := 23) HN.out.obj
     have mo23 := fun o => cO (i := 23) (obj_old o HN.out.obj)
     simp only [gA, gB, gC] at m23 mo23
     have hlB := heap_lt HN.out.obj
     have hmk := run_make512
     go_upto_region 6 with fail
     go_cut [60] from 55 to 61 (fun _ wx => Hid (NewU w B b (areas0 e.ctx) (mz (.slice la ln lc) (.slice da dn dc) (.slice xa xn xc) (.pointer none) b) (envObj (.slice ca cn cc) (.slice da dn dc) (.slice ia inn ic) (.slice ra rn rc)) (.slice xa xn xc) e.draws wx))
     case first =>
      go_region_law ((go_simp; go_at_call 33; refine (new_make (HN.out.go (by (repeat (first|exact xE0 _|assumption|refine xE1 ?_ _|refine xE2 ?_|refine xE3 ?_ _|refine xE4 ?_ (by assumption))))).n 2 _ (List.replicate 512 0) true false (rd_512 _) small_512).mono ?_; rintro e1 w7 ⟨⟨er, rfl⟩, hN, hK⟩; have HN7 := η ((HN.out.go (by (repeat (first|exact xE0 _|assumption|refine xE1 ?_ _|refine xE2 ?_|refine xE3 ?_ _|refine xE4 ?_ (by assumption))))).step hN hK); clear hN hK))
      all_goals
       go_wp2_with fail
       go_meet
       exact HN7
     case rest =>
      clear HN m23 mo23 hlB hmk
      have HN := hcut
      have m23 := cO (i := 23) HN.out.obj
      have q1 := cO (i := 1) HN.out.env
      simp only [gA, gB, gC] at m23 q1
      have hlB := heap_lt HN.out.obj
      have hlW := heap_lt HN.out.env
      clear hcut
      have HTN : Hid (∀ W, Ext wc W → Calls Tryz.prog 34 #[.pointer (some ⟨b, 0, none⟩), .slice da dn dc] W (NewTA w B b (areas0 e.ctx) e.defs (mz (.slice la ln lc) (.slice da dn dc) (.slice xa xn xc) (.pointer none) b) (envObj (.slice ca cn cc) (.slice da dn dc) (.slice ia inn ic) (.slice ra rn rc)) (.slice xa xn xc) e.draws)) := η (fun W hW => new_tab (HN.out.go hW) HE.out.defs)
      cases hrn : rnew (areas0 e.ctx) e.defs with
      | none =>
       have HTN2 : Hid (∀ W, Ext wc W → Calls Tryz.prog 34 #[.pointer (some ⟨b, 0, none⟩), .slice da dn dc] W (fun e1 w' => e1 = .returned (.tuple #[.pointer none, .int .i64 1]) ∧ Ext w w')) := η (fun W hW => (HTN.out W hW).mono (fun e1 w' h => by unfold NewTA at h; rw [hrn] at h; exact h))
       obtain rfl : res = none := by rw [HG.out, hrn]; rfl
       clear HTN hrn
       go_upto_region 7 with fail
       go_cut [9, 10] from 61 to 71 (fun v9 v10 wx => v10 = .int .i64 1 ∧ Hid (Ext w wx))
       case first =>
        go_region_law ((go_simp; go_at_call 34; refine (HTN2.out _ (by (repeat (first|exact xE0 _|assumption|refine xE1 ?_ _|refine xE2 ?_|refine xE3 ?_ _|refine xE4 ?_ (by assumption))))).mono ?_; rintro e1 w7 ⟨rfl, hE7⟩; have HE7 := η hE7; clear hE7))
        all_goals
         go_wp2_with fail
         go_meet
         exact ⟨rfl, HE7⟩
       case rest =>
        obtain ⟨rfl, HE7⟩ := hcut
        go_wp2_with fail
        go_returns
        exact ⟨rfl, HE7.out⟩
      | some V =>
       have HTN2 : Hid (∀ W, Ext wc W → Calls Tryz.prog 34 #[.pointer (some ⟨b, 0, none⟩), .slice da dn dc] W (fun e1 w' => ∃ tb, e1 = .returned (.tuple #[.pointer (some ⟨tb, 0, none⟩), .int .i64 0]) ∧ Hid (w'.heap[B]? = some (mz (.slice la ln lc) (.slice da dn dc) (.slice xa xn xc) (.pointer none) b) ∧ w'.heap[w.heap.size]? = some (envObj (.slice ca cn cc) (.slice da dn dc) (.slice ia inn ic) (.slice ra rn rc)) ∧ MRelQ [w.heap.size] [] (fblk (.slice la ln lc) ++ fblk (.slice da dn dc)) w w.heap.size (w'.setCell ⟨B, 24, none⟩ (.pointer (some ⟨tb, 0, none⟩))) B (RS.zero L e.defs e.draws V)))) := η (fun W hW => (HTN.out W hW).mono (fun e1 w' h => by
        unfold NewTA at h
        rw [hrn] at h
        obtain ⟨tb, S, h1, h2, h3, h4, h5, h6, h7, h8, h9⟩ := h
        exact ⟨tb, h1, η ⟨h6, h7, new_mach HD.out HE.out.defs h2 h3 h4 h5 h6 h8 h9 HBW.out HXB.out⟩⟩))
       have hrn0 := η hrn
       have HG2 : Hid (res = (putAll V 0 e.items).map fun V' => ((RS.zero L e.defs e.draws V').setR 1 4294967296).setR 10 8589935104) := η (by rw [HG.out, hrn]; rfl)
       clear HTN hrn HG
       go_upto_region 7 with fail
       go_cut [9, 10] from 61 to 71 (fun v9 v10 wx => ∃ tb, v9 = .pointer (some ⟨tb, 0, none⟩) ∧ v10 = .int .i64 0 ∧ Hid (wx.heap[B]? = some (mz (.slice la ln lc) (.slice da dn dc) (.slice xa xn xc) (.pointer none) b) ∧ wx.heap[w.heap.size]? = some (envObj (.slice ca cn cc) (.slice da dn dc) (.slice ia inn ic) (.slice ra rn rc)) ∧ MRelQ [w.heap.size] [] (fblk (.slice la ln lc) ++ fblk (.slice da dn dc)) w w.heap.size (wx.setCell ⟨B, 24, none⟩ (.pointer (some ⟨tb, 0, none⟩))) B (RS.zero L e.defs e.draws V)))
       case first =>
        go_region_law ((go_simp; go_at_call 34; refine (HTN2.out _ (by (repeat (first|exact xE0 _|assumption|refine xE1 ?_ _|refine xE2 ?_|refine xE3 ?_ _|refine xE4 ?_ (by assumption))))).mono ?_; rintro e1 w7 ⟨tb, rfl, HE7⟩))
        all_goals
         go_wp2_with fail
         go_meet
         exact ⟨_, rfl, rfl, HE7⟩
       case rest =>
        obtain ⟨tb, rfl, rfl, HT⟩ := hcut
        have hcb : wc.cell? ⟨B, 24, none⟩ = some (.pointer none) := cO HT.out.1
        have hfb := frozen_obj (i := 24) HT.out.1
        have hBw : w.heap.size ≠ B := by have := HBW.out; omega
        have HE9 := η ((heap_setCell_other wc ⟨B, 24, none⟩ w.heap.size (.pointer (some ⟨tb, 0, none⟩)) hBw).trans HT.out.2.1)
        have HC9 : Hid ((wc.setCell ⟨B, 24, none⟩ (.pointer (some ⟨tb, 0, none⟩))).cell? ⟨B, 24, none⟩ = some (.pointer (some ⟨tb, 0, none⟩))) := η (cO (heap_setCell_same wc B 24 _ _ _ HT.out.1))
        have HM9 := η HT.out.2.2
        have HTB := η (rnew_tab hrn0.out)
        go_wp2_with fail
        clear hcb hfb HT m23 q1 hlB hlW
        go_loopw [11] (fun q wr => ∃ (k : Nat) (V' : Areas × List TM), k ≤ inn ∧ q = .int .i64 k ∧ Hid (MRelQ [w.heap.size] [] (fblk (.slice la ln lc) ++ fblk (.slice da dn dc)) w w.heap.size wr B (RS.zero L e.defs e.draws V') ∧ wr.heap[w.heap.size]? = some (envObj (.slice ca cn cc) (.slice da dn dc) (.slice ia inn ic) (.slice ra rn rc)) ∧ wr.cell? ⟨B, 24, none⟩ = some (.pointer (some ⟨tb, 0, none⟩)) ∧ putAll V' k (e.items.drop k) = putAll V 0 e.items ∧ ∀ t ∈ V'.2, TabOk t)) (fun q _ => inn - (intOf q).toNat)
        case atStart => exact ⟨0, V, Nat.zero_le _, rfl, η ⟨HM9.out, HE9.out, HC9.out, rfl, HTB.out.1⟩⟩
        case round =>
         obtain ⟨k, V1, hk, rfl, HI⟩ := hrel
         have hEW : Ext w wr := HI.out.1.keep.ext (fun k hk => by cases hk)
         have HEW2 := η hEW
         have y2 : wr.cell? ⟨w.heap.size, 2, none⟩ = some (.slice ia inn ic) := cO HI.out.2.1
         have hlw2 := heap_lt HI.out.2.1
         by_cases hlt : (k : Int) < inn
         ·obtain ⟨row, hrow⟩ : ∃ row, rows[k]? = some row := ⟨_, List.getElem?_eq_getElem (by have := hIN.out; omega)⟩
          obtain ⟨l, hl⟩ : ∃ l, e.items[k]? = some l := ⟨_, List.getElem?_eq_getElem (by have := hIN.out; have := hlen.out; omega)⟩
          obtain ⟨I, hI, hIs, hIm⟩ := HE.out.items k row l hrow hl
          have HIR := η hI
          have HIS := η hIs
          have HIM := η hIm
          have HLL := η hl
          have ixr := fun W => (HE.out.rowsR).run_at (P := Tryz.prog) el_itemrows.under el_itemrows.size .i64 (k : Int) (by omega) (by omega) W
          simp only [Nat.mul_one, Int.toNat_natCast] at ixr
          have HCR : Hid (∀ W, Ext w W → W.cell? (elt (.slice ia inn ic) k) = some (.slice row.a row.n row.c)) := η (fun W hW => by
           have := (HE.out.rowsR.ext hW).cell hrow (j := 0) rfl
           simpa [SV.v] using this)
          have hrn2 : row.n = I.length := by obtain ⟨a', n', c', hv, _, hn⟩ := HIR.out.val; have h1 := hn.out; simp only [SV.v] at hv; cases hv; exact h1
          have hrb : row.n ≤ 9223372036854775807 := by obtain ⟨a', n', c', hv, hle, hn⟩ := HIR.out.val; simp only [SV.v] at hv; cases hv; exact hle
          have HRN := η hrn2
          have yr := HCR.out wr hEW
          clear hI hIs hIm hrow hl hrn2
          go_wp2_with fail
          obtain ⟨wo, rfl⟩ : ∃ u, u = wr := ⟨_, rfl⟩
          go_loopw [12] (fun q wr2 => ∃ (m : Nat) (V2 : Areas × List TM), m ≤ row.n ∧ q = .int .i64 m ∧ Hid (MRelQ [w.heap.size] [] (fblk (.slice la ln lc) ++ fblk (.slice da dn dc)) w w.heap.size wr2 B (RS.zero L e.defs e.draws V2) ∧ wr2.heap[w.heap.size]? = some (envObj (.slice ca cn cc) (.slice da dn dc) (.slice ia inn ic) (.slice ra rn rc)) ∧ wr2.cell? ⟨B, 24, none⟩ = some (.pointer (some ⟨tb, 0, none⟩)) ∧ putIts V2 k (l.drop m) = putIts V1 k l ∧ ∀ t ∈ V2.2, TabOk t)) (fun q _ => row.n - (intOf q).toNat)
          case atStart => exact ⟨0, V1, Nat.zero_le _, rfl, η ⟨HI.out.1, HI.out.2.1, HI.out.2.2.1, rfl, HI.out.2.2.2.2⟩⟩
          case round =>
           obtain ⟨m, V2, hm, rfl, HJ⟩ := hrel
           have hEW3 : Ext w wr := HJ.out.1.keep.ext (fun k hk => by cases hk)
           have HEW3 := η hEW3
           have y3 : wr.cell? ⟨w.heap.size, 2, none⟩ = some (.slice ia inn ic) := cO HJ.out.2.1
           have hlw3 := heap_lt HJ.out.2.1
           have yr3 := HCR.out wr hEW3
           clear y2 yr hlw2
           by_cases hlt2 : (m : Int) < row.n
           ·have HLT : Hid (m < row.n) := η (by omega)
            obtain ⟨y, hy⟩ : ∃ y, I[m]? = some y := ⟨_, List.getElem?_eq_getElem (by have := HRN.out; omega)⟩
            have hlm : l[m]? = some (y.key, y.val) := by rw [← HIM.out, List.getElem?_map, hy]; rfl
            have HLM := η hlm
            have hys := HIS.out y (List.mem_of_getElem? hy)
            have HYS := η hys
            have HYB := η (HE.out.ib l (List.mem_of_getElem? HLL.out) (y.key, y.val) (List.mem_of_getElem? hlm))
            have hIR := HIR.out
            simp only [SV.v] at hIR
            have hrn3 : row.n = I.length := HRN.out
            have ixm := fun W => hIR.run_at (P := Tryz.prog) el_item.under el_item.size .i64 (m : Int) (by omega) (by omega) W
            simp only [Int.toNat_natCast] at ixm
            have HCM : Hid (∀ W, Ext w W → W.cell? (elt (.slice row.a row.n row.c) (m * 2)) = some (.slice y.ka y.key.length y.kc) ∧ W.cell? ⟨(elt (.slice row.a row.n row.c) (m * 2)).block, (elt (.slice row.a row.n row.c) (m * 2)).off + 1, none⟩ = some (.slice y.va y.val.length y.vc)) := η (fun W hW => by
             have E := (hIR.ext hW).elt_add hy
             have F : ∀ (p : Addr) (j : Nat), j ≠ 0 → (⟨p.block, p.off + j, none⟩ : Addr) = p.add j := fun p j h => by simp [Addr.add, h]
             rw [F _ 1 (by decide), E]
             exact ⟨by have := (hIR.ext hW).cell hy (j := 0) rfl; simpa [IT.kv] using this, (hIR.ext hW).cell hy (j := 1) rfl⟩)
            obtain ⟨k0, k1⟩ := HCM.out wr hEW3
            obtain ⟨Vn, nn, hh, hput⟩ : ∃ a b c, rput V2 k y.key y.val 0 = (a, b, c) := ⟨_, _, _, rfl⟩
            have HPT : Hid (∀ W, Ext wr W → Calls Tryz.prog 35 #[.pointer (some ⟨tb, 0, none⟩), .int .i64 (k : Int), .slice y.ka y.key.length y.kc, .slice y.va y.val.length y.vc, .int .u64 0] W (fun e1 w' => e1 = .returned (.tuple #[.int .u64 nn, .int .i64 hh]) ∧ MRelQ [w.heap.size] [] (fblk (.slice la ln lc) ++ fblk (.slice da dn dc)) w w.heap.size w' B (RS.zero L e.defs e.draws Vn) ∧ w'.heap[w.heap.size]? = some (envObj (.slice ca cn cc) (.slice da dn dc) (.slice ia inn ic) (.slice ra rn rc)) ∧ w'.cell? ⟨B, 24, none⟩ = some (.pointer (some ⟨tb, 0, none⟩)))) := η (fun W hW => (new_put (HJ.out.1.go hW) HJ.out.2.2.2.2 (hW.cellOf HJ.out.2.2.1) k HYS.out.1 HYS.out.2 HYB.out).mono (fun e1 w' h => by
             obtain ⟨h1, h2, h3⟩ := h
             have hp2 : rput (RS.zero L e.defs e.draws V2).V k y.key y.val 0 = (Vn, nn, hh) := hput
             rw [hp2] at h1 h2
             exact ⟨h1, h2, h3 _ (.inl (by simp)) _ (hW.obj HJ.out.2.1), cell_kept (a := ⟨B, 24, none⟩) (h3 B (.inr rfl)) (hW.cellOf HJ.out.2.2.1)⟩))
            have HTV : Hid (∀ t ∈ Vn.2, TabOk t) := η (by have := rput_tab (i := (k : Int)) (ks := y.key) (vs := y.val) (fl := 0) HJ.out.2.2.2.2; rw [hput] at this; exact this)
            have HPU := η hput
            clear hy hlm hys hIR hput hrn3
            have HSW : Hid (∀ W, Ext w W → W.heap[w.heap.size]? = some (envObj (.slice ca cn cc) (.slice da dn dc) (.slice ia inn ic) (.slice ra rn rc)) → W.cell? ⟨w.heap.size, 2, none⟩ = some (.slice ia inn ic) ∧ W.cell? (elt (.slice ia inn ic) k) = some (.slice row.a row.n row.c) ∧ W.cell? (elt (.slice row.a row.n row.c) (m * 2)) = some (.slice y.ka y.key.length y.kc) ∧ W.cell? ⟨(elt (.slice row.a row.n row.c) (m * 2)).block, (elt (.slice row.a row.n row.c) (m * 2)).off + 1, none⟩ = some (.slice y.va y.val.length y.vc)) := η (fun W hW hb => ⟨cO hb, HCR.out W hW, (HCM.out W hW).1, (HCM.out W hW).2⟩)
            go_upto_region 17 with fail
            go_cut [13, 14] from 94 to 118 (fun v13 v14 wx => v13 = .int .u64 nn ∧ v14 = .int .i64 hh ∧ Hid (MRelQ [w.heap.size] [] (fblk (.slice la ln lc) ++ fblk (.slice da dn dc)) w w.heap.size wx B (RS.zero L e.defs e.draws Vn) ∧ wx.heap[w.heap.size]? = some (envObj (.slice ca cn cc) (.slice da dn dc) (.slice ia inn ic) (.slice ra rn rc)) ∧ wx.cell? ⟨B, 24, none⟩ = some (.pointer (some ⟨tb, 0, none⟩))))
            case first =>
             go_region_held3 (fun w' => w'.cell? ⟨w.heap.size, 2, none⟩ = some (.slice ia inn ic) ∧ w'.cell? (elt (.slice ia inn ic) k) = some (.slice row.a row.n row.c) ∧ w'.cell? (elt (.slice row.a row.n row.c) (m * 2)) = some (.slice y.ka y.key.length y.kc) ∧ w'.cell? ⟨(elt (.slice row.a row.n row.c) (m * 2)).block, (elt (.slice row.a row.n row.c) (m * 2)).off + 1, none⟩ = some (.slice y.va y.val.length y.vc))
              (first | exact HSW.out _ (HM7.out.1.keep.ext (fun k hk => by cases hk)) HM7.out.2.1 | exact HSW.out _ (HEW3.out.trans' (by (repeat (first|exact xE0 _|assumption|refine xE1 ?_ _|refine xE2 ?_|refine xE3 ?_ _|refine xE4 ?_ (by assumption))))) (Ext.obj (w := wr) (by (repeat (first|exact xE0 _|assumption|refine xE1 ?_ _|refine xE2 ?_|refine xE3 ?_ _|refine xE4 ?_ (by assumption)))) HJ.out.2.1))
              ((go_at_call 35; refine (HPT.out _ (by (repeat (first|exact xE0 _|assumption|refine xE1 ?_ _|refine xE2 ?_|refine xE3 ?_ _|refine xE4 ?_ (by assumption))))).mono ?_; rintro e1 w7 ⟨rfl, hM7⟩; have HM7 := η hM7; clear hM7))
             all_goals
              go_wp2_with fail
              go_meet
              exact ⟨rfl, rfl, HM7⟩
            case rest =>
             obtain ⟨rfl, rfl, HM7⟩ := hcut
             have HSTEP : Hid (putIts V2 k (l.drop m) = if nn = 0 ∧ hh = 0 then putIts Vn k (l.drop (m + 1)) else none) := η (by
              rw [drop_at HLM.out, putIts]
              simp only [HPU.out])
             cases hz1 : (nn != 0) <;> cases hz2 : (hh != 0)
             ·have n0 : nn = 0 := by simpa using hz1
              have h0 : hh = 0 := by simpa using hz2
              have HNX : Hid (putIts Vn k (l.drop (m + 1)) = putIts V1 k l) := η (by rw [← HJ.out.2.2.2.1, HSTEP.out, if_pos ⟨n0, h0⟩])
              clear n0 h0
              have hltx : m < row.n := HLT.out
              go_wp2_with fail
              go_roundw
              case rel => exact ⟨m + 1, Vn, HLT.out, by go_num, η ⟨HM7.out.1, HM7.out.2.1, HM7.out.2.2, HNX.out, HTV.out⟩⟩
              case measure => have := HLT.out; simp [intOf]; omega
             all_goals
              have hno : ¬ (nn = 0 ∧ hh = 0) := fun h => by
               have a1 := h.1
               have a2 := h.2
               simp [a1] at hz1
               try simp [a2] at hz2
              have HNO : Hid (res = none) := η (by
               have h1 := HJ.out.2.2.2.1
               rw [HSTEP.out, if_neg hno] at h1
               have h2 := HI.out.2.2.2.1
               rw [drop_at HLL.out, putAll, ← h1] at h2
               rw [HG2.out, ← h2]
               rfl)
              have HXX : Hid (Ext w wc) := η (HM7.out.1.keep.ext (fun k hk => by cases hk))
              clear hno
              go_wp2_with fail
              go_returns
              obtain rfl := HNO.out
              exact ⟨rfl, HXX.out⟩
           ·have hll : l.length = I.length := by have := congrArg List.length HIM.out; simpa using this.symm
            have HNX : Hid (putAll V2 (k + 1) (e.items.drop (k + 1)) = putAll V 0 e.items) := η (by
             have h1 := HJ.out.2.2.2.1
             rw [List.drop_eq_nil_of_le (by have := HRN.out; omega), putIts] at h1
             have h2 := HI.out.2.2.2.1
             rw [drop_at HLL.out, putAll, ← h1] at h2
             exact h2)
            go_wp2_with fail
            go_roundw
            case rel => exact ⟨k + 1, V2, by omega, by go_num, η ⟨HJ.out.1, HJ.out.2.1, HJ.out.2.2.1, HNX.out, HJ.out.2.2.2.2⟩⟩
            case measure => simp [intOf]; omega
         ·have hfin : putAll V 0 e.items = some V1 := by
           have h1 := HI.out.2.2.2.1
           rw [← h1, List.drop_eq_nil_of_le (by have := hIN.out; have := hlen.out; omega), putAll]
          have HFIN : Hid (res = some (((RS.zero L e.defs e.draws V1).setR 1 4294967296).setR 10 8589935104)) := η (by rw [HG2.out, hfin]; rfl)
          clear hfin
          go_wp2_with fail
          refine (ref_at 1 0 _).mono ?_
          rintro e1 w5 ⟨rfl, rfl⟩
          rw [show mat 1 0 = 4294967296 by simp [mat]]
          go_wp2_with fail
          refine (m_set HI.out.1.rel 1 (by decide) 4294967296).mono ?_
          rintro e1 w6 ⟨rfl, hM6⟩
          have HM6 := η hM6
          clear hM6
          go_wp2_with fail
          refine (ref_at 2 512 _).mono ?_
          rintro e1 w7 ⟨rfl, rfl⟩
          rw [show mat 2 512 = 8589935104 by simp [mat]]
          go_wp2_with fail
          refine (m_set HM6.out 10 (by decide) 8589935104).mono ?_
          rintro e1 w8 ⟨rfl, hM8⟩
          have HM8 := η hM8
          clear hM8
          go_wp2_with fail
          go_returns
          obtain rfl := HFIN.out
          exact ⟨B, rfl, HM8.out⟩
end Go.Proofs.YtppefchjoodgnaaGreat
namespace Go.Proofs.YtppefchjoodgnaaGreat
open Go.RowKit Go.ChangeShapes Go.WideShapes Go.ChangeAt
set_option linter.unusedVariables false
set_option linter.unusedSimpArgs false
section
variable {H : Type} {enc : TypeId × Value → H} {P : Program}
theorem args_stay (hl : laidOutB P = true) {W W' : World} (hB : Ext W W') : ∀ (ts : List TypeId) (vs : List Value) (ds : List (DataW H)) (ps : List MemPlace),
  (∀ t ∈ ts, P.readableRec t = true ∧ t < P.types.size) → DataW.TrodAll enc P W 0 (fun _ => true) true ts vs ds ps → (∀ p ∈ ps, p.block < W.heap.size) →
  DataW.TrodAll enc P W' 0 (fun b => decide (b < W.heap.size)) true ts vs ds ps
 | [], [], [], ps, _, h, _ => h
 | t :: ts, v :: vs, d :: ds, ps, hr, ⟨p, q, h1, h2, he⟩, hlt => by
  subst he
  exact ⟨p, q, Below.trod hl (hr t List.mem_cons_self).1 (hr t List.mem_cons_self).2 h1 hB (fun x hx => hlt x (List.mem_append_left _ hx)),
   args_stay hl hB ts vs ds q (fun t ht => hr t (List.mem_cons_of_mem _ ht)) h2 (fun x hx => hlt x (List.mem_append_right _ hx)), rfl⟩
 | [], _ :: _, _, _, _, h, _ => by simp [DataW.TrodAll] at h
 | [], [], _ :: _, _, _, h, _ => by simp [DataW.TrodAll] at h
 | _ :: _, [], _, _, _, h, _ => by simp [DataW.TrodAll] at h
 | _ :: _, _ :: _, [], _, _, h, _ => by simp [DataW.TrodAll] at h
theorem law_post {f : Func} {s : ChangeSpec} {W W' : World} {args : Array Value} {ds gs : List (DataW H)} {before : List MemPlace} {tb : TypeId} (hvars : s.vars = [])
  (hW : DataW.Whole enc P f.params.toList s.vars false W args.toList ds gs before) (hB : Ext W W') (hl : laidOutB P = true)
  (hr : ∀ t ∈ f.params.toList, P.readableRec t = true ∧ t < P.types.size) (hres : f.resultTypes = #[tb]) (htb : P.underlying tb = some .bool)
  (hfn : s.fn H (ds ++ gs) = { results := [.lit (.bool true)], args := ds }) :
  s.post enc P f false true false false W args (.bool true) W' := by
 have hlt := hW.lt
 have hW' := hW
 obtain ⟨p, q, hA, hV, rfl, hfz, hnd⟩ := hW
 rw [hvars] at hV
 obtain ⟨rfl, rfl⟩ := trodVars_none hV
 refine ⟨ds, [], p ++ [], [], p, [], hW', ?_, ?_, ?_, hB.frame _, fun h => by cases h⟩
 ·rw [hfn, hres]
  exact trodAll_mk1 (shut_bool htb true)
 ·rw [hfn]
  exact args_stay hl hB _ _ _ _ hr hA (fun x hx => hlt x (List.mem_append_left _ hx))
 ·rw [hfn, hvars]
  rfl
end
end Go.Proofs.YtppefchjoodgnaaGreat
