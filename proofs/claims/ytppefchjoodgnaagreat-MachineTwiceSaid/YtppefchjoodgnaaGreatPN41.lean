/- What the claim leans on: Ld · Lh · Law · Open · OpenIns. -/
import Derived.Test.YtppefchjoodgnaaGreatPN40
import Derived.Test.YtppefchjoodgnaaGreatPN35
import Derived.Test.YtppefchjoodgnaaGreatPN01
import Derived.ProofKit
import Derived.OpenShut
import Derived.JoinedCond
import Derived.Deep.Slices
import Derived.Test.YtppefchjoodgnaaGreatRows
import Derived.Test.YtppefchjoodgnaaGreatPN20
namespace Go.Proofs.YtppefchjoodgnaaGreat
open Go.RowKit
set_option linter.unusedVariables false
set_option linter.unusedSimpArgs false
abbrev envZ : Obj := .cells #[.slice none 0 0, .slice none 0 0, .slice none 0 0, .slice none 0 0] 28 (0, 0)
theorem set4_same {w : World} {B : Nat} {t : TypeId} {a0 a1 a2 a3 : Value} (h : w.heap[B]? = some (.cells #[a0, a1, a2, a3] t (0, 0))) (v0 v1 v2 v3 : Value) :
  ((((w.setCell ⟨B, 0, none⟩ v0).setCell ⟨B, 1, none⟩ v1).setCell ⟨B, 2, none⟩ v2).setCell ⟨B, 3, none⟩ v3).heap[B]? = some (.cells #[v0, v1, v2, v3] t (0, 0)) := by
 have h1 := heap_setCell_same w B 0 _ _ v0 h
 have h2 := heap_setCell_same _ B 1 _ _ v1 h1
 have h3 := heap_setCell_same _ B 2 _ _ v2 h2
 have h4 := heap_setCell_same _ B 3 _ _ v3 h3
 simpa using h4
theorem OutE.set4 {w0 w : World} {e : EnvD} {q B : Nat} {cv dv rv : Value} {ia : Option Addr} {k ic : Nat} {rows : List SV} (h : OutE w0 w e q cv dv rv ia k ic rows) (hB : w0.heap.size ≤ B ∧ B < q) (hib : ∀ l ∈ e.items, ∀ p ∈ l, ∀ x ∈ p.2, 0 ≤ x ∧ x ≤ 255) (hub : ∀ x ∈ e.ctx, 0 ≤ x ∧ x ≤ 255) (hc : Sl w0 .u8 cv (e.ctx.take 100)) (hd : Rd w0 4 TDef.enc dv (e.defs.take 10)) (hr : Sl w0 .u64 rv (e.draws.take 100)) (hk : rows.length = min 10 e.items.length) (v0 v1 v2 v3 : Value) :
  EnvR ((((w.setCell ⟨B, 0, none⟩ v0).setCell ⟨B, 1, none⟩ v1).setCell ⟨B, 2, none⟩ v2).setCell ⟨B, 3, none⟩ v3) (envS e) cv dv (.slice ia k ic) rv rows ∧ Ext w0 ((((w.setCell ⟨B, 0, none⟩ v0).setCell ⟨B, 1, none⟩ v1).setCell ⟨B, 2, none⟩ v2).setCell ⟨B, 3, none⟩ v3) := by
 have hlt : ∀ i : Nat, (⟨B, i, none⟩ : Addr).block < q + 1 := fun i => Nat.lt_succ_of_lt hB.2
 have hE : Ext w0 ((((w.setCell ⟨B, 0, none⟩ v0).setCell ⟨B, 1, none⟩ v1).setCell ⟨B, 2, none⟩ v2).setCell ⟨B, 3, none⟩ v3) := (((h.ext.setCell hB.1 _).setCell hB.1 _).setCell hB.1 _).setCell hB.1 _
 have hne : q ≠ B := by omega
 refine ⟨OutE.done (q := q) ⟨hE, ?_, (((h.own.other (hlt 0) _).other (hlt 1) _).other (hlt 2) _).other (hlt 3) _, fun j row l hj hl => ?_⟩ hk hib hub hc hd hr, hE⟩
 ·rw [heap_setCell_other _ _ _ _ hne, heap_setCell_other _ _ _ _ hne, heap_setCell_other _ _ _ _ hne, heap_setCell_other _ _ _ _ hne]
  exact h.box
 ·obtain ⟨I, a, b, c⟩ := h.each j row l hj hl
  exact ⟨I, (((a.other (hlt 0) _).other (hlt 1) _).other (hlt 2) _).other (hlt 3) _, b, c⟩
set_option maxRecDepth 20000 in
set_option maxHeartbeats 8000000 in
theorem l11_env2 (cv dv iv rv : Value) (rows : List SV) (e : EnvD) (w : World) (he : EnvR w e cv dv iv rv rows) : Calls Tryz.prog 24 #[.agg #[cv, dv, iv, rv]] w (EnvA2 dv e w) := by
 have HE := η he
 obtain ⟨ca, cn, cc, rfl, hcn, hCN⟩ := he.ctx.val
 obtain ⟨da, dn, dc, rfl, hdn, hDN⟩ := he.defs.val
 obtain ⟨iav, inn, icv, rfl, hin, hIN⟩ := he.rowsR.val
 obtain ⟨ra, rn, rc, rfl, hrn, hRN⟩ := he.draws.val
 have hlen := η he.len
 obtain ⟨m1, hm1⟩ : ∃ m : Nat, min (cn : Int) 100 = (m : Int) := ⟨(min (cn : Int) 100).toNat, by omega⟩
 obtain ⟨m2, hm2⟩ : ∃ m : Nat, min (dn : Int) 10 = (m : Int) := ⟨(min (dn : Int) 10).toNat, by omega⟩
 obtain ⟨m3, hm3⟩ : ∃ m : Nat, min (rn : Int) 100 = (m : Int) := ⟨(min (rn : Int) 100).toNat, by omega⟩
 have c1 := fun W => he.ctx.run_cut_h (P := Tryz.prog) el_u8.under el_u8.size .i64 (m1 : Int) (by omega) (by omega) W
 have c2 := fun W => he.defs.run_cut_h (P := Tryz.prog) el_def.under el_def.size .i64 (m2 : Int) (by omega) (by omega) W
 have c3 := fun W => he.draws.run_cut_h (P := Tryz.prog) el_u64.under el_u64.size .i64 (m3 : Int) (by omega) (by omega) W
 have t1 := take_cutG he.ctx 100 m1 (by simpa using hm1)
 have t2 := take_cutG he.defs 10 m2 (by simpa using hm2)
 have t3 := take_cutG he.draws 100 m3 (by simpa using hm3)
 simp only [Int.toNat_natCast] at c1 c2 c3
 obtain ⟨a1, n1, d1, hv1, -, -⟩ := t1.val
 obtain ⟨a2, n2, d2, hv2, -, -⟩ := t2.val
 obtain ⟨a3, n3, d3, hv3, -, -⟩ := t3.val
 rw [hv1] at c1 t1
 rw [hv2] at c2 t2
 rw [hv3] at c3 t3
 have HCL : Hid (∀ W, Rd W 4 TDef.enc (.slice da dn dc) e.defs → Rd W 4 TDef.enc (.slice a2 n2 d2) (e.defs.take 10)) := η (fun W hD => by have := take_cutG hD 10 m2 (by simpa using hm2); rwa [hv2] at this)
 have HT1 := η t1
 have HT2 := η t2
 have HT3 := η t3
 clear he t1 t2 t3 hv1 hv2 hv3
 go_enter Tryz.func24, Tryz.ntmps24
 go_upto_region 1 with fail
 have HB0 := η (obj_old envZ (obj_top w (envObj (.slice ca cn cc) (.slice da dn dc) (.slice iav inn icv) (.slice ra rn rc)) rfl))
 have HZ0 := η (obj_top (w.alloc (envObj (.slice ca cn cc) (.slice da dn dc) (.slice iav inn icv) (.slice ra rn rc))) envZ (k := w.heap.size + 1) (by simp))
 have HX0 : Hid (Ext w ((w.alloc (envObj (.slice ca cn cc) (.slice da dn dc) (.slice iav inn icv) (.slice ra rn rc))).alloc envZ)) := η (by (repeat (first|exact xE0 _|assumption|refine xE1 ?_ _|refine xE2 ?_|refine xE3 ?_ _|refine xE4 ?_ (by assumption))))
 simp only [envObj, envZ] at HB0 HZ0 HX0
 generalize hF : (w.alloc (.cells #[.slice ca cn cc, .slice da dn dc, .slice iav inn icv, .slice ra rn rc] 28 (0, 0))).alloc (.cells #[.slice none 0 0, .slice none 0 0, .slice none 0 0, .slice none 0 0] 28 (0, 0)) = wa at HB0 HZ0 HX0 ⊢
 have hza := heap_lt HZ0.out
 have HSS : Hid (∀ W, Ext wa W → W.cell? ⟨w.heap.size, 0, none⟩ = some (.slice ca cn cc) ∧ W.cell? ⟨w.heap.size, 1, none⟩ = some (.slice da dn dc) ∧ W.cell? ⟨w.heap.size, 3, none⟩ = some (.slice ra rn rc)) := η (fun W he => ⟨cO (he.obj HB0.out), cO (he.obj HB0.out), cO (he.obj HB0.out)⟩)
 clear hF
 obtain ⟨s1, s2, s3⟩ := HSS.out wa (Ext.rfl' _)
 go_cut [3] from 9 to 31 (fun v wx => ∃ q, v = .pointer (some ⟨q, 0, none⟩) ∧ Hid (wa.heap.size ≤ q ∧ Ext wa wx ∧ wx.heap[q]? = some (envObj (.slice a1 n1 d1) (.slice a2 n2 d2) (.slice none 0 0) (.slice a3 n3 d3))))
 case first =>
  go_region_held3 (fun w' => w'.cell? ⟨w.heap.size, 0, none⟩ = some (.slice ca cn cc) ∧ w'.cell? ⟨w.heap.size, 1, none⟩ = some (.slice da dn dc) ∧ w'.cell? ⟨w.heap.size, 3, none⟩ = some (.slice ra rn rc))
   ((refine HSS.out _ ?_; (repeat (first|exact xE0 _|assumption|refine xE1 ?_ _|refine xE2 ?_|refine xE3 ?_ _|refine Below.setCell ?_ (by first | (simp; done) | (simp; omega) | omega) _ | refine Ext.trans' ?_ (by assumption)))))
   (fail)
  all_goals
   go_wp2_with fail
   go_meet
   exact ⟨_, rfl, η ⟨Nat.le_refl _, by (repeat (first|exact xE0 _|assumption|refine xE1 ?_ _|refine xE2 ?_|refine xE3 ?_ _|refine Below.setCell ?_ (by first | (simp; done) | (simp; omega) | omega) _ | refine Ext.trans' ?_ (by assumption))), obj_top _ _ rfl⟩⟩
 case rest =>
  obtain ⟨q, rfl, HC⟩ := hcut
  obtain ⟨hq, hE1, hbq⟩ := HC.out
  have hqb : w.heap.size ≤ w.heap.size + 1 ∧ w.heap.size + 1 < q := ⟨Nat.le_succ _, by omega⟩
  have HO0 : Hid (OutE w wc e q (.slice a1 n1 d1) (.slice a2 n2 d2) (.slice a3 n3 d3) none 0 0 []) := η ⟨HX0.out.trans' hE1, hbq, Own.nil _ _ _ _ _, (fun j row l hj => by simp at hj)⟩
  have HZ1 := η (hE1.obj HZ0.out)
  have x2 : wc.cell? ⟨w.heap.size, 2, none⟩ = some (.slice iav inn icv) := cO (hE1.obj HB0.out)
  have hlw : w.heap.size < wc.heap.size := by have := hE1.size; omega
  clear s1 s2 s3 HSS HB0 HZ0 HX0 HC hE1 hbq c1 c2 c3 hm1 hm2 hm3
  go_wp2_with fail
  go_loopw [34] (fun i wr => ∃ (k : Nat) (ia : Option Addr) (ic : Nat) (rows2 : List SV), k ≤ inn ∧ k ≤ 10 ∧ i = .int .i64 k ∧ Hid (rows2.length = k) ∧ Hid (OutE w wr e q (.slice a1 n1 d1) (.slice a2 n2 d2) (.slice a3 n3 d3) ia k ic rows2) ∧ Hid (wr.heap[w.heap.size + 1]? = some envZ)) (fun i _ => inn - (intOf i).toNat)
  case atStart => exact ⟨0, none, 0, [], Nat.zero_le _, Nat.zero_le _, rfl, η rfl, HO0, HZ1⟩
  case round =>
   obtain ⟨k, ia, ic, rows2, hk, hk10, rfl, HRL, HOE, HRZ⟩ := hrel
   clear x2
   by_cases hki : (k : Int) < inn
   ·obtain ⟨row, hrow⟩ : ∃ row, rows[k]? = some row := ⟨_, List.getElem?_eq_getElem (by have := hIN.out; omega)⟩
    obtain ⟨l, hl⟩ : ∃ l, e.items[k]? = some l := ⟨_, List.getElem?_eq_getElem (by have := hIN.out; have := hlen.out; omega)⟩
    obtain ⟨I0, hI, hIs, hIm⟩ := HE.out.items k row l hrow hl
    have HIR := η hI
    have HIS := η hIs
    have HIM := η hIm
    have HLL := η hl
    have ixr := fun W => (HE.out.rowsR).run_at (P := Tryz.prog) el_itemrows.under el_itemrows.size .i64 (k : Int) (by omega) (by omega) W
    simp only [Nat.mul_one, Int.toNat_natCast] at ixr
    have yr : wr.cell? (elt (.slice iav inn icv) k) = some (.slice row.a row.n row.c) := by
     have := (HE.out.rowsR.ext HOE.out.ext).cell hrow (j := 0) rfl
     simpa [SV.v] using this
    have hrn2 : row.n = I0.length := by obtain ⟨a', n', c', hv, _, hn⟩ := HIR.out.val; have h1 := hn.out; simp only [SV.v] at hv; cases hv; exact h1
    have hrb : row.n ≤ 9223372036854775807 := by obtain ⟨a', n', c', hv, hle, hn⟩ := HIR.out.val; simp only [SV.v] at hv; cases hv; exact hle
    have HRN := η hrn2
    clear hI hIs hIm hrow hl hrn2
    by_cases hk9 : (k : Int) < 10
    ·have hwq := heap_lt HOE.out.box
     go_wp2_with fail
     obtain ⟨wo, rfl⟩ : ∃ u, u = wr := ⟨_, rfl⟩
     have hwz := HOE.out.ext.size
     go_loopw [43, 6] (fun c v wr3 => ∃ (j : Nat) (I : List IT) (xa : Option Addr) (xn xc : Nat), j ≤ row.n ∧ c = .int .i64 j ∧ v = .slice xa xn xc ∧ Hid (Own wr3 wo.heap.size 36 2 IT.enc (.slice xa xn xc) I) ∧ Hid (∀ y ∈ I, Sl w .u8 y.kv y.key ∧ Sl w .u8 y.vv y.val) ∧ Hid (I.map (fun x => (x.key, x.val)) = itsN l j) ∧ Hid (Ext wo wr3) ∧ Hid (I.length ≤ 20 ∧ I.length ≤ j)) (fun c _ _ => row.n - (intOf c).toNat)
     case atStart => exact ⟨0, [], none, 0, 0, Nat.zero_le _, rfl, rfl, η (Own.nil _ _ _ _ _), η (fun y hy => by cases hy), η rfl, η (Ext.rfl' _), η ⟨by simp, by simp⟩⟩
     case round =>
      obtain ⟨j, I, xa, xn, xc, hj, rfl, rfl, HOX, HSI, HMI, HEX, HLI⟩ := hrel
      by_cases hjr : (j : Int) < row.n
      ·obtain ⟨y, hy⟩ : ∃ y, I0[j]? = some y := ⟨_, List.getElem?_eq_getElem (by have := HRN.out; omega)⟩
       have hlj : l[j]? = some (y.key, y.val) := by rw [← HIM.out, List.getElem?_map, hy]; rfl
       have HYS := η (HIS.out y (List.mem_of_getElem? hy))
       have hIR := HIR.out
       simp only [SV.v] at hIR
       have hrn3 : row.n = I0.length := HRN.out
       have ixm := fun W => hIR.run_at (P := Tryz.prog) el_item.under el_item.size .i64 (j : Int) (by omega) (by omega) W
       simp only [Int.toNat_natCast] at ixm
       have hEW3 : Ext w wr := HOE.out.ext.trans' HEX.out
       obtain ⟨k0, k1⟩ : wr.cell? (elt (.slice row.a row.n row.c) (j * 2)) = some (.slice y.ka y.key.length y.kc) ∧ wr.cell? ⟨(elt (.slice row.a row.n row.c) (j * 2)).block, (elt (.slice row.a row.n row.c) (j * 2)).off + 1, none⟩ = some (.slice y.va y.val.length y.vc) := by
        have E := (hIR.ext hEW3).elt_add hy
        have F : ∀ (p : Addr) (j : Nat), j ≠ 0 → (⟨p.block, p.off + j, none⟩ : Addr) = p.add j := fun p j h => by simp [Addr.add, h]
        rw [F _ 1 (by decide), E]
        exact ⟨by have := (hIR.ext hEW3).cell hy (j := 0) rfl; simpa [IT.kv] using this, (hIR.ext hEW3).cell hy (j := 1) rfl⟩
       have HIT : Hid (itsN l (j + 1) = if j < 20 ∧ y.key.length ≤ 80 ∧ y.val.length ≤ 80 then itsN l j ++ [(y.key, y.val)] else itsN l j) := η (by rw [itsN, hlj])
       have hA3 : Ext wr (wr.alloc (.cells #[.slice y.ka y.key.length y.kc, .slice y.va y.val.length y.vc] 36 (0, 0))) := (Ext.rfl' wr).alloc' _
       have OX3 := η (HOX.out.ext hA3)
       have HX3 := η (HEX.out.trans' hA3)
       have HLX : Hid (I.length ≤ 20 ∧ I.length ≤ j + 1) := η ⟨HLI.out.1, by have := HLI.out.2; omega⟩
       clear hy hlj hIR hrn3 hEW3 hA3
       by_cases h1 : (j : Int) < 20
       ·by_cases h2 : (y.key.length : Int) ≤ 80
        ·by_cases h3 : (y.val.length : Int) ≤ 80
         ·have HMX : Hid ((I ++ [y]).map (fun x => (x.key, x.val)) = itsN l (j + 1)) := η (by rw [HIT.out, if_pos ⟨by omega, by omega, by omega⟩, List.map_append, HMI.out]; rfl)
          have hli := HLI.out
          have hwrz := HEX.out.size
          have HYL : Hid (Rd ((wr.alloc (.cells #[.slice y.ka y.key.length y.kc, .slice y.va y.val.length y.vc] 36 (0, 0))).alloc (.cells #[.slice y.ka y.key.length y.kc, .slice y.va y.val.length y.vc] 36)) 2 IT.enc (.slice (some ⟨(wr.alloc (.cells #[.slice y.ka y.key.length y.kc, .slice y.va y.val.length y.vc] 36 (0, 0))).heap.size, 0, none⟩) 1 1) [y]) := η ((Own.lit enc_it (base := 0) [y] rfl rfl (Nat.zero_le _) (by simp [maxLen])).rd enc_it)
          have HYL2 : Hid (Rd ((wr.alloc (.cells #[.slice y.ka y.key.length y.kc, .slice y.va y.val.length y.vc] 36 (0, 0))).alloc (.cells #[.slice y.ka y.key.length y.kc, .slice y.va y.val.length y.vc] 36)) 2 IT.enc (.slice (some ⟨wr.heap.size + 1, 0, none⟩) 1 1) [y]) := η (by have := HYL.out; simpa using this)
          go_wp2_with (at_builtin; refine app_own el_item enc_it rfl _ _ rfl rfl (OX3.out.alloc _) rfl (ys := [y]) ?q1 ?q2 ?q3 ?q4)
          case q1 => exact HYL2.out
          case q2 => exact ⟨by simp; omega, by simp; omega⟩
          case q3 => simp; omega
          intro v5 w5 hown hgrow hbel
          obtain ⟨a5, n5, c5, rfl, hn5, hN5⟩ := (hown.rd enc_it).val
          have OX5 := η hown
          have HE5 : Hid (Ext wo w5) := η (hbel _ _ (HX3.out.alloc' _) (Nat.le_refl _))
          have HS5 : Hid (∀ z ∈ I ++ [y], Sl w .u8 z.kv z.key ∧ Sl w .u8 z.vv z.val) := η (fun z hz => by
           rcases List.mem_append.1 hz with hz | hz
           ·exact HSI.out z hz
           ·rw [List.mem_singleton] at hz; subst hz; exact HYS.out)
          have HL5 : Hid ((I ++ [y]).length ≤ 20 ∧ (I ++ [y]).length ≤ j + 1) := η (by
           have h20 : I.length ≤ j := HLI.out.2
           have hj20 : j < 20 := by omega
           simp only [List.length_append, List.length_cons, List.length_nil]
           omega)
          clear hown hgrow hbel hli
          go_wp2_with fail
          go_roundw
          case rel => exact ⟨j + 1, I ++ [y], a5, n5, c5, by omega, by go_num, rfl, OX5, HS5, HMX, HE5, HL5⟩
          case measure => simp [intOf]; omega
         ·have HNX : Hid (I.map (fun x => (x.key, x.val)) = itsN l (j + 1)) := η (by rw [HIT.out, if_neg (by omega)]; exact HMI.out)
          go_wp2_with fail
          go_roundw
          case rel => exact ⟨j + 1, I, xa, xn, xc, by omega, by go_num, rfl, OX3, HSI, HNX, HX3, HLX⟩
          case measure => simp [intOf]; omega
        ·have HNX : Hid (I.map (fun x => (x.key, x.val)) = itsN l (j + 1)) := η (by rw [HIT.out, if_neg (by omega)]; exact HMI.out)
         go_wp2_with fail
         go_roundw
         case rel => exact ⟨j + 1, I, xa, xn, xc, by omega, by go_num, rfl, OX3, HSI, HNX, HX3, HLX⟩
         case measure => simp [intOf]; omega
       ·have HNX : Hid (I.map (fun x => (x.key, x.val)) = itsN l (j + 1)) := η (by rw [HIT.out, if_neg (by omega)]; exact HMI.out)
        go_wp2_with fail
        go_roundw
        case rel => exact ⟨j + 1, I, xa, xn, xc, by omega, by go_num, rfl, OX3, HSI, HNX, HX3, HLX⟩
        case measure => simp [intOf]; omega
      ·obtain rfl : j = row.n := by omega
       have hlll : l.length = row.n := by have := congrArg List.length HIM.out; rw [List.length_map] at this; have := HRN.out; omega
       have HROW : Hid (RowOk w wr (q + 1) ⟨xa, xn, xc⟩ (itsN l l.length)) := η ⟨I, HOX.out.mono (by omega), HSI.out, by rw [HMI.out, hlll]⟩
       have HLE : Hid (e.items[rows2.length]? = some l) := η (by rw [HRL.out]; exact HLL.out)
       have hrl : rows2.length = k := HRL.out
       have HRZ3 := η (HEX.out.obj HRZ.out)
       have hbx := HEX.out.obj HOE.out.box
       have HBX3 := η hbx
       have hzw := HEX.out.size
       (have b0 := cO (i := 0) (hbx); have b1 := cO (i := 1) (hbx); have b2 := cO (i := 2) (hbx); have b3 := cO (i := 3) (hbx); have bf := fun i => frozen_obj (i := i) (hbx); simp only [gA, gB, gC] at b0 b1 b2 b3)
       clear hbx hlll
       go_wp2_with (at_builtin; refine app_own el_rows2 enc_w rfl _ _ rfl rfl ((HOE.out.own.ext HEX.out).alloc _) rfl (ys := ([⟨xa, xn, xc⟩] : List SV)) ?p1 ?p2 ?p3 ?p4)
       case p1 => exact (Own.lit enc_w (base := 0) (w := wr) [⟨xa, xn, xc⟩] rfl rfl (Nat.zero_le _) (by simp [maxLen])).rd enc_w
       case p2 => exact ⟨by first | omega | (simp; omega), by first | omega | (simp; omega)⟩
       case p3 => first | omega | (simp; omega)
       intro v5 w5 hown hgrow hbel
       obtain ⟨a5, n5, c5, rfl, hn5, hN5⟩ := (hown.rd enc_w).val
       have hN6 : n5 = k + 1 := by have := hN5.out; rw [List.length_append, hrl] at this; exact this
       subst hN6
       have HNX := η (HOE.out.push HEX.out HROW.out HLE.out (by omega) hgrow hown)
       have hk5 := grown_keep hgrow
       have hb5 := hk5.obj (obj_old _ HBX3.out) (fun hj => by have := (HOE.out.own.lt (by simpa using hj)).1; omega)
       have hz5 := hk5.obj (obj_old _ HRZ3.out) (fun hj => by have := (HOE.out.own.lt (by simpa using hj)).1; omega)
       have HZN : Hid ((w5.setCell ⟨q, 2, none⟩ (.slice a5 (k + 1) c5)).heap[w.heap.size + 1]? = some envZ) := η ((heap_setCell_other w5 _ _ _ (show w.heap.size + 1 ≠ q by omega)).trans hz5)
       have HLX : Hid ((rows2 ++ [(⟨xa, xn, xc⟩ : SV)]).length = k + 1) := η (by simp [hrl])
       clear b0 b1 b2 b3 bf hown hgrow hbel hk5 hz5 hrl
       (have b0 := cO (i := 0) (hb5); have b1 := cO (i := 1) (hb5); have b2 := cO (i := 2) (hb5); have b3 := cO (i := 3) (hb5); have bf := fun i => frozen_obj (i := i) (hb5); simp only [gA, gB, gC] at b0 b1 b2 b3)
       clear hb5
       go_wp2_with fail
       go_roundw
       case rel => exact ⟨k + 1, a5, c5, rows2 ++ [⟨xa, xn, xc⟩], by omega, by omega, by go_num, HLX, HNX, HZN⟩
       case measure => simp [intOf]; omega
    ·have hkl : rows2.length = min 10 e.items.length := by rw [HRL.out]; have := hlen.out; have := hIN.out; omega
     have hrz := HRZ.out
     have HRZ2 := η hrz
     have HSF := η (And.intro (set4_same hrz (.slice a1 n1 d1) (.slice a2 n2 d2) (.slice ia k ic) (.slice a3 n3 d3)) (HOE.out.set4 hqb HE.out.ib HE.out.u8 HT1.out HT2.out HT3.out hkl (.slice a1 n1 d1) (.slice a2 n2 d2) (.slice ia k ic) (.slice a3 n3 d3)))
     have hbx := HOE.out.box
     (have b0 := cO (i := 0) (hbx); have b1 := cO (i := 1) (hbx); have b2 := cO (i := 2) (hbx); have b3 := cO (i := 3) (hbx); have bf := fun i => frozen_obj (i := i) (hbx); simp only [gA, gB, gC] at b0 b1 b2 b3)
     (have r0 := cO (i := 0) (HRZ2.out); have r1 := cO (i := 1) (HRZ2.out); have r2 := cO (i := 2) (HRZ2.out); have r3 := cO (i := 3) (HRZ2.out); have rf := fun i => frozen_obj (i := i) (HRZ2.out); simp only [gA, gB, gC] at r0 r1 r2 r3)
     clear hrz hbx hkl
     go_wp2_with fail
     (have hsf := HSF.out; generalize hF : (World.setCell (World.setCell (World.setCell (World.setCell wr ⟨w.heap.size + 1, 0, none⟩ (.slice a1 n1 d1)) ⟨w.heap.size + 1, 1, none⟩ (.slice a2 n2 d2)) ⟨w.heap.size + 1, 2, none⟩ (.slice ia k ic)) ⟨w.heap.size + 1, 3, none⟩ (.slice a3 n3 d3)) = wF at hsf ⊢; obtain ⟨hs, he⟩ := hsf; clear hF; (try simp only [Exit.then]); (repeat (first | go_skip | go_step)); have r0 := cO (i := 0) hs; have r1 := cO (i := 1) hs; have r2 := cO (i := 2) hs; have r3 := cO (i := 3) hs; simp only [gA, gB, gC] at r0 r1 r2 r3; refine bodyPost_ret (by simp [results, Tryz.results24, go_sem, r0, r1, r2, r3]; try rfl) rfl ?_)
     exact ⟨_, _, _, _, _, rfl, he.1, he.2, HCL.out⟩
   ·have hkl : rows2.length = min 10 e.items.length := by rw [HRL.out]; have := hlen.out; have := hIN.out; omega
    have hrz := HRZ.out
    have HRZ2 := η hrz
    have HSF := η (And.intro (set4_same hrz (.slice a1 n1 d1) (.slice a2 n2 d2) (.slice ia k ic) (.slice a3 n3 d3)) (HOE.out.set4 hqb HE.out.ib HE.out.u8 HT1.out HT2.out HT3.out hkl (.slice a1 n1 d1) (.slice a2 n2 d2) (.slice ia k ic) (.slice a3 n3 d3)))
    have hbx := HOE.out.box
    (have b0 := cO (i := 0) (hbx); have b1 := cO (i := 1) (hbx); have b2 := cO (i := 2) (hbx); have b3 := cO (i := 3) (hbx); have bf := fun i => frozen_obj (i := i) (hbx); simp only [gA, gB, gC] at b0 b1 b2 b3)
    (have r0 := cO (i := 0) (HRZ2.out); have r1 := cO (i := 1) (HRZ2.out); have r2 := cO (i := 2) (HRZ2.out); have r3 := cO (i := 3) (HRZ2.out); have rf := fun i => frozen_obj (i := i) (HRZ2.out); simp only [gA, gB, gC] at r0 r1 r2 r3)
    clear hrz hbx hkl
    go_wp2_with fail
    (have hsf := HSF.out; generalize hF : (World.setCell (World.setCell (World.setCell (World.setCell wr ⟨w.heap.size + 1, 0, none⟩ (.slice a1 n1 d1)) ⟨w.heap.size + 1, 1, none⟩ (.slice a2 n2 d2)) ⟨w.heap.size + 1, 2, none⟩ (.slice ia k ic)) ⟨w.heap.size + 1, 3, none⟩ (.slice a3 n3 d3)) = wF at hsf ⊢; obtain ⟨hs, he⟩ := hsf; clear hF; (try simp only [Exit.then]); (repeat (first | go_skip | go_step)); have r0 := cO (i := 0) hs; have r1 := cO (i := 1) hs; have r2 := cO (i := 2) hs; have r3 := cO (i := 3) hs; simp only [gA, gB, gC] at r0 r1 r2 r3; refine bodyPost_ret (by simp [results, Tryz.results24, go_sem, r0, r1, r2, r3]; try rfl) rfl ?_)
    exact ⟨_, _, _, _, _, rfl, he.1, he.2, HCL.out⟩
theorem l11_env (cv dv iv rv : Value) (rows : List SV) (e : EnvD) (w : World) (he : EnvR w e cv dv iv rv rows) : Calls Tryz.prog 24 #[.agg #[cv, dv, iv, rv]] w (EnvA e w) :=
 (l11_env2 cv dv iv rv rows e w he).mono (fun r w' ⟨a, b, c, d, f, h1, h2, h3, _⟩ => ⟨a, b, c, d, f, h1, h2, h3⟩)
def blk (lo hi : Nat) : List Nat := (List.range hi).filter fun q => decide (lo ≤ q)
theorem mem_blk {lo hi q : Nat} : q ∈ blk lo hi ↔ lo ≤ q ∧ q < hi := by
 unfold blk
 simp only [List.mem_filter, List.mem_range, decide_eq_true_eq]
 exact And.comm
theorem step_over {σ : RS} (h : σ.over = true) : σ.step = (σ, 114) := by unfold RS.step; rw [if_pos h]
section
variable {A B A' : Lies} {Q Q' : List Nat} {ba a : Nat} {σ : RS} {w w' u : World}
theorem Two2.both2 (ka : Kept A) (kb : Kept B) (h : Two2 A B Q w) : ∃ F Z, RelT A F Z w w ∧ (∀ q ∈ F, q ∉ Q) ∧ (∀ q ∈ F, q < w.heap.size) ∧ (∀ q ∈ Z, q < w.heap.size) ∧
  ∀ A' w' Q' f z, Keep F w w' → A' w' f z → (∀ j ∈ f, j ∈ F ∨ w.heap.size ≤ j) → (∀ j ∈ z, j ∈ Z ∨ w.heap.size ≤ j) → (∀ q ∈ Q', (w.heap.size ≤ q ∧ q < w'.heap.size) ∧ q ∉ f) → Two2 A' B (Q' ++ Q) w' := by
 obtain ⟨fa, za, fb, zb, h1, h2, h3, h4, h7⟩ := h
 have hla := (ka.lt h1).1
 have hlb := (kb.lt h2).1
 refine ⟨fa, za, ⟨Keep.rfl' _ _, fa, za, h1, fun j hj => .inl hj, fun j hj => .inl hj⟩, fun q hq hQ => (h7 q hQ).2.1 hq, hla, (ka.lt h1).2, ?_⟩
 intro A' w' Q' fa' za' k k1 k2 k3 hq'
 have hs := k.size
 refine ⟨fa', za', fb, zb, k1, kb.keep h2 k (fun j hj hj' => (h3 j hj').1 hj) (fun j hj hj' => (h3 j hj').2 hj), fun j hj => ?_, fun j hj hj' => ?_, fun q hq => ?_⟩
 ·rcases k2 j hj with h | h
  ·exact h3 j h
  ·exact ⟨fun hj' => by have := hlb j hj'; omega, fun hj' => by have := (kb.lt h2).2 j hj'; omega⟩
 ·rcases k3 j hj' with h | h
  ·exact h4 j hj h
  ·have := hlb j hj; omega
 ·rcases List.mem_append.1 hq with hq | hq
  ·obtain ⟨⟨g1, g2⟩, g3⟩ := hq' q hq
   exact ⟨g2, g3, fun hj => by have := hlb q hj; omega⟩
  ·refine ⟨by have := (h7 q hq).1; omega, fun hj => ?_, (h7 q hq).2.2⟩
   rcases k2 q hj with h | h
   ·exact (h7 q hq).2.1 h
   ·have := (h7 q hq).1; omega
theorem Turn.rfl' : Turn Q w w := ⟨[], Keep.rfl' _ _, fun _ h => by cases h⟩
theorem Turn.of_ext (h : Ext w w') : Turn Q w w' := ⟨[], Keep.of_ext h, fun _ h => by cases h⟩
theorem Turn.sub (h : Turn Q w w') (hQ : ∀ q ∈ Q', q ∈ Q) : Turn Q' w w' := by
 obtain ⟨F, k, hF⟩ := h
 exact ⟨F, k, fun q hq => ⟨(hF q hq).1, fun h => (hF q hq).2 (hQ q h)⟩⟩
theorem Turn.obj (h : Turn Q w w') {q : Nat} (hq : q ∈ Q) {o : Obj} (ho : w.heap[q]? = some o) : w'.heap[q]? = some o := by
 obtain ⟨F, k, hF⟩ := h
 exact k.obj ho (fun h => (hF q h).2 hq)
theorem Turn.size (h : Turn Q w w') : w.heap.size ≤ w'.heap.size := by obtain ⟨F, k, _⟩ := h; exact k.size
theorem Turn.erd {F0 Z0 : List Nat} {wf : World} {base mb lo : Nat} {τ : RS} {cv mv : Value} (h : RunOk F0 Z0 wf base mb τ lo w cv mv) (hQ : ∀ q ∈ blk lo w.heap.size, q ∈ Q) (k : Turn Q w u) : ERd u τ.endV cv mv := by
 obtain ⟨F, k, hF⟩ := k
 exact h.erd2 (F := F) (fun q hq => by
  by_cases h1 : q < lo
  ·exact .inl h1
  ·exact absurd (hQ q (mem_blk.2 ⟨by omega, (hF q hq).1⟩)) (hF q hq).2) k
theorem Turn.trans {w2 : World} (h : Turn Q w w') (h2 : Turn Q w' w2) (hQ : ∀ q, w.heap.size ≤ q → q < w'.heap.size → True) : ∃ F, Keep F w w2 ∧ ∀ q ∈ F, q ∉ Q := by
 obtain ⟨F, k, hF⟩ := h
 obtain ⟨G, l, hG⟩ := h2
 refine ⟨F ++ G, (k.mono fun q hq => .inl (List.mem_append_left _ hq)).trans (l.mono fun q hq => .inl (List.mem_append_right _ hq)), fun q hq => ?_⟩
 rcases List.mem_append.1 hq with hq | hq
 ·exact (hF q hq).2
 ·exact (hG q hq).2
def Hold (lo hi : Nat) (w u : World) : Prop := ∃ F, Keep F w u ∧ ∀ q ∈ F, q < lo ∨ hi ≤ q
theorem Hold.rfl' {lo hi : Nat} : Hold lo hi w w := ⟨[], Keep.rfl' _ _, fun _ h => by cases h⟩
theorem Hold.turn {lo hi : Nat} (h : Hold lo hi u w) (hw : hi ≤ w.heap.size) (t : Turn Q w w') (hQ : ∀ q ∈ blk lo hi, q ∈ Q) : Hold lo hi u w' := by
 obtain ⟨F, k, hF⟩ := h
 obtain ⟨G, l, hG⟩ := t
 refine ⟨F ++ G, (k.mono fun q hq => .inl (List.mem_append_left _ hq)).trans (l.mono fun q hq => .inl (List.mem_append_right _ hq)), fun q hq => ?_⟩
 rcases List.mem_append.1 hq with hq | hq
 ·exact hF q hq
 ·by_cases h1 : q < lo
  ·exact .inl h1
  by_cases h2 : q < hi
  ·exact absurd (hQ q (mem_blk.2 ⟨by omega, h2⟩)) (hG q hq).2
  ·exact .inr (by omega)
theorem Hold.ext {lo hi : Nat} (h : Hold lo hi u w) (e : Ext w w') : Hold lo hi u w' := by
 obtain ⟨F, k, hF⟩ := h
 exact ⟨F, k.trans (Keep.of_ext e), hF⟩
theorem Hold.erd {F0 Z0 : List Nat} {wf : World} {base mb lo : Nat} {τ : RS} {cv mv : Value} (k : Hold lo w.heap.size w u) (h : RunOk F0 Z0 wf base mb τ lo w cv mv) : ERd u τ.endV cv mv := by
 obtain ⟨F, k, hF⟩ := k
 exact h.erd2 hF k
theorem two_run2 (fuel : Int) (kb : Kept B) (h : Two2 (PM ba a σ) B Q w) (hba : ba ≤ w.heap.size) (hi : σ.Inv) (hD : DefsOk σ.D) (hsm : CallsSm σ) (hst : σ.steps ≤ 1000000) (hf : fuel ≤ 1000000) (hDl : σ.D.length ≤ 1000000) :
  Calls Tryz.prog 25 #[.pointer (some ⟨a, 0, none⟩), .int .i64 fuel] w (fun e w' => ∃ (lo : Nat) (ca : Option Addr) (cn cc : Nat) (ma : Option Addr) (mn mc : Nat), e = .returned (.agg #[.int .i64 (σ.run fuel).endV.code, .int .i64 (σ.run fuel).endV.at_, .int .u64 (σ.run fuel).endV.r0, .int .i64 (σ.run fuel).endV.steps, .slice ca cn cc, .slice ma mn mc]) ∧
   Two2 (PM ba a (σ.run fuel)) B (blk lo w'.heap.size ++ Q) w' ∧ w.heap.size ≤ lo ∧ Turn Q w w' ∧ ∃ F0 Z0, RunOk F0 Z0 w ba a (σ.run fuel) lo w' (.slice ca cn cc) (.slice ma mn mc)) := by
 obtain ⟨F, Z, h1, h2, h3, h4, h5⟩ := h.both2 PM.kept kb
 refine (p_Run fuel (h1.ps hba) hi hD hsm hst hf hDl).mono ?_
 rintro e w' ⟨lo, cv, mv, rfl, hR⟩
 obtain ⟨cs, c1, -, -⟩ := hR.cs
 obtain ⟨rows, m1, -, -⟩ := hR.mp
 obtain ⟨ca, cn, cc, rfl, -, -⟩ := (c1.rd enc_cb).val
 obtain ⟨ma, mn, mc, rfl, -, -⟩ := (m1.rd enc_w).val
 obtain ⟨f, z, g1, g2, g3⟩ := hR.mach
 exact ⟨lo, ca, cn, cc, ma, mn, mc, rfl, h5 _ _ _ f z hR.keep g1 (fun j hj => (g2 j hj).1) (fun j hj => (g3 j hj).1) (fun q hq => by
  have := mem_blk.1 hq
  have := hR.low.1
  exact ⟨⟨by omega, by omega⟩, fun hj => by have := (g2 q hj).2; omega⟩), hR.low.1, ⟨F, hR.keep, fun q hq => ⟨h3 q hq, h2 q hq⟩⟩, F, Z, hR⟩
theorem Two2.ps (kb : Kept B) (h : Two2 (PM ba a σ) B Q w) (hba : ba ≤ w.heap.size) : ∃ F Z T, PRel F Z w ba w a (σ.vt T) := by
 obtain ⟨F, Z, h1, -⟩ := h.both PM.kept kb
 obtain ⟨T, -, r⟩ := h1.ps hba
 exact ⟨F, Z, T, r⟩
theorem two_over (kb : Kept B) (h : Two2 (PM ba a σ) B Q w) (hba : ba ≤ w.heap.size) : Calls Tryz.prog 26 #[.pointer (some ⟨a, 0, none⟩)] w (fun e w' => e = .returned (.bool σ.over) ∧ Two2 (PM ba a σ) B Q w' ∧ Ext w w') := by
 obtain ⟨F, Z, T, r⟩ := h.ps kb hba
 exact (p_Over r).mono (fun e w' ⟨h1, h2⟩ => ⟨h1, h.ext PM.kept kb h2, h2⟩)
theorem two_at (kb : Kept B) (h : Two2 (PM ba a σ) B Q w) (hba : ba ≤ w.heap.size) : Calls Tryz.prog 31 #[.pointer (some ⟨a, 0, none⟩)] w (fun e w' => e = .returned (.int .i64 σ.place) ∧ Two2 (PM ba a σ) B Q w' ∧ Ext w w') := by
 obtain ⟨F, Z, T, r⟩ := h.ps kb hba
 exact (p_At r).mono (fun e w' ⟨h1, h2⟩ => ⟨h1, h.ext PM.kept kb h2, h2⟩)
theorem two_reg (kb : Kept B) (h : Two2 (PM ba a σ) B Q w) (hba : ba ≤ w.heap.size) (d : Nat) (hd : d ≤ 10) : Calls Tryz.prog 28 #[.pointer (some ⟨a, 0, none⟩), .int .i64 d] w (fun e w' => e = .returned (.tuple #[.int .u64 (σ.R d), .bool (σ.S d)]) ∧ Two2 (PM ba a σ) B Q w' ∧ Ext w w') := by
 obtain ⟨F, Z, T, r⟩ := h.ps kb hba
 exact (p_Reg r d hd).mono (fun e w' ⟨h1, h2⟩ => ⟨h1, h.ext PM.kept kb h2, h2⟩)
end
/-! What the laws begin with. -/
theorem envS_small (e : EnvD) : (envS e).draws.length ≤ 1000000 ∧ (envS e).defs.length ≤ 1000000 := by
 constructor <;> (show (List.take _ _).length ≤ _; rw [List.length_take]; omega)
theorem envS_ib {e : EnvD} (h : ∀ l ∈ e.items, ∀ p ∈ l, ∀ x ∈ p.2, 0 ≤ x ∧ x ≤ 255) : ∀ l ∈ (envS e).items, ∀ p ∈ l, ∀ x ∈ p.2, 0 ≤ x ∧ x ≤ 255 := by
 intro l hl p hp
 simp only [envS, List.mem_map] at hl
 obtain ⟨l0, hl0, rfl⟩ := hl
 exact h l0 (List.mem_of_mem_take hl0) p (itsN_in _ p hp)
theorem envS_u64 {e : EnvD} (h : U64s e.draws) : U64s (envS e).draws := fun x hx => h x (List.mem_of_mem_take hx)
theorem ins_take {L0 : List Ins} (h : InsOk L0) : InsOk (L0.take 520) ∧ (L0.take 520).length ≤ 1000000 :=
 ⟨fun x hx => h x (List.mem_of_mem_take hx), by rw [List.length_take]; omega⟩
structure Front (v cv dv iv rv : Value) (L : List Ins) (e : EnvD) (w : World) : Prop where
 few : ∀ W, Ext w W → Calls Tryz.prog 23 #[v] W fun r w' => ∃ v', r = .returned v' ∧ Rd w' 5 Ins.enc v' L ∧ Ext W w'
 env : ∀ W, Ext w W → Calls Tryz.prog 24 #[.agg #[cv, dv, iv, rv]] W fun r w' => ∃ cv' dv' iv' rv' rows', r = .returned (.agg #[cv', dv', iv', rv']) ∧ EnvR w' e cv' dv' iv' rv' rows' ∧ Ext W w'
 new : ∀ W lv' cv' dv' iv' rv' rows', Rd W 5 Ins.enc lv' L → EnvR W e cv' dv' iv' rv' rows' → Calls Tryz.prog 22 #[lv', .agg #[cv', dv', iv', rv']] W (NewPA (RS.new L e) W)
theorem front {v cv dv iv rv : Value} {rows : List SV} {L0 : List Ins} {e0 : EnvD} {w : World} (h : Rd w 5 Ins.enc v L0) (hok : InsOk L0) (he : EnvR w e0 cv dv iv rv rows) : Front v cv dv iv rv (L0.take 520) (envS e0) w := by
 refine ⟨fun W hW => l11_few v L0 W (h.ext hW), fun W hW => (l11_env cv dv iv rv rows e0 W (he.ext hW)).mono (fun r w' hr => hr), fun W lv' cv' dv' iv' rv' rows' hl hr => ?_⟩
 exact p_New lv' cv' dv' iv' rv' rows' _ _ W hl (ins_take hok).2 (ins_take hok).1 hr (envS_small e0).2 (envS_small e0).1
end Go.Proofs.YtppefchjoodgnaaGreat
namespace Go.Proofs.YtppefchjoodgnaaGreat
open Go.RowKit Go.ChangeShapes Go.WideShapes Go.ChangeAt
set_option linter.unusedVariables false
set_option linter.unusedSimpArgs false
section
variable {H : Type} {enc : TypeId × Value → H} {P : Program}
theorem args_stay (hl : laidOutB P = true) {W W' : World} (hB : Ext W W') : ∀ (ts : List TypeId) (vs : List Value) (ds : List (DataW H)) (ps : List MemPlace),
  (∀ t ∈ ts, P.readableRec t = true ∧ t < P.types.size) → DataW.TrodAll enc P W 0 (fun _ => true) true ts vs ds ps → (∀ p ∈ ps, p.block < W.heap.size) →
  DataW.TrodAll enc P W' 0 (fun b => decide (b < W.heap.size)) true ts vs ds ps
 | [], [], [], ps, _, h, _ => h
 | t :: ts, v :: vs, d :: ds, ps, hr, ⟨p, q, h1, h2, he⟩, hlt => by
  subst he
  exact ⟨p, q, Below.trod hl (hr t List.mem_cons_self).1 (hr t List.mem_cons_self).2 h1 hB (fun x hx => hlt x (List.mem_append_left _ hx)),
   args_stay hl hB ts vs ds q (fun t ht => hr t (List.mem_cons_of_mem _ ht)) h2 (fun x hx => hlt x (List.mem_append_right _ hx)), rfl⟩
 | [], _ :: _, _, _, _, h, _ => by simp [DataW.TrodAll] at h
 | [], [], _ :: _, _, _, h, _ => by simp [DataW.TrodAll] at h
 | _ :: _, [], _, _, _, h, _ => by simp [DataW.TrodAll] at h
 | _ :: _, _ :: _, [], _, _, h, _ => by simp [DataW.TrodAll] at h
theorem law_post {f : Func} {s : ChangeSpec} {W W' : World} {args : Array Value} {ds gs : List (DataW H)} {before : List MemPlace} {tb : TypeId} (hvars : s.vars = [])
  (hW : DataW.Whole enc P f.params.toList s.vars false W args.toList ds gs before) (hB : Ext W W') (hl : laidOutB P = true)
  (hr : ∀ t ∈ f.params.toList, P.readableRec t = true ∧ t < P.types.size) (hres : f.resultTypes = #[tb]) (htb : P.underlying tb = some .bool)
  (hfn : s.fn H (ds ++ gs) = { results := [.lit (.bool true)], args := ds }) :
  s.post enc P f false true false false W args (.bool true) W' := by
 have hlt := hW.lt
 have hW' := hW
 obtain ⟨p, q, hA, hV, rfl, hfz, hnd⟩ := hW
 rw [hvars] at hV
 obtain ⟨rfl, rfl⟩ := trodVars_none hV
 refine ⟨ds, [], p ++ [], [], p, [], hW', ?_, ?_, ?_, hB.frame _, fun h => by cases h⟩
 ·rw [hfn, hres]
  exact trodAll_mk1 (shut_bool htb true)
 ·rw [hfn]
  exact args_stay hl hB _ _ _ _ hr hA (fun x hx => hlt x (List.mem_append_left _ hx))
 ·rw [hfn, hvars]
  rfl
end
end Go.Proofs.YtppefchjoodgnaaGreat
namespace Go.Proofs.YtppefchjoodgnaaGreat
open Go.RowKit Go.ChangeShapes Go.WideShapes Go.ChangeAt Go.Deep
set_option linter.unusedVariables false
set_option linter.unusedSimpArgs false
theorem list_of {α : Type} (Q : Nat → α → Prop) : ∀ n : Nat, (∀ i, i < n → ∃ x, Q i x) → ∃ xs : List α, xs.length = n ∧ ∀ i x, xs[i]? = some x → Q i x
 | 0, _ => ⟨[], rfl, fun i x hx => by simp at hx⟩
 | n + 1, h => by
  obtain ⟨xs, hl, hq⟩ := list_of Q n (fun i hi => h i (by omega))
  obtain ⟨x, hx⟩ := h n (by omega)
  refine ⟨xs ++ [x], by simp [hl], fun i y hy => ?_⟩
  by_cases hi : i < n
  ·rw [List.getElem?_append_left (by omega)] at hy
   exact hq i y hy
  ·rw [List.getElem?_append_right (by omega), hl] at hy
   by_cases h0 : i = n
   ·subst h0
    simp at hy
    subst hy
    exact hx
   ·rw [List.getElem?_eq_none (by simp; omega)] at hy
    cases hy
section
variable {H : Type} {tok : TypeId × Value → H} {P : Program}
theorem open_rows {α : Type} {enc : α → List Value} {sz : Nat} {ok : α → Prop} {t e : TypeId} (ht : P.underlying t = some (.slice e)) (hc : P.cellsOf e = sz) {W : World} {base : Nat} {v : Value} {d : DataW H} {p : List MemPlace}
  (hel : ∀ (n : Nat) (cs : List Value) (y : DataW H × List MemPlace), DataW.trod tok P W 0 (fun _ => true) true n e cs = some y → ∃ x : α, enc x = cs ∧ ok x)
  (hv : Value.okWide P W .any base t v) (h : DataW.Trod tok P W 0 (fun _ => true) true t v d p) : ∃ xs : List α, Rd W sz enc v xs ∧ ∀ x ∈ xs, ok x := by
 obtain ⟨a0, n0, c0, rfl⟩ := okWide_slice ht hv
 obtain ⟨fuel, hf⟩ := h
 rcases open_slice ht hf with ⟨hcs, hx⟩ | ⟨a, len, cap, m, n, D, Pl, hcs, _, hl, hm, hmm, hx, hall⟩
 ·simp [Value.cells] at hcs
  obtain ⟨rfl, rfl, rfl⟩ := hcs
  exact ⟨[], Rd.nil _ _ _, fun x hx => by simp at hx⟩
 ·simp [Value.cells] at hcs
  obtain ⟨rfl, rfl, rfl⟩ := hcs
  simp only [if_true] at hmm
  obtain ⟨xs, hlen, hq⟩ := list_of (fun i x => (∀ j u, (enc x)[j]? = some u → W.cell? (a.add (i * sz + j)) = some u) ∧ ok x) n0 (fun i hi => by
   obtain ⟨cs', hcc, htr⟩ := hall i (by omega)
   obtain ⟨x, he, hok⟩ := hel n cs' _ htr
   obtain ⟨_, hcl, hat⟩ := World.cells?_some hcc
   refine ⟨x, fun j u hu => ?_, hok⟩
   rw [he] at hu
   have hj : j < P.cellsOf e := by rw [← hcl]; exact (List.getElem?_eq_some_iff.1 hu).1
   have := hat j hj
   rw [hu, hc, Addr.add_add] at this
   exact this)
  refine ⟨xs, ⟨some a, c0, by rw [hlen], by omega, hm, fun e => by simp at e, fun i x hx j u hu => ?_⟩, fun x hx => ?_⟩
  ·simpa [elt] using (hq i x hx).1 j u hu
  ·obtain ⟨i, hi⟩ := List.getElem?_of_mem hx
   exact (hq i x hi).2
theorem open_sl_cell {t e : TypeId} {k : IntKind} (ht : P.underlying t = some (.slice e)) (he : P.underlying e = some (.int k)) (hc : P.cellsOf e = 1) {W : World} {n : Nat} {cs : List Value} {y : DataW H × List MemPlace}
  (hf : DataW.trod tok P W 0 (fun _ => true) true n t cs = some y) : ∃ (a0 : Option Addr) (n0 c0 : Nat) (xs : List Int), cs = [.slice a0 n0 c0] ∧ Sl W k (.slice a0 n0 c0) xs ∧ ∀ x ∈ xs, (Lit.int k x).wf = true := by
 rcases open_ints ht he hc hf with ⟨hcs, hx⟩ | ⟨a, len, cap, zs, hcs, _, hl, hm, hz, hx, hcell, hwz⟩
 ·exact ⟨none, 0, 0, [], hcs, Rd.nil _ _ _, fun x hx => by simp at hx⟩
 ·simp only [if_true] at hz
  have hlen : (zs.take len).length = len := by rw [List.length_take]; omega
  refine ⟨some a, len, cap, zs.take len, hcs, ⟨some a, cap, by rw [hlen], by rw [hlen]; exact hl, hm, fun e => by simp at e, ?_⟩, fun x hx => hwz x (List.mem_of_mem_take hx)⟩
  intro i x hx j u hu
  cases j with
  | succ j => simp at hu
  | zero =>
   simp at hu; subst hu
   have hi : i < len := by have := (List.getElem?_eq_some_iff.1 hx).1; omega
   rw [List.getElem?_take_of_lt hi] at hx
   have := hcell i (by omega)
   rw [List.getD_eq_getElem?_getD, hx] at this
   simpa [elt] using this
end
set_option maxRecDepth 100000 in
theorem open_ins {H : Type} {tok : TypeId × Value → H} {W : World} (n : Nat) (cs : List Value) (y : DataW H × List MemPlace) (h : DataW.trod tok Tryz.prog W 0 (fun _ => true) true n 58 cs = some y) : ∃ x : Ins, Ins.enc x = cs ∧ x.Ok := by
 obtain ⟨ys, n', _, _, hlen, hyl, hf⟩ := DataW.trod_struct Tryz.underlying58 h
 have hlen5 : cs.length = 5 := hlen.trans (by kernel_rfl)
 have k5 : Tryz.prog.cellsOf 5 = 1 := by kernel_rfl
 have k3 : Tryz.prog.cellsOf 56 = 1 := by kernel_rfl
 have k22 : Tryz.prog.cellsOf 21 = 1 := by kernel_rfl
 have hy5 : ys.length = 5 := hyl.trans rfl
 match cs, hlen5 with
 | [c0, c1, c2, c3, c4], _ =>
  match ys, hy5 with
  | [y0, y1, y2, y3, y4], _ =>
   have f0 := hf 0 _ rfl
   have f1 := hf 1 _ rfl
   have f2 := hf 2 _ rfl
   have f3 := hf 3 _ rfl
   have f4 := hf 4 _ rfl
   simp only [k5, k3, k22, List.drop, List.take, List.getElem?_cons_zero, List.getElem?_cons_succ] at f0 f1 f2 f3 f4
   obtain ⟨x0, e0, -, w0⟩ := DataW.trod_int Tryz.underlying5 f0
   obtain ⟨x1, e1, -, w1⟩ := DataW.trod_int Tryz.underlying5 f1
   obtain ⟨x2, e2, -, w2⟩ := DataW.trod_int Tryz.underlying5 f2
   obtain ⟨x3, e3, -, w3⟩ := DataW.trod_int Tryz.underlying56 f3
   obtain ⟨x4, e4, -, w4⟩ := DataW.trod_int Tryz.underlying21 f4
   injection e0 with e0
   injection e1 with e1
   injection e2 with e2
   injection e3 with e3
   injection e4 with e4
   refine ⟨⟨x0, x1, x2, x3, x4⟩, ?_, ?_, ?_, ?_, ?_, ?_⟩
   ·simp [Ins.enc, e0, e1, e2, e3, e4]
   ·simpa [Lit.wf, IntKind.min, IntKind.max, IntKind.signed, IntKind.bits] using w0
   ·simpa [Lit.wf, IntKind.min, IntKind.max, IntKind.signed, IntKind.bits] using w1
   ·simpa [Lit.wf, IntKind.min, IntKind.max, IntKind.signed, IntKind.bits] using w2
   ·simpa [Lit.wf, IntKind.min, IntKind.max, IntKind.signed, IntKind.bits] using w3
   ·simpa [Lit.wf, IntKind.min, IntKind.max, IntKind.signed, IntKind.bits] using w4
end Go.Proofs.YtppefchjoodgnaaGreat
