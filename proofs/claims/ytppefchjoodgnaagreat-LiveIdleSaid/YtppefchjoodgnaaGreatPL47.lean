/- What the claim leans on: LIdle. -/
import Derived.Test.YtppefchjoodgnaaGreatPL46
import Derived.Test.YtppefchjoodgnaaGreatPL42
import Derived.Test.YtppefchjoodgnaaGreatPL38
namespace Go.Proofs.YtppefchjoodgnaaGreat
open Go.RowKit
set_option linter.unusedVariables false
set_option linter.unusedSimpArgs false
theorem new_idled {L : List Ins} {e : EnvD} {σ : RS} {n : Int} (h : RS.new L e = some σ) (hp : progS L = true) (hok : InsOk L) : RS.new (idledL L n) e = some (σ.ofL (idledL L n)) := by
 unfold RS.new at h ⊢
 split at h
 ·cases h
 ·rename_i hg
  rw [if_neg (fun h' => hg (by rcases h' with h' | h'; rw [idled_prog hp hok] at h'; cases h'; exact .inr h'))]
  rw [Option.bind_eq_some_iff] at h
  obtain ⟨V, h1, h2⟩ := h
  rw [Option.map_eq_some_iff] at h2
  obtain ⟨V', h3, h4⟩ := h2
  subst h4
  rw [h1, Option.bind_some, h3]
  rfl
theorem inv_idled {L : List Ins} {σ : RS} {n : Int} (h : σ.Inv) (hL : σ.L = L) (hp : progS L = true) (hok : InsOk L) (hn : -2147483648 ≤ n ∧ n ≤ 2147483647) : (σ.ofL (idledL L n)).Inv :=
 ⟨⟨h.core.ok, h.core.tab, h.core.dr, h.core.drl⟩, idled_prog hp hok, idled_ok hok hn, h.calls, ⟨h.place.1, by show (stF false (idledL L n))[σ.place.toNat]? = some true; rw [idled_st hp hok, ← hL]; exact h.place.2⟩⟩
theorem rd_oneI2 (w : World) (y : Ins) : Rd (w.alloc (insObj y)) 5 Ins.enc (.slice (some ⟨w.heap.size, 0, none⟩) 1 1) [y] :=
 (Own.lit enc_ins (base := 0) (w := w) [y] rfl rfl (Nat.zero_le _) (by simp [maxLen])).rd enc_ins
theorem set5I {w : World} {B : Nat} {x : Ins} (h : w.heap[B]? = some (insObj x)) (o d s f i : Int) :
  (((((w.setCell ⟨B, 0, none⟩ (.int .u8 o)).setCell ⟨B, 1, none⟩ (.int .u8 d)).setCell ⟨B, 2, none⟩ (.int .u8 s)).setCell ⟨B, 3, none⟩ (.int .i16 f)).setCell ⟨B, 4, none⟩ (.int .i32 i)).heap[B]? = some (insObj ⟨o, d, s, f, i⟩) := by
 have h0 := heap_setCell_same w B 0 _ _ (.int .u8 o) h
 have h1 := heap_setCell_same _ B 1 _ _ (.int .u8 d) h0
 have h2 := heap_setCell_same _ B 2 _ _ (.int .u8 s) h1
 have h3 := heap_setCell_same _ B 3 _ _ (.int .i16 f) h2
 have h4 := heap_setCell_same _ B 4 _ _ (.int .i32 i) h3
 rw [h4]
 rfl
set_option maxRecDepth 20000 in
set_option maxHeartbeats 32000000 in
theorem lidle_any (v cv dv iv rv : Value) (L0 : List Ins) (e : EnvD) (rows : List SV) (n : Int) (w : World) (h : Rd w 5 Ins.enc v L0) (hok0 : InsOk L0) (he : EnvR w e cv dv iv rv rows) (hu : U64s e.draws) (hn : -2147483648 ≤ n ∧ n ≤ 2147483647) :
  Calls Tryz.prog 4 #[v, .agg #[cv, dv, iv, rv], .int .i32 n] w fun e w' => e = .returned (.bool true) ∧ Ext w w' := by
 have HD0 := η h
 have hok : InsOk (L0.take 150) := fun x hx => hok0 x (List.mem_of_mem_take hx)
 have hl : (L0.take 150).length ≤ 1000000 := by simp; omega
 have HFEW := η (fun W => l_few v L0 W)
 obtain ⟨L, hL⟩ : ∃ L, L0.take 150 = L := ⟨_, rfl⟩
 rw [hL] at hok hl
 have HTK := η hL
 have HOK := η hok
 have HL := η hl
 have HE := η he
 have HU := η hu
 have HNN := η hn
 obtain ⟨ca, cn, cc, rfl, hcn, hCN⟩ := he.ctx.val
 obtain ⟨da, dn, dc, rfl, hdn, hDN⟩ := he.defs.val
 obtain ⟨ia, inn, ic, rfl, hin, hIN⟩ := he.rowsR.val
 obtain ⟨ra, rn, rc, rfl, hrn, hRN⟩ := he.draws.val
 have HLEN := η he.len
 have hIN0 := hIN
 clear h hok0 hok hl hL he hu hn
 go_enter Tryz.func4, Tryz.ntmps4
 go_upto_region 1 with fail
 have HEB : Hid (Ext w (w.alloc (envObj (.slice ca cn cc) (.slice da dn dc) (.slice ia inn ic) (.slice ra rn rc)))) := η (by (repeat (first|exact xE0 _|assumption|refine xE1 ?_ _|refine xE2 ?_|refine xE3 ?_ _|refine xE4 ?_ (by assumption))))
 have HB1 : Hid ((w.alloc (envObj (.slice ca cn cc) (.slice da dn dc) (.slice ia inn ic) (.slice ra rn rc))).heap[w.heap.size]? = some (envObj (.slice ca cn cc) (.slice da dn dc) (.slice ia inn ic) (.slice ra rn rc))) := η (obj_top _ _ rfl)
 go_wp2_with fail
 refine (l_shown _).mono ?_
 rintro e1 w1 ⟨rfl, hE⟩
 have HE1 := η hE
 clear hE
 go_wp2_with fail
 refine (HFEW.out _ (HD0.out.ext (HEB.out.trans' HE1.out))).mono ?_
 rw [HTK.out]
 rintro e2 w2 ⟨v2, rfl, hR2, hE2⟩
 have HD2 := η hR2
 have HE2 := η (HE1.out.trans' hE2)
 obtain ⟨xa, xn, xc, hxv, hxn, hXN⟩ := hR2.val
 subst hxv
 clear hR2 hE2 HE1
 have HBF : Hid (∀ W, Ext w2 W → W.cell? ⟨w.heap.size, 0, none⟩ = some (.slice ca cn cc) ∧ W.cell? ⟨w.heap.size, 1, none⟩ = some (.slice da dn dc) ∧ W.cell? ⟨w.heap.size, 2, none⟩ = some (.slice ia inn ic) ∧ W.cell? ⟨w.heap.size, 3, none⟩ = some (.slice ra rn rc)) := η (fun W k => by
  have := k.obj (HE2.out.obj HB1.out)
  exact ⟨cO this, cO this, cO this, cO this⟩)
 obtain ⟨b0, b1, b2, b3⟩ := HBF.out _ (Ext.rfl' _)
 have HEW2 := η (HEB.out.trans' HE2.out)
 by_cases g1 : 10 < (dn : Int)
 ·go_wp2_with fail
  go_returns
  exact ⟨rfl, HEW2.out⟩
 by_cases g2 : 10 < (inn : Int)
 ·go_wp2_with fail
  go_returns
  exact ⟨rfl, HEW2.out⟩
 by_cases g3 : 100 < (rn : Int)
 ·go_wp2_with fail
  go_returns
  exact ⟨rfl, HEW2.out⟩
 by_cases g4 : 100 < (cn : Int)
 ·go_wp2_with fail
  go_returns
  exact ⟨rfl, HEW2.out⟩
 have HRN : Hid (e.draws.length ≤ 1000000) := η (by rw [← hRN.out]; omega)
 have HEI : Hid (Rd w 1 encW (.slice ia inn ic) rows) := η HE.out.rowsR
 have HII : Hid (inn = rows.length) := hIN
 have HEL : Hid (rows.length = e.items.length) := HLEN
 go_wp2_with fail
 go_loopw [53] (fun q wr => ∃ k : Nat, k ≤ inn ∧ q = .int .i64 k ∧ Hid (Ext w2 wr)) (fun q _ => inn - (intOf q).toNat)
 case atStart => exact ⟨0, Nat.zero_le _, rfl, η (Ext.rfl' _)⟩
 case round =>
  obtain ⟨k, hk, rfl, HX⟩ := hrel
  by_cases hlt : (k : Int) < inn
  ·obtain ⟨row, hrow⟩ := at_of_lt (xs := rows) (k := k) (by have := HII.out; omega)
   obtain ⟨l, hl⟩ := at_of_lt (xs := e.items) (k := k) (by have := HII.out; have := HEL.out; omega)
   obtain ⟨I, hI, hIS, hIl⟩ := HE.out.items k row l hrow hl
   have ix := fun W => HEI.out.run_at (P := Tryz.prog) el_irows.under el_irows.size .i64 (k : Int) (by omega) (by omega) W
   have cx := (HEI.out.ext (HEW2.out.trans' HX.out)).cell hrow (j := 0) rfl
   simp only [Nat.mul_one, Nat.add_zero, Int.toNat_natCast, SV.v] at ix cx
   obtain ⟨wa, wn, wc⟩ := row
   simp only [SV.v] at cx hI
   obtain ⟨wa', wn', wc', hwv, hwn, hWN⟩ := hI.val
   injection hwv with z1 z2 z3
   subst z1 z2 z3
   have HI := η hI
   have HIS := η hIS
   clear hrow hl hI hIS hIl
   go_wp2_with fail
   obtain ⟨wo, rfl⟩ : ∃ u, u = wr := ⟨_, rfl⟩
   go_loopw [59] (fun q wr2 => ∃ m : Nat, m ≤ wn ∧ q = .int .i64 m ∧ Hid (Ext wo wr2)) (fun q _ => wn - (intOf q).toNat)
   case atStart => exact ⟨0, Nat.zero_le _, rfl, η (Ext.rfl' _)⟩
   case round =>
    obtain ⟨m, hm, rfl, HY⟩ := hrel
    have HY2 := η (HX.out.trans' HY.out)
    by_cases hlm : (m : Int) < wn
    ·obtain ⟨y, hy⟩ := at_of_lt (xs := I) (k := m) (by have := hWN.out; omega)
     have iy := fun W => HI.out.run_at (P := Tryz.prog) el_item.under el_item.size .i64 (m : Int) (by omega) (by omega) W
     obtain ⟨c0, c1⟩ := item_cells (HI.out.ext (HEW2.out.trans' HY2.out)) hy
     simp only [Int.toNat_natCast] at iy
     rw [IT.kv] at c0
     rw [IT.vv] at c1
     obtain ⟨kn, hkn⟩ : ∃ q, y.key.length = q := ⟨_, rfl⟩
     obtain ⟨vn, hvn⟩ : ∃ q, y.val.length = q := ⟨_, rfl⟩
     rw [hkn] at c0
     rw [hvn] at c1
     clear hy hkn hvn
     by_cases h20 : 20 ≤ (m : Int)
     ·go_wp2_with fail
      go_returns
      exact ⟨rfl, by have := HEW2.out; have := HY2.out; (repeat (first|exact xE0 _|assumption|refine xE1 ?_ _|refine xE2 ?_|refine xE3 ?_ _|refine xE4 ?_ (by assumption)))⟩
     by_cases h80 : 80 < (kn : Int)
     ·go_wp2_with fail
      go_returns
      exact ⟨rfl, by have := HEW2.out; have := HY2.out; (repeat (first|exact xE0 _|assumption|refine xE1 ?_ _|refine xE2 ?_|refine xE3 ?_ _|refine xE4 ?_ (by assumption)))⟩
     by_cases h81 : 80 < (vn : Int)
     ·go_wp2_with fail
      go_returns
      exact ⟨rfl, by have := HEW2.out; have := HY2.out; (repeat (first|exact xE0 _|assumption|refine xE1 ?_ _|refine xE2 ?_|refine xE3 ?_ _|refine xE4 ?_ (by assumption)))⟩
     go_wp2_with fail
     go_roundw
     case rel => exact ⟨m + 1, by omega, by go_num, η (by have := HY.out; (repeat (first|exact xE0 _|assumption|refine xE1 ?_ _|refine xE2 ?_|refine xE3 ?_ _|refine xE4 ?_ (by assumption))))⟩
     case measure => simp [intOf]; omega
    ·go_wp2_with fail
     go_roundw
     case rel => exact ⟨k + 1, by omega, by go_num, HY2⟩
     case measure => simp [intOf]; omega
  ·clear b0 b1 b2 b3
   obtain ⟨b0, b1, b2, b3⟩ := HBF.out _ HX.out
   have HX3 := η HX.out
   obtain ⟨res, hres⟩ : ∃ r, RS.new L e = r := ⟨_, rfl⟩
   have HNEW := η (fun W (k : Ext wr W) => m_New (.slice xa xn xc) (.slice ca cn cc) (.slice da dn dc) (.slice ia inn ic) (.slice ra rn rc) rows L e W (HD2.out.ext (HX3.out.trans' k)) HL.out HOK.out (HE.out.ext (HEW2.out.trans' (HX3.out.trans' k))) HRN.out)
   rw [hres] at HNEW
   clear b0 b1 b2 b3
   go_wp2_with fail
   refine (l_Idle (.slice xa xn xc) L _ (HD2.out.ext HX3.out) HL.out HOK.out).mono ?_
   rintro e3 w3 ⟨va, rfl, hO, hE3⟩
   have HA := η (hO.rd enc_bool)
   have HE3 := η hE3
   obtain ⟨aa, an, ac, hav, han, hAN⟩ := HA.out.val
   subst hav
   clear hO hE3
   obtain ⟨b0, b1, b2, b3⟩ := HBF.out _ (HX.out.trans' HE3.out)
   cases res with
   | none =>
    clear hres
    go_wp2_with fail
    refine (HNEW.out _ HE3.out).mono ?_
    rintro e4 w4 ⟨rfl, hE4⟩
    have HE4 := η (HE3.out.trans' hE4)
    clear b0 b1 b2 b3 hE4
    go_wp2_with fail
    go_returns
    exact ⟨rfl, HEW2.out.trans' (HX.out.trans' HE4.out)⟩
   | some σ =>
    obtain ⟨hinv, hsL, hsD, hd8, hov, hstp, hpl, hcl, hcd⟩ := new_inv hres HOK.out HU.out HRN.out
    have hby := new_bytes hres HE.out.u8 HE.out.ib
    have hprog : progS L = true := by rw [← hsL]; exact hinv.prog
    have HINV := η (And.intro hinv hby)
    have HSL := η hsL
    have HDD : Hid (σ.D.length ≤ 1000000) := η (by rw [hsD]; omega)
    have HPR := η hprog
    have HRES := η hres
    clear hinv hsL hsD hd8 hov hstp hpl hcl hcd hby hprog hres
    have hil : (idleL L).length = L.length := by unfold idleL; rw [List.length_map, List.length_range, liveB_length HPR.out]
    obtain rfl : an = xn := by rw [hXN.out, hAN.out, hil]
    have hne : ((an : Int) != an) = false := by simp
    have HIL := η hil
    clear hil
    go_wp2_with fail
    refine (HNEW.out _ HE3.out).mono ?_
    rintro e4 w4 ⟨a, rfl, hMa⟩
    have HMA := η hMa
    have hE4 : Ext w3 w4 := hMa.keep.ext (fun _ h => by cases h)
    have HE4 := η (HE3.out.trans' hE4)
    clear b0 b1 b2 b3 hMa hE4
    go_wp2_with fail
    refine (m_Run 600 HMA.out HINV.out.1 (by omega) HDD.out).mono ?_
    rintro e5 w5 ⟨cv1, mv1, rfl, hM5, hEnd1⟩
    have hE5 : Ext w3 w5 := hM5.keep.ext (fun _ h => by cases h)
    have HR1 := η (hEnd1 [] w5 (fun _ h => by cases h) (Keep.rfl' _ _))
    have HE5 := η (HE3.out.trans' hE5)
    obtain ⟨cs0, rows0, hcs0, -, -, hmr0, -⟩ := HR1.out
    obtain ⟨ca1, cn1, cc1, hcv1, -, -⟩ := hcs0.val
    obtain ⟨ma1, mn1, mc1, hmv1, -, -⟩ := hmr0.val
    subst hcv1 hmv1
    have HPL := η (run_idle (n := n) HINV.out.1 HINV.out.2 600)
    obtain ⟨E1, hE1⟩ : ∃ c, (σ.run 600).endV = c := ⟨_, rfl⟩
    rw [hE1] at HR1 HPL ⊢
    have HA5 := η (HA.out.ext hE5)
    clear hM5 hEnd1 hE5 hcs0 hmr0 hE1 HA
    go_upto_region 22 with fail
    obtain ⟨w6, hw6⟩ : ∃ u, w5.alloc (endOb E1.code E1.at_ E1.r0 E1.steps (.slice ca1 cn1 cc1) (.slice ma1 mn1 mc1)) = u := ⟨_, rfl⟩
    have HE6 : Hid (Ext wr w6) := η (by rw [← hw6]; exact HE5.out.alloc' _)
    have HA6 : Hid (Rd w6 1 encBo (.slice aa an ac) (idleL L)) := η (HA5.out.ext (by rw [← hw6]; (repeat (first|exact xE0 _|assumption|refine xE1 ?_ _|refine xE2 ?_|refine xE3 ?_ _|refine xE4 ?_ (by assumption)))))
    have HR6 : Hid (ERd w6 E1 (.slice ca1 cn1 cc1) (.slice ma1 mn1 mc1)) := η (HR1.out.ext (by rw [← hw6]; (repeat (first|exact xE0 _|assumption|refine xE1 ?_ _|refine xE2 ?_|refine xE3 ?_ _|refine xE4 ?_ (by assumption)))))
    have HO6 : Hid (w6.heap[w5.heap.size]? = some (endOb E1.code E1.at_ E1.r0 E1.steps (.slice ca1 cn1 cc1) (.slice ma1 mn1 mc1))) := η (by rw [← hw6]; exact obj_top _ _ rfl)
    have hsz6 : w5.heap.size < w6.heap.size := by rw [← hw6]; simp
    rw [hw6]
    clear hw6 HA5 HR1 HE4 HE5
    go_wp2_with fail
    obtain ⟨wp, rfl⟩ : ∃ u, u = wr := ⟨_, rfl⟩
    go_loopw [17, 101] (fun v17 q wr2 => ∃ (k : Nat) (ya : Option Addr) (yc : Nat), k ≤ an ∧ q = .int .i64 k ∧ v17 = .slice ya k yc ∧ Hid (Ext w6 wr2 ∧ Own wr2 w6.heap.size 58 5 Ins.enc (.slice ya k yc) ((idledL L n).take k))) (fun _ q _ => an - (intOf q).toNat)
    case atStart => exact ⟨0, none, 0, Nat.zero_le _, rfl, rfl, η ⟨Ext.rfl' _, by rw [List.take_zero]; exact Own.nil _ _ _ _ _⟩⟩
    case round =>
     obtain ⟨k, ya, yc, hk, rfl, rfl, HI⟩ := hrel
     have hE7 := HI.out.1
     have HE7 := η hE7
     have HY := η HI.out.2
     clear HI
     by_cases hlt : (k : Int) < an
     ·obtain ⟨x, hx⟩ := at_of_lt (xs := L) (k := k) (by have := hXN.out; omega)
      obtain ⟨di, hdi⟩ : ∃ di, idleK L k = di := ⟨_, rfl⟩
      have hid : (idleL L)[k]? = some di := by
       unfold idleL
       rw [List.getElem?_map, List.getElem?_range (by rw [liveB_length HPR.out]; exact lt_at hx), Option.map_some, hdi]
      have ix := fun W => HD2.out.run_at (P := Tryz.prog) el_ins.under el_ins.size .i64 (k : Int) (by omega) (by omega) W
      have ia := fun W => HA6.out.run_at (P := Tryz.prog) el_bool.under el_bool.size .i64 (k : Int) (by omega) (by omega) W
      obtain ⟨i0, i1, i2, i3, i4⟩ := ins_cells (HD2.out.ext (HX3.out.trans' (HE6.out.trans' hE7))) hx
      have HCA := η (fun W (he : Ext wr W) => (HA6.out.ext (hE7.trans' he)).cell hid (j := 0) rfl)
      simp only [Int.toNat_natCast] at ix ia
      have HXO := HOK.out.at hx
      have HTK1 : Hid ((idledL L n).take (k + 1) = (idledL L n).take k ++ [idled L n k x]) := η (by rw [List.take_add_one, idled_at, hx]; rfl)
      have HID : Hid (idled L n k x = if (di && ((whatZ x).kind == 1 || ((whatZ x).kind == 2 || (whatZ x).kind == 5))) = true then movI x.dst n else x) := η (by rw [← hdi]; rfl)
      have hl8 : ((idledL L n).take k).length ≤ 1000000 := by
       have := HL.out
       rw [List.length_take, idled_len]; omega
      clear hx hid hdi hE7
      go_wp2_with fail
      refine (r_What x _ HXO).mono ?_
      rintro e8 w8 ⟨rfl, hE8⟩
      obtain ⟨y, hy⟩ : ∃ y, (whatS x).getD Wh.zero = y := ⟨_, rfl⟩
      have hz : whatZ x = y := by unfold whatZ; rw [hy]
      rw [hy]
      rw [hz] at HID
      have hsz := hE8.size
      simp only [World.size_alloc] at hsz
      have HE8 : Hid (Ext wr (w8.alloc (whObj y))) := η ((((Ext.rfl' wr).alloc' _).trans' hE8).alloc' _)
      have ca := HCA.out _ HE8.out
      simp only [Nat.mul_one, Nat.add_zero] at ca
      have HZB : Hid ((w8.alloc (whObj y)).heap[wr.heap.size]? = some (insObj x)) := η (obj_old _ (hE8.obj (obj_top _ _ rfl)))
      obtain ⟨y0, y1, y2, y3, y4, y5⟩ := y
      have HZW : Hid ((w8.alloc (whObj ⟨y0, y1, y2, y3, y4, y5⟩)).heap[w8.heap.size]? = some (whObj ⟨y0, y1, y2, y3, y4, y5⟩)) := η (obj_top _ _ rfl)
      simp only at HID
      clear hy hz hE8 i0 i1 i2 i3 i4
      go_upto_region 27 with fail
      obtain ⟨w9, hw9⟩ : ∃ u, w8.alloc (whObj ⟨y0, y1, y2, y3, y4, y5⟩) = u := ⟨_, rfl⟩
      rw [hw9] at ca HZB HZW HE8 ⊢
      have q0 := cO (i := 0) HZW.out
      clear hw9
      cases di with
      | false =>
       have HZ9 : Hid (idled L n k x = x) := η (by rw [HID.out]; simp [])
       have z0 := cO (i := 0) HZB.out
       have z1 := cO (i := 1) HZB.out
       have z2 := cO (i := 2) HZB.out
       have z3 := cO (i := 3) HZB.out
       have z4 := cO (i := 4) HZB.out
       go_upto_region 29 with fail
       have HY9 := η (HY.out.ext HE8.out)
       have HE9 := η (HE7.out.trans' HE8.out)
       go_wp2_with (at_builtin; refine app_own el_ins enc_ins rfl _ _ rfl rfl (HY9.out.alloc _) rfl (ys := [x]) ?r1a ?r2a ?r3a ?r4a)
       case r1a => exact rd_oneI2 _ _
       case r2a => simp at hl8 ⊢; omega
       case r3a => have := HE9.out.size; simp; omega
       intro v' w11 hown hgrow hmv
       have HX11 : Hid (Ext w6 w11) := η (hmv _ _ (HE9.out.alloc' _) (Nat.le_refl _))
       rw [← HZ9.out, ← HTK1.out] at hown
       obtain ⟨a3, n3, c3', hv3, hn3, hN3⟩ := (hown.rd enc_ins).val
       subst hv3
       have hn4 : n3 = k + 1 := by rw [hN3.out, List.length_take, idled_len]; have := hXN.out; omega
       subst hn4
       have HO11 := η hown
       clear hown hgrow hmv
       go_wp2_with fail
       go_roundw
       case rel => exact ⟨k + 1, a3, c3', by omega, by go_num, rfl, η ⟨HX11.out, HO11.out⟩⟩
       case measure => simp [intOf]; omega
      | true =>
       have hk1 : y0 = 1 ∨ y0 = 2 ∨ y0 = 5 ∨ (y0 ≠ 1 ∧ y0 ≠ 2 ∧ y0 ≠ 5) := by omega
       rcases hk1 with rfl | rfl | rfl | ⟨hn1, hn2, hn5⟩
       ·have HZ9 : Hid (idled L n k x = movI x.dst n) := η (by rw [HID.out]; simp)
        have z0 := cO (i := 0) HZB.out
        have z1 := cO (i := 1) HZB.out
        have z2 := cO (i := 2) HZB.out
        have z3 := cO (i := 3) HZB.out
        have z4 := cO (i := 4) HZB.out
        have zf := fun i => frozen_obj (i := i) HZB.out
        go_upto_region 29 with fail
        obtain ⟨wA, hwA⟩ : ∃ u, ((((w9.setCell ⟨wr.heap.size, 0, none⟩ (.int .u8 183)).setCell ⟨wr.heap.size, 1, none⟩ (.int .u8 x.dst)).setCell ⟨wr.heap.size, 2, none⟩ (.int .u8 0)).setCell ⟨wr.heap.size, 3, none⟩ (.int .i16 0)).setCell ⟨wr.heap.size, 4, none⟩ (.int .i32 n) = u := ⟨_, rfl⟩
        have HZA : Hid (wA.heap[wr.heap.size]? = some (insObj (movI x.dst n))) := η (by rw [← hwA]; exact set5I HZB.out _ _ _ _ _)
        have HEA : Hid (Ext wr wA) := η (by rw [← hwA]; exact ((((HE8.out.setCell (Nat.le_refl _) _).setCell (Nat.le_refl _) _).setCell (Nat.le_refl _) _).setCell (Nat.le_refl _) _).setCell (Nat.le_refl _) _)
        rw [hwA]
        clear hwA z0 z1 z2 z3 z4 zf
        have z0 : wA.cell? ⟨wr.heap.size, 0, none⟩ = some (.int .u8 183) := cO (i := 0) HZA.out
        have z1 : wA.cell? ⟨wr.heap.size, 1, none⟩ = some (.int .u8 x.dst) := cO (i := 1) HZA.out
        have z2 : wA.cell? ⟨wr.heap.size, 2, none⟩ = some (.int .u8 0) := cO (i := 2) HZA.out
        have z3 : wA.cell? ⟨wr.heap.size, 3, none⟩ = some (.int .i16 0) := cO (i := 3) HZA.out
        have z4 : wA.cell? ⟨wr.heap.size, 4, none⟩ = some (.int .i32 n) := cO (i := 4) HZA.out
        have HY9 := η (HY.out.ext HEA.out)
        have HE9 := η (HE7.out.trans' HEA.out)
        go_wp2_with (at_builtin; refine app_own el_ins enc_ins rfl _ _ rfl rfl (HY9.out.alloc _) rfl (ys := [movI x.dst n]) ?r1b ?r2b ?r3b ?r4b)
        case r1b => exact rd_oneI2 _ _
        case r2b => simp at hl8 ⊢; omega
        case r3b => have := HE9.out.size; simp; omega
        intro v' w11 hown hgrow hmv
        have HX11 : Hid (Ext w6 w11) := η (hmv _ _ (HE9.out.alloc' _) (Nat.le_refl _))
        rw [← HZ9.out, ← HTK1.out] at hown
        obtain ⟨a3, n3, c3', hv3, hn3, hN3⟩ := (hown.rd enc_ins).val
        subst hv3
        have hn4 : n3 = k + 1 := by rw [hN3.out, List.length_take, idled_len]; have := hXN.out; omega
        subst hn4
        have HO11 := η hown
        clear hown hgrow hmv
        go_wp2_with fail
        go_roundw
        case rel => exact ⟨k + 1, a3, c3', by omega, by go_num, rfl, η ⟨HX11.out, HO11.out⟩⟩
        case measure => simp [intOf]; omega
       ·have HZ9 : Hid (idled L n k x = movI x.dst n) := η (by rw [HID.out]; simp)
        have z0 := cO (i := 0) HZB.out
        have z1 := cO (i := 1) HZB.out
        have z2 := cO (i := 2) HZB.out
        have z3 := cO (i := 3) HZB.out
        have z4 := cO (i := 4) HZB.out
        have zf := fun i => frozen_obj (i := i) HZB.out
        go_upto_region 29 with fail
        obtain ⟨wA, hwA⟩ : ∃ u, ((((w9.setCell ⟨wr.heap.size, 0, none⟩ (.int .u8 183)).setCell ⟨wr.heap.size, 1, none⟩ (.int .u8 x.dst)).setCell ⟨wr.heap.size, 2, none⟩ (.int .u8 0)).setCell ⟨wr.heap.size, 3, none⟩ (.int .i16 0)).setCell ⟨wr.heap.size, 4, none⟩ (.int .i32 n) = u := ⟨_, rfl⟩
        have HZA : Hid (wA.heap[wr.heap.size]? = some (insObj (movI x.dst n))) := η (by rw [← hwA]; exact set5I HZB.out _ _ _ _ _)
        have HEA : Hid (Ext wr wA) := η (by rw [← hwA]; exact ((((HE8.out.setCell (Nat.le_refl _) _).setCell (Nat.le_refl _) _).setCell (Nat.le_refl _) _).setCell (Nat.le_refl _) _).setCell (Nat.le_refl _) _)
        rw [hwA]
        clear hwA z0 z1 z2 z3 z4 zf
        have z0 : wA.cell? ⟨wr.heap.size, 0, none⟩ = some (.int .u8 183) := cO (i := 0) HZA.out
        have z1 : wA.cell? ⟨wr.heap.size, 1, none⟩ = some (.int .u8 x.dst) := cO (i := 1) HZA.out
        have z2 : wA.cell? ⟨wr.heap.size, 2, none⟩ = some (.int .u8 0) := cO (i := 2) HZA.out
        have z3 : wA.cell? ⟨wr.heap.size, 3, none⟩ = some (.int .i16 0) := cO (i := 3) HZA.out
        have z4 : wA.cell? ⟨wr.heap.size, 4, none⟩ = some (.int .i32 n) := cO (i := 4) HZA.out
        have HY9 := η (HY.out.ext HEA.out)
        have HE9 := η (HE7.out.trans' HEA.out)
        go_wp2_with (at_builtin; refine app_own el_ins enc_ins rfl _ _ rfl rfl (HY9.out.alloc _) rfl (ys := [movI x.dst n]) ?r1c ?r2c ?r3c ?r4c)
        case r1c => exact rd_oneI2 _ _
        case r2c => simp at hl8 ⊢; omega
        case r3c => have := HE9.out.size; simp; omega
        intro v' w11 hown hgrow hmv
        have HX11 : Hid (Ext w6 w11) := η (hmv _ _ (HE9.out.alloc' _) (Nat.le_refl _))
        rw [← HZ9.out, ← HTK1.out] at hown
        obtain ⟨a3, n3, c3', hv3, hn3, hN3⟩ := (hown.rd enc_ins).val
        subst hv3
        have hn4 : n3 = k + 1 := by rw [hN3.out, List.length_take, idled_len]; have := hXN.out; omega
        subst hn4
        have HO11 := η hown
        clear hown hgrow hmv
        go_wp2_with fail
        go_roundw
        case rel => exact ⟨k + 1, a3, c3', by omega, by go_num, rfl, η ⟨HX11.out, HO11.out⟩⟩
        case measure => simp [intOf]; omega
       ·have HZ9 : Hid (idled L n k x = movI x.dst n) := η (by rw [HID.out]; simp)
        have z0 := cO (i := 0) HZB.out
        have z1 := cO (i := 1) HZB.out
        have z2 := cO (i := 2) HZB.out
        have z3 := cO (i := 3) HZB.out
        have z4 := cO (i := 4) HZB.out
        have zf := fun i => frozen_obj (i := i) HZB.out
        go_upto_region 29 with fail
        obtain ⟨wA, hwA⟩ : ∃ u, ((((w9.setCell ⟨wr.heap.size, 0, none⟩ (.int .u8 183)).setCell ⟨wr.heap.size, 1, none⟩ (.int .u8 x.dst)).setCell ⟨wr.heap.size, 2, none⟩ (.int .u8 0)).setCell ⟨wr.heap.size, 3, none⟩ (.int .i16 0)).setCell ⟨wr.heap.size, 4, none⟩ (.int .i32 n) = u := ⟨_, rfl⟩
        have HZA : Hid (wA.heap[wr.heap.size]? = some (insObj (movI x.dst n))) := η (by rw [← hwA]; exact set5I HZB.out _ _ _ _ _)
        have HEA : Hid (Ext wr wA) := η (by rw [← hwA]; exact ((((HE8.out.setCell (Nat.le_refl _) _).setCell (Nat.le_refl _) _).setCell (Nat.le_refl _) _).setCell (Nat.le_refl _) _).setCell (Nat.le_refl _) _)
        rw [hwA]
        clear hwA z0 z1 z2 z3 z4 zf
        have z0 : wA.cell? ⟨wr.heap.size, 0, none⟩ = some (.int .u8 183) := cO (i := 0) HZA.out
        have z1 : wA.cell? ⟨wr.heap.size, 1, none⟩ = some (.int .u8 x.dst) := cO (i := 1) HZA.out
        have z2 : wA.cell? ⟨wr.heap.size, 2, none⟩ = some (.int .u8 0) := cO (i := 2) HZA.out
        have z3 : wA.cell? ⟨wr.heap.size, 3, none⟩ = some (.int .i16 0) := cO (i := 3) HZA.out
        have z4 : wA.cell? ⟨wr.heap.size, 4, none⟩ = some (.int .i32 n) := cO (i := 4) HZA.out
        have HY9 := η (HY.out.ext HEA.out)
        have HE9 := η (HE7.out.trans' HEA.out)
        go_wp2_with (at_builtin; refine app_own el_ins enc_ins rfl _ _ rfl rfl (HY9.out.alloc _) rfl (ys := [movI x.dst n]) ?r1d ?r2d ?r3d ?r4d)
        case r1d => exact rd_oneI2 _ _
        case r2d => simp at hl8 ⊢; omega
        case r3d => have := HE9.out.size; simp; omega
        intro v' w11 hown hgrow hmv
        have HX11 : Hid (Ext w6 w11) := η (hmv _ _ (HE9.out.alloc' _) (Nat.le_refl _))
        rw [← HZ9.out, ← HTK1.out] at hown
        obtain ⟨a3, n3, c3', hv3, hn3, hN3⟩ := (hown.rd enc_ins).val
        subst hv3
        have hn4 : n3 = k + 1 := by rw [hN3.out, List.length_take, idled_len]; have := hXN.out; omega
        subst hn4
        have HO11 := η hown
        clear hown hgrow hmv
        go_wp2_with fail
        go_roundw
        case rel => exact ⟨k + 1, a3, c3', by omega, by go_num, rfl, η ⟨HX11.out, HO11.out⟩⟩
        case measure => simp [intOf]; omega
       ·have hm1 : (y0 == 1) = false := by simpa using hn1
        have hm2 : (y0 == 2) = false := by simpa using hn2
        have hm5 : (y0 == 5) = false := by simpa using hn5
        have HZ9 : Hid (idled L n k x = x) := η (by rw [HID.out]; simp [hm1, hm2, hm5])
        have z0 := cO (i := 0) HZB.out
        have z1 := cO (i := 1) HZB.out
        have z2 := cO (i := 2) HZB.out
        have z3 := cO (i := 3) HZB.out
        have z4 := cO (i := 4) HZB.out
        go_upto_region 29 with fail
        have HY9 := η (HY.out.ext HE8.out)
        have HE9 := η (HE7.out.trans' HE8.out)
        go_wp2_with (at_builtin; refine app_own el_ins enc_ins rfl _ _ rfl rfl (HY9.out.alloc _) rfl (ys := [x]) ?r1e ?r2e ?r3e ?r4e)
        case r1e => exact rd_oneI2 _ _
        case r2e => simp at hl8 ⊢; omega
        case r3e => have := HE9.out.size; simp; omega
        intro v' w11 hown hgrow hmv
        have HX11 : Hid (Ext w6 w11) := η (hmv _ _ (HE9.out.alloc' _) (Nat.le_refl _))
        rw [← HZ9.out, ← HTK1.out] at hown
        obtain ⟨a3, n3, c3', hv3, hn3, hN3⟩ := (hown.rd enc_ins).val
        subst hv3
        have hn4 : n3 = k + 1 := by rw [hN3.out, List.length_take, idled_len]; have := hXN.out; omega
        subst hn4
        have HO11 := η hown
        clear hown hgrow hmv
        go_wp2_with fail
        go_roundw
        case rel => exact ⟨k + 1, a3, c3', by omega, by go_num, rfl, η ⟨HX11.out, HO11.out⟩⟩
        case measure => simp [intOf]; omega
     ·obtain rfl : k = an := by omega
      have HYL : Hid ((idledL L n).take k = idledL L n) := η (List.take_of_length_le (by rw [idled_len]; have := hXN.out; omega))
      rw [HYL.out] at HY
      have HLY : Hid (RS.new (idledL L n) e = some (σ.ofL (idledL L n))) := η (new_idled HRES.out HPR.out HOK.out)
      have HNEW2 := η (fun W (q : Ext wr W) => m_New (.slice ya k yc) (.slice ca cn cc) (.slice da dn dc) (.slice ia inn ic) (.slice ra rn rc) rows (idledL L n) e W ((HY.out.rd enc_ins).ext q) (by rw [idled_len]; exact HL.out) (idled_ok HOK.out HNN.out) (HE.out.ext (HEW2.out.trans' (HX3.out.trans' (HE6.out.trans' (HE7.out.trans' q))))) HRN.out)
      rw [HLY.out] at HNEW2
      obtain ⟨b0, b1, b2, b3⟩ := HBF.out _ (HX3.out.trans' (HE6.out.trans' HE7.out))
      go_wp2_with fail
      refine (HNEW2.out _ (Ext.rfl' _)).mono ?_
      rintro e8 w8 ⟨b, rfl, hMb⟩
      have HMB := η hMb
      have hE8 : Ext wr w8 := hMb.keep.ext (fun _ h => by cases h)
      have HE8 := η hE8
      have HO8 := η ((HE7.out.trans' hE8).obj HO6.out)
      have HR8 := η (HR6.out.ext (HE7.out.trans' hE8))
      have HIN2 : Hid ((σ.ofL (idledL L n)).Inv) := η (inv_idled HINV.out.1 HSL.out HPR.out HOK.out HNN.out)
      have HEW8 : Hid (Ext w w8) := η (HEW2.out.trans' (HX3.out.trans' (HE6.out.trans' (HE7.out.trans' hE8))))
      clear b0 b1 b2 b3 hMb hE8
      have HO6x := η (HE7.out.obj HO6.out)
      have HR6x := η (HR6.out.ext HE7.out)
      have o0 := cO (i := 0) HO8.out
      have o1 := cO (i := 1) HO8.out
      have o2 := cO (i := 2) HO8.out
      have o3 := cO (i := 3) HO8.out
      have o4 := cO (i := 4) HO8.out
      have o5 := cO (i := 5) HO8.out
      have HRUN := η (fun W (q : Ext w8 W) => m_Run 600 (HMB.out.go q) HIN2.out (by omega) HDD.out)
      have HPLL : Hid ((E1.code ≠ 0 ∧ E1.code ≠ 111 ∧ E1.code ≠ 100) ∨ ((σ.ofL (idledL L n)).run 600).endV = E1) := η (by have := HPL.out; rw [HSL.out] at this; exact this)
      clear HPL
      go_upto_region 34 with fail
      obtain ⟨c1, a1, r1, t1, l1, M1⟩ := E1
      simp only at *
      by_cases hc0 : c1 = 0
      ·subst hc0
       have HEQV : Hid (((σ.ofL (idledL L n)).run 600).endV = ⟨0, a1, r1, t1, l1, M1⟩) := η (HPLL.out.resolve_left (by simp))
       refine wp_region_any (by kernel_rfl) ?_
       change wpAny _ _ _ _ _ _ _ (World.drew _)
       refine wpAny_ready (rs := [0]) (by kernel_rfl) (by simp) ?_
       refine AllReady.cons rfl (fun K hK => ?_) AllReady.nil
       go_simp
       refine hK _ _ ?_
       clear hK K
       refine wpAny_ready (rs := [1]) (by kernel_rfl) (by simp) ?_
       refine AllReady.cons rfl (fun K hK => ?_) AllReady.nil
       go_simp
       refine hK _ _ ?_
       clear hK K
       refine wpAny_ready (rs := [2]) (by kernel_rfl) (by simp) ?_
       refine AllReady.cons rfl (fun K hK => ?_) AllReady.nil
       go_simp
       refine hK _ _ ?_
       clear hK K
       refine wpAny_ready (rs := [3]) (by kernel_rfl) (by simp) ?_
       refine AllReady.cons rfl (fun K hK => ?_) AllReady.nil
       go_simp
       refine hK _ _ ?_
       clear hK K
       refine wpAny_ready (rs := [4]) (by kernel_rfl) (by simp) ?_
       refine AllReady.cons rfl (fun K hK => ?_) AllReady.nil
       go_simp
       refine hK _ _ ?_
       clear hK K
       refine wpAny_ready (rs := [5]) (by kernel_rfl) (by simp) ?_
       refine AllReady.cons rfl (fun K hK => ?_) AllReady.nil
       go_simp
       refine hK _ _ ?_
       clear hK K
       refine wpAny_ready (rs := [6]) (by kernel_rfl) (by simp) ?_
       refine AllReady.cons rfl (fun K hK => ?_) AllReady.nil
       go_simp
       refine hK _ _ ?_
       clear hK K
       refine wpAny_ready (rs := [7]) (by kernel_rfl) (by simp) ?_
       refine AllReady.cons rfl (fun K hK => ?_) AllReady.nil
       go_simp
       refine hK _ _ ?_
       clear hK K
       refine wpAny_ready (rs := [8]) (by kernel_rfl) (by simp) ?_
       refine AllReady.cons rfl (fun K hK => ?_) AllReady.nil
       go_simp
       refine hK _ _ ?_
       clear hK K
       refine wpAny_ready (rs := [9]) (by kernel_rfl) (by simp) ?_
       refine AllReady.cons rfl (fun K hK => ?_) AllReady.nil
       go_simp
       refine hK _ _ ?_
       clear hK K
       refine wpAny_ready (rs := [10]) (by kernel_rfl) (by simp) ?_
       refine AllReady.cons rfl (fun K hK => ?_) AllReady.nil
       go_simp
       refine hK _ _ ?_
       clear hK K
       refine wpAny_ready (rs := [11]) (by kernel_rfl) (by simp) ?_
       refine AllReady.cons rfl (fun K hK => ?_) AllReady.nil
       go_simp
       refine hK _ _ ?_
       clear hK K
       refine wpAny_ready (rs := [12]) (by kernel_rfl) (by simp) ?_
       refine AllReady.cons rfl (fun K hK => ?_) AllReady.nil
       go_simp
       refine hK _ _ ?_
       clear hK K
       refine wpAny_ready (rs := [13]) (by kernel_rfl) (by simp) ?_
       refine AllReady.cons rfl (fun K hK => ?_) AllReady.nil
       go_simp
       refine hK _ _ ?_
       clear hK K
       refine wpAny_ready (rs := [14]) (by kernel_rfl) (by simp) ?_
       refine AllReady.cons rfl (fun K hK => ?_) AllReady.nil
       go_simp
       refine hK _ _ ?_
       clear hK K
       refine wpAny_ready (rs := [15]) (by kernel_rfl) (by simp) ?_
       refine AllReady.cons rfl (fun K hK => ?_) AllReady.nil
       go_simp
       refine hK _ _ ?_
       clear hK K
       refine wpAny_ready (rs := [16, 17]) (by kernel_rfl) (by simp) ?_
       refine AllReady.cons rfl (fun K hK => ?_) (AllReady.cons rfl (fun K hK => ?_) AllReady.nil)
       ·go_simp
        refine hK _ _ ?_
        clear hK K
        refine wpAny_ready (rs := [17]) (by kernel_rfl) (by simp) ?_
        refine AllReady.cons rfl (fun K hK => ?_) AllReady.nil
        go_simp
        refine hK _ _ ?_
        clear hK K
        refine wpAny_ready (rs := [18]) (by kernel_rfl) (by simp) ?_
        refine AllReady.cons rfl (fun K hK => ?_) AllReady.nil
        go_simp
        go_wp2_with (go_at_call 14; refine (HRUN.out _ (by (repeat (first|exact xE0 _|assumption|refine xE1 ?_ _|refine xE2 ?_|refine xE3 ?_ _|refine xE4 ?_ (by assumption))))).mono ?_; rintro e9 w9 ⟨cv2, mv2, rfl, hM9, hEnd2⟩; have hR2 := hEnd2 [] w9 (fun _ h => by cases h) (Keep.rfl' _ _); rw [HEQV.out] at hR2 ⊢; have HR2 := η hR2; have hE9 : Ext wr w9 := hM9.keep.ext (fun _ h => by cases h); have HR9 := η (HR6x.out.ext hE9); have HE9 := η hE9; have X0 := cO (i := 0) (hE9.obj HO6x.out); have X1 := cO (i := 1) (hE9.obj HO6x.out); have X2 := cO (i := 2) (hE9.obj HO6x.out); have X3 := cO (i := 3) (hE9.obj HO6x.out); have X4 := cO (i := 4) (hE9.obj HO6x.out); have X5 := cO (i := 5) (hE9.obj HO6x.out); clear hM9 hEnd2 hE9 hR2)
        try (refine hK _ _ ?_; clear hK K)
        refine wpAny_ready (rs := [19]) (by kernel_rfl) (by simp) ?_
        refine AllReady.cons rfl (fun K hK => ?_) AllReady.nil
        go_simp
        go_wp2_with (go_at_call 15; refine (same_end ⟨_, _, _, _, _, _⟩ _ _ _ _ _ (HR9.out.ext (by (repeat (first|exact xE0 _|assumption|refine xE1 ?_ _|refine xE2 ?_|refine xE3 ?_ _|refine xE4 ?_ (by assumption))))) (HR2.out.ext (by (repeat (first|exact xE0 _|assumption|refine xE1 ?_ _|refine xE2 ?_|refine xE3 ?_ _|refine xE4 ?_ (by assumption)))))).mono ?_; rintro e10 w10 ⟨rfl, hE10⟩; have HE10 := η (HE9.out.trans' hE10); clear hE10)
        try (refine hK _ _ ?_; clear hK K)
        refine wpAny_ready (rs := [20]) (by kernel_rfl) (by simp) ?_
        refine AllReady.cons rfl (fun K hK => ?_) AllReady.nil
        go_simp
        refine hK _ _ ?_
        clear hK K
        refine wpAny_ready (rs := [21]) (by kernel_rfl) (by simp) ?_
        refine AllReady.cons rfl (fun K hK => ?_) AllReady.nil
        go_simp
        refine hK _ _ ?_
        clear hK K
        refine wpAny_ready (rs := [22]) (by kernel_rfl) (by simp) ?_
        refine AllReady.cons rfl (fun K hK => ?_) AllReady.nil
        go_simp
        refine hK _ _ ?_
        clear hK K
        refine wpAny_done (by kernel_rfl) ?_ _
        go_wp2_with fail
        go_returns
        exact ⟨rfl, HEW2.out.trans' (HX3.out.trans' (HE6.out.trans' (HE7.out.trans' HE10.out)))⟩
       ·go_simp
        refine hK _ _ ?_
        clear hK K
        refine wpAny_ready (rs := [16, 18]) (by kernel_rfl) (by simp) ?_
        refine AllReady.cons rfl (fun K hK => ?_) (AllReady.cons rfl (fun K hK => ?_) AllReady.nil)
        ·go_simp
         refine hK _ _ ?_
         clear hK K
         refine wpAny_ready (rs := [18]) (by kernel_rfl) (by simp) ?_
         refine AllReady.cons rfl (fun K hK => ?_) AllReady.nil
         go_simp
         go_wp2_with (go_at_call 14; refine (HRUN.out _ (by (repeat (first|exact xE0 _|assumption|refine xE1 ?_ _|refine xE2 ?_|refine xE3 ?_ _|refine xE4 ?_ (by assumption))))).mono ?_; rintro e9 w9 ⟨cv2, mv2, rfl, hM9, hEnd2⟩; have hR2 := hEnd2 [] w9 (fun _ h => by cases h) (Keep.rfl' _ _); rw [HEQV.out] at hR2 ⊢; have HR2 := η hR2; have hE9 : Ext wr w9 := hM9.keep.ext (fun _ h => by cases h); have HR9 := η (HR6x.out.ext hE9); have HE9 := η hE9; have X0 := cO (i := 0) (hE9.obj HO6x.out); have X1 := cO (i := 1) (hE9.obj HO6x.out); have X2 := cO (i := 2) (hE9.obj HO6x.out); have X3 := cO (i := 3) (hE9.obj HO6x.out); have X4 := cO (i := 4) (hE9.obj HO6x.out); have X5 := cO (i := 5) (hE9.obj HO6x.out); clear hM9 hEnd2 hE9 hR2)
         try (refine hK _ _ ?_; clear hK K)
         refine wpAny_ready (rs := [19]) (by kernel_rfl) (by simp) ?_
         refine AllReady.cons rfl (fun K hK => ?_) AllReady.nil
         go_simp
         go_wp2_with (go_at_call 15; refine (same_end ⟨_, _, _, _, _, _⟩ _ _ _ _ _ (HR9.out.ext (by (repeat (first|exact xE0 _|assumption|refine xE1 ?_ _|refine xE2 ?_|refine xE3 ?_ _|refine xE4 ?_ (by assumption))))) (HR2.out.ext (by (repeat (first|exact xE0 _|assumption|refine xE1 ?_ _|refine xE2 ?_|refine xE3 ?_ _|refine xE4 ?_ (by assumption)))))).mono ?_; rintro e10 w10 ⟨rfl, hE10⟩; have HE10 := η (HE9.out.trans' hE10); clear hE10)
         try (refine hK _ _ ?_; clear hK K)
         refine wpAny_ready (rs := [20]) (by kernel_rfl) (by simp) ?_
         refine AllReady.cons rfl (fun K hK => ?_) AllReady.nil
         go_simp
         refine hK _ _ ?_
         clear hK K
         refine wpAny_ready (rs := [21]) (by kernel_rfl) (by simp) ?_
         refine AllReady.cons rfl (fun K hK => ?_) AllReady.nil
         go_simp
         refine hK _ _ ?_
         clear hK K
         refine wpAny_ready (rs := [22]) (by kernel_rfl) (by simp) ?_
         refine AllReady.cons rfl (fun K hK => ?_) AllReady.nil
         go_simp
         refine hK _ _ ?_
         clear hK K
         refine wpAny_done (by kernel_rfl) ?_ _
         go_wp2_with fail
         go_returns
         exact ⟨rfl, HEW2.out.trans' (HX3.out.trans' (HE6.out.trans' (HE7.out.trans' HE10.out)))⟩
        ·go_simp
         go_wp2_with (go_at_call 14; refine (HRUN.out _ (by (repeat (first|exact xE0 _|assumption|refine xE1 ?_ _|refine xE2 ?_|refine xE3 ?_ _|refine xE4 ?_ (by assumption))))).mono ?_; rintro e9 w9 ⟨cv2, mv2, rfl, hM9, hEnd2⟩; have hR2 := hEnd2 [] w9 (fun _ h => by cases h) (Keep.rfl' _ _); rw [HEQV.out] at hR2 ⊢; have HR2 := η hR2; have hE9 : Ext wr w9 := hM9.keep.ext (fun _ h => by cases h); have HR9 := η (HR6x.out.ext hE9); have HE9 := η hE9; have X0 := cO (i := 0) (hE9.obj HO6x.out); have X1 := cO (i := 1) (hE9.obj HO6x.out); have X2 := cO (i := 2) (hE9.obj HO6x.out); have X3 := cO (i := 3) (hE9.obj HO6x.out); have X4 := cO (i := 4) (hE9.obj HO6x.out); have X5 := cO (i := 5) (hE9.obj HO6x.out); clear hM9 hEnd2 hE9 hR2)
         try (refine hK _ _ ?_; clear hK K)
         refine wpAny_ready (rs := [16]) (by kernel_rfl) (by simp) ?_
         refine AllReady.cons rfl (fun K hK => ?_) AllReady.nil
         go_simp
         refine hK _ _ ?_
         clear hK K
         refine wpAny_ready (rs := [19]) (by kernel_rfl) (by simp) ?_
         refine AllReady.cons rfl (fun K hK => ?_) AllReady.nil
         go_simp
         go_wp2_with (go_at_call 15; refine (same_end ⟨_, _, _, _, _, _⟩ _ _ _ _ _ (HR9.out.ext (by (repeat (first|exact xE0 _|assumption|refine xE1 ?_ _|refine xE2 ?_|refine xE3 ?_ _|refine xE4 ?_ (by assumption))))) (HR2.out.ext (by (repeat (first|exact xE0 _|assumption|refine xE1 ?_ _|refine xE2 ?_|refine xE3 ?_ _|refine xE4 ?_ (by assumption)))))).mono ?_; rintro e10 w10 ⟨rfl, hE10⟩; have HE10 := η (HE9.out.trans' hE10); clear hE10)
         try (refine hK _ _ ?_; clear hK K)
         refine wpAny_ready (rs := [20]) (by kernel_rfl) (by simp) ?_
         refine AllReady.cons rfl (fun K hK => ?_) AllReady.nil
         go_simp
         refine hK _ _ ?_
         clear hK K
         refine wpAny_ready (rs := [21]) (by kernel_rfl) (by simp) ?_
         refine AllReady.cons rfl (fun K hK => ?_) AllReady.nil
         go_simp
         refine hK _ _ ?_
         clear hK K
         refine wpAny_ready (rs := [22]) (by kernel_rfl) (by simp) ?_
         refine AllReady.cons rfl (fun K hK => ?_) AllReady.nil
         go_simp
         refine hK _ _ ?_
         clear hK K
         refine wpAny_done (by kernel_rfl) ?_ _
         go_wp2_with fail
         go_returns
         exact ⟨rfl, HEW2.out.trans' (HX3.out.trans' (HE6.out.trans' (HE7.out.trans' HE10.out)))⟩
      by_cases hc111 : c1 = 111
      ·subst hc111
       have HEQV : Hid (((σ.ofL (idledL L n)).run 600).endV = ⟨111, a1, r1, t1, l1, M1⟩) := η (HPLL.out.resolve_left (by simp))
       refine wp_region_any (by kernel_rfl) ?_
       change wpAny _ _ _ _ _ _ _ (World.drew _)
       refine wpAny_ready (rs := [0]) (by kernel_rfl) (by simp) ?_
       refine AllReady.cons rfl (fun K hK => ?_) AllReady.nil
       go_simp
       refine hK _ _ ?_
       clear hK K
       refine wpAny_ready (rs := [1]) (by kernel_rfl) (by simp) ?_
       refine AllReady.cons rfl (fun K hK => ?_) AllReady.nil
       go_simp
       refine hK _ _ ?_
       clear hK K
       refine wpAny_ready (rs := [2]) (by kernel_rfl) (by simp) ?_
       refine AllReady.cons rfl (fun K hK => ?_) AllReady.nil
       go_simp
       refine hK _ _ ?_
       clear hK K
       refine wpAny_ready (rs := [3]) (by kernel_rfl) (by simp) ?_
       refine AllReady.cons rfl (fun K hK => ?_) AllReady.nil
       go_simp
       refine hK _ _ ?_
       clear hK K
       refine wpAny_ready (rs := [4]) (by kernel_rfl) (by simp) ?_
       refine AllReady.cons rfl (fun K hK => ?_) AllReady.nil
       go_simp
       refine hK _ _ ?_
       clear hK K
       refine wpAny_ready (rs := [5]) (by kernel_rfl) (by simp) ?_
       refine AllReady.cons rfl (fun K hK => ?_) AllReady.nil
       go_simp
       refine hK _ _ ?_
       clear hK K
       refine wpAny_ready (rs := [6]) (by kernel_rfl) (by simp) ?_
       refine AllReady.cons rfl (fun K hK => ?_) AllReady.nil
       go_simp
       refine hK _ _ ?_
       clear hK K
       refine wpAny_ready (rs := [7]) (by kernel_rfl) (by simp) ?_
       refine AllReady.cons rfl (fun K hK => ?_) AllReady.nil
       go_simp
       refine hK _ _ ?_
       clear hK K
       refine wpAny_ready (rs := [8]) (by kernel_rfl) (by simp) ?_
       refine AllReady.cons rfl (fun K hK => ?_) AllReady.nil
       go_simp
       refine hK _ _ ?_
       clear hK K
       refine wpAny_ready (rs := [9]) (by kernel_rfl) (by simp) ?_
       refine AllReady.cons rfl (fun K hK => ?_) AllReady.nil
       go_simp
       refine hK _ _ ?_
       clear hK K
       refine wpAny_ready (rs := [10]) (by kernel_rfl) (by simp) ?_
       refine AllReady.cons rfl (fun K hK => ?_) AllReady.nil
       go_simp
       refine hK _ _ ?_
       clear hK K
       refine wpAny_ready (rs := [11]) (by kernel_rfl) (by simp) ?_
       refine AllReady.cons rfl (fun K hK => ?_) AllReady.nil
       go_simp
       refine hK _ _ ?_
       clear hK K
       refine wpAny_ready (rs := [12]) (by kernel_rfl) (by simp) ?_
       refine AllReady.cons rfl (fun K hK => ?_) AllReady.nil
       go_simp
       refine hK _ _ ?_
       clear hK K
       refine wpAny_ready (rs := [13]) (by kernel_rfl) (by simp) ?_
       refine AllReady.cons rfl (fun K hK => ?_) AllReady.nil
       go_simp
       refine hK _ _ ?_
       clear hK K
       refine wpAny_ready (rs := [14]) (by kernel_rfl) (by simp) ?_
       refine AllReady.cons rfl (fun K hK => ?_) AllReady.nil
       go_simp
       refine hK _ _ ?_
       clear hK K
       refine wpAny_ready (rs := [15]) (by kernel_rfl) (by simp) ?_
       refine AllReady.cons rfl (fun K hK => ?_) AllReady.nil
       go_simp
       refine hK _ _ ?_
       clear hK K
       refine wpAny_ready (rs := [16, 17]) (by kernel_rfl) (by simp) ?_
       refine AllReady.cons rfl (fun K hK => ?_) (AllReady.cons rfl (fun K hK => ?_) AllReady.nil)
       ·go_simp
        refine hK _ _ ?_
        clear hK K
        refine wpAny_ready (rs := [17]) (by kernel_rfl) (by simp) ?_
        refine AllReady.cons rfl (fun K hK => ?_) AllReady.nil
        go_simp
        refine hK _ _ ?_
        clear hK K
        refine wpAny_ready (rs := [18]) (by kernel_rfl) (by simp) ?_
        refine AllReady.cons rfl (fun K hK => ?_) AllReady.nil
        go_simp
        go_wp2_with (go_at_call 14; refine (HRUN.out _ (by (repeat (first|exact xE0 _|assumption|refine xE1 ?_ _|refine xE2 ?_|refine xE3 ?_ _|refine xE4 ?_ (by assumption))))).mono ?_; rintro e9 w9 ⟨cv2, mv2, rfl, hM9, hEnd2⟩; have hR2 := hEnd2 [] w9 (fun _ h => by cases h) (Keep.rfl' _ _); rw [HEQV.out] at hR2 ⊢; have HR2 := η hR2; have hE9 : Ext wr w9 := hM9.keep.ext (fun _ h => by cases h); have HR9 := η (HR6x.out.ext hE9); have HE9 := η hE9; have X0 := cO (i := 0) (hE9.obj HO6x.out); have X1 := cO (i := 1) (hE9.obj HO6x.out); have X2 := cO (i := 2) (hE9.obj HO6x.out); have X3 := cO (i := 3) (hE9.obj HO6x.out); have X4 := cO (i := 4) (hE9.obj HO6x.out); have X5 := cO (i := 5) (hE9.obj HO6x.out); clear hM9 hEnd2 hE9 hR2)
        try (refine hK _ _ ?_; clear hK K)
        refine wpAny_ready (rs := [19]) (by kernel_rfl) (by simp) ?_
        refine AllReady.cons rfl (fun K hK => ?_) AllReady.nil
        go_simp
        go_wp2_with (go_at_call 15; refine (same_end ⟨_, _, _, _, _, _⟩ _ _ _ _ _ (HR9.out.ext (by (repeat (first|exact xE0 _|assumption|refine xE1 ?_ _|refine xE2 ?_|refine xE3 ?_ _|refine xE4 ?_ (by assumption))))) (HR2.out.ext (by (repeat (first|exact xE0 _|assumption|refine xE1 ?_ _|refine xE2 ?_|refine xE3 ?_ _|refine xE4 ?_ (by assumption)))))).mono ?_; rintro e10 w10 ⟨rfl, hE10⟩; have HE10 := η (HE9.out.trans' hE10); clear hE10)
        try (refine hK _ _ ?_; clear hK K)
        refine wpAny_ready (rs := [20]) (by kernel_rfl) (by simp) ?_
        refine AllReady.cons rfl (fun K hK => ?_) AllReady.nil
        go_simp
        refine hK _ _ ?_
        clear hK K
        refine wpAny_ready (rs := [21]) (by kernel_rfl) (by simp) ?_
        refine AllReady.cons rfl (fun K hK => ?_) AllReady.nil
        go_simp
        refine hK _ _ ?_
        clear hK K
        refine wpAny_ready (rs := [22]) (by kernel_rfl) (by simp) ?_
        refine AllReady.cons rfl (fun K hK => ?_) AllReady.nil
        go_simp
        refine hK _ _ ?_
        clear hK K
        refine wpAny_done (by kernel_rfl) ?_ _
        go_wp2_with fail
        go_returns
        exact ⟨rfl, HEW2.out.trans' (HX3.out.trans' (HE6.out.trans' (HE7.out.trans' HE10.out)))⟩
       ·go_simp
        refine hK _ _ ?_
        clear hK K
        refine wpAny_ready (rs := [16, 18]) (by kernel_rfl) (by simp) ?_
        refine AllReady.cons rfl (fun K hK => ?_) (AllReady.cons rfl (fun K hK => ?_) AllReady.nil)
        ·go_simp
         refine hK _ _ ?_
         clear hK K
         refine wpAny_ready (rs := [18]) (by kernel_rfl) (by simp) ?_
         refine AllReady.cons rfl (fun K hK => ?_) AllReady.nil
         go_simp
         go_wp2_with (go_at_call 14; refine (HRUN.out _ (by (repeat (first|exact xE0 _|assumption|refine xE1 ?_ _|refine xE2 ?_|refine xE3 ?_ _|refine xE4 ?_ (by assumption))))).mono ?_; rintro e9 w9 ⟨cv2, mv2, rfl, hM9, hEnd2⟩; have hR2 := hEnd2 [] w9 (fun _ h => by cases h) (Keep.rfl' _ _); rw [HEQV.out] at hR2 ⊢; have HR2 := η hR2; have hE9 : Ext wr w9 := hM9.keep.ext (fun _ h => by cases h); have HR9 := η (HR6x.out.ext hE9); have HE9 := η hE9; have X0 := cO (i := 0) (hE9.obj HO6x.out); have X1 := cO (i := 1) (hE9.obj HO6x.out); have X2 := cO (i := 2) (hE9.obj HO6x.out); have X3 := cO (i := 3) (hE9.obj HO6x.out); have X4 := cO (i := 4) (hE9.obj HO6x.out); have X5 := cO (i := 5) (hE9.obj HO6x.out); clear hM9 hEnd2 hE9 hR2)
         try (refine hK _ _ ?_; clear hK K)
         refine wpAny_ready (rs := [19]) (by kernel_rfl) (by simp) ?_
         refine AllReady.cons rfl (fun K hK => ?_) AllReady.nil
         go_simp
         go_wp2_with (go_at_call 15; refine (same_end ⟨_, _, _, _, _, _⟩ _ _ _ _ _ (HR9.out.ext (by (repeat (first|exact xE0 _|assumption|refine xE1 ?_ _|refine xE2 ?_|refine xE3 ?_ _|refine xE4 ?_ (by assumption))))) (HR2.out.ext (by (repeat (first|exact xE0 _|assumption|refine xE1 ?_ _|refine xE2 ?_|refine xE3 ?_ _|refine xE4 ?_ (by assumption)))))).mono ?_; rintro e10 w10 ⟨rfl, hE10⟩; have HE10 := η (HE9.out.trans' hE10); clear hE10)
         try (refine hK _ _ ?_; clear hK K)
         refine wpAny_ready (rs := [20]) (by kernel_rfl) (by simp) ?_
         refine AllReady.cons rfl (fun K hK => ?_) AllReady.nil
         go_simp
         refine hK _ _ ?_
         clear hK K
         refine wpAny_ready (rs := [21]) (by kernel_rfl) (by simp) ?_
         refine AllReady.cons rfl (fun K hK => ?_) AllReady.nil
         go_simp
         refine hK _ _ ?_
         clear hK K
         refine wpAny_ready (rs := [22]) (by kernel_rfl) (by simp) ?_
         refine AllReady.cons rfl (fun K hK => ?_) AllReady.nil
         go_simp
         refine hK _ _ ?_
         clear hK K
         refine wpAny_done (by kernel_rfl) ?_ _
         go_wp2_with fail
         go_returns
         exact ⟨rfl, HEW2.out.trans' (HX3.out.trans' (HE6.out.trans' (HE7.out.trans' HE10.out)))⟩
        ·go_simp
         go_wp2_with (go_at_call 14; refine (HRUN.out _ (by (repeat (first|exact xE0 _|assumption|refine xE1 ?_ _|refine xE2 ?_|refine xE3 ?_ _|refine xE4 ?_ (by assumption))))).mono ?_; rintro e9 w9 ⟨cv2, mv2, rfl, hM9, hEnd2⟩; have hR2 := hEnd2 [] w9 (fun _ h => by cases h) (Keep.rfl' _ _); rw [HEQV.out] at hR2 ⊢; have HR2 := η hR2; have hE9 : Ext wr w9 := hM9.keep.ext (fun _ h => by cases h); have HR9 := η (HR6x.out.ext hE9); have HE9 := η hE9; have X0 := cO (i := 0) (hE9.obj HO6x.out); have X1 := cO (i := 1) (hE9.obj HO6x.out); have X2 := cO (i := 2) (hE9.obj HO6x.out); have X3 := cO (i := 3) (hE9.obj HO6x.out); have X4 := cO (i := 4) (hE9.obj HO6x.out); have X5 := cO (i := 5) (hE9.obj HO6x.out); clear hM9 hEnd2 hE9 hR2)
         try (refine hK _ _ ?_; clear hK K)
         refine wpAny_ready (rs := [16]) (by kernel_rfl) (by simp) ?_
         refine AllReady.cons rfl (fun K hK => ?_) AllReady.nil
         go_simp
         refine hK _ _ ?_
         clear hK K
         refine wpAny_ready (rs := [19]) (by kernel_rfl) (by simp) ?_
         refine AllReady.cons rfl (fun K hK => ?_) AllReady.nil
         go_simp
         go_wp2_with (go_at_call 15; refine (same_end ⟨_, _, _, _, _, _⟩ _ _ _ _ _ (HR9.out.ext (by (repeat (first|exact xE0 _|assumption|refine xE1 ?_ _|refine xE2 ?_|refine xE3 ?_ _|refine xE4 ?_ (by assumption))))) (HR2.out.ext (by (repeat (first|exact xE0 _|assumption|refine xE1 ?_ _|refine xE2 ?_|refine xE3 ?_ _|refine xE4 ?_ (by assumption)))))).mono ?_; rintro e10 w10 ⟨rfl, hE10⟩; have HE10 := η (HE9.out.trans' hE10); clear hE10)
         try (refine hK _ _ ?_; clear hK K)
         refine wpAny_ready (rs := [20]) (by kernel_rfl) (by simp) ?_
         refine AllReady.cons rfl (fun K hK => ?_) AllReady.nil
         go_simp
         refine hK _ _ ?_
         clear hK K
         refine wpAny_ready (rs := [21]) (by kernel_rfl) (by simp) ?_
         refine AllReady.cons rfl (fun K hK => ?_) AllReady.nil
         go_simp
         refine hK _ _ ?_
         clear hK K
         refine wpAny_ready (rs := [22]) (by kernel_rfl) (by simp) ?_
         refine AllReady.cons rfl (fun K hK => ?_) AllReady.nil
         go_simp
         refine hK _ _ ?_
         clear hK K
         refine wpAny_done (by kernel_rfl) ?_ _
         go_wp2_with fail
         go_returns
         exact ⟨rfl, HEW2.out.trans' (HX3.out.trans' (HE6.out.trans' (HE7.out.trans' HE10.out)))⟩
      by_cases hc100 : c1 = 100
      ·subst hc100
       have HEQV : Hid (((σ.ofL (idledL L n)).run 600).endV = ⟨100, a1, r1, t1, l1, M1⟩) := η (HPLL.out.resolve_left (by simp))
       refine wp_region_any (by kernel_rfl) ?_
       change wpAny _ _ _ _ _ _ _ (World.drew _)
       refine wpAny_ready (rs := [0]) (by kernel_rfl) (by simp) ?_
       refine AllReady.cons rfl (fun K hK => ?_) AllReady.nil
       go_simp
       refine hK _ _ ?_
       clear hK K
       refine wpAny_ready (rs := [1]) (by kernel_rfl) (by simp) ?_
       refine AllReady.cons rfl (fun K hK => ?_) AllReady.nil
       go_simp
       refine hK _ _ ?_
       clear hK K
       refine wpAny_ready (rs := [2]) (by kernel_rfl) (by simp) ?_
       refine AllReady.cons rfl (fun K hK => ?_) AllReady.nil
       go_simp
       refine hK _ _ ?_
       clear hK K
       refine wpAny_ready (rs := [3]) (by kernel_rfl) (by simp) ?_
       refine AllReady.cons rfl (fun K hK => ?_) AllReady.nil
       go_simp
       refine hK _ _ ?_
       clear hK K
       refine wpAny_ready (rs := [4]) (by kernel_rfl) (by simp) ?_
       refine AllReady.cons rfl (fun K hK => ?_) AllReady.nil
       go_simp
       refine hK _ _ ?_
       clear hK K
       refine wpAny_ready (rs := [5]) (by kernel_rfl) (by simp) ?_
       refine AllReady.cons rfl (fun K hK => ?_) AllReady.nil
       go_simp
       refine hK _ _ ?_
       clear hK K
       refine wpAny_ready (rs := [6]) (by kernel_rfl) (by simp) ?_
       refine AllReady.cons rfl (fun K hK => ?_) AllReady.nil
       go_simp
       refine hK _ _ ?_
       clear hK K
       refine wpAny_ready (rs := [7]) (by kernel_rfl) (by simp) ?_
       refine AllReady.cons rfl (fun K hK => ?_) AllReady.nil
       go_simp
       refine hK _ _ ?_
       clear hK K
       refine wpAny_ready (rs := [8]) (by kernel_rfl) (by simp) ?_
       refine AllReady.cons rfl (fun K hK => ?_) AllReady.nil
       go_simp
       refine hK _ _ ?_
       clear hK K
       refine wpAny_ready (rs := [9]) (by kernel_rfl) (by simp) ?_
       refine AllReady.cons rfl (fun K hK => ?_) AllReady.nil
       go_simp
       refine hK _ _ ?_
       clear hK K
       refine wpAny_ready (rs := [10]) (by kernel_rfl) (by simp) ?_
       refine AllReady.cons rfl (fun K hK => ?_) AllReady.nil
       go_simp
       refine hK _ _ ?_
       clear hK K
       refine wpAny_ready (rs := [11]) (by kernel_rfl) (by simp) ?_
       refine AllReady.cons rfl (fun K hK => ?_) AllReady.nil
       go_simp
       refine hK _ _ ?_
       clear hK K
       refine wpAny_ready (rs := [12]) (by kernel_rfl) (by simp) ?_
       refine AllReady.cons rfl (fun K hK => ?_) AllReady.nil
       go_simp
       refine hK _ _ ?_
       clear hK K
       refine wpAny_ready (rs := [13]) (by kernel_rfl) (by simp) ?_
       refine AllReady.cons rfl (fun K hK => ?_) AllReady.nil
       go_simp
       refine hK _ _ ?_
       clear hK K
       refine wpAny_ready (rs := [14]) (by kernel_rfl) (by simp) ?_
       refine AllReady.cons rfl (fun K hK => ?_) AllReady.nil
       go_simp
       refine hK _ _ ?_
       clear hK K
       refine wpAny_ready (rs := [15]) (by kernel_rfl) (by simp) ?_
       refine AllReady.cons rfl (fun K hK => ?_) AllReady.nil
       go_simp
       refine hK _ _ ?_
       clear hK K
       refine wpAny_ready (rs := [16, 17]) (by kernel_rfl) (by simp) ?_
       refine AllReady.cons rfl (fun K hK => ?_) (AllReady.cons rfl (fun K hK => ?_) AllReady.nil)
       ·go_simp
        refine hK _ _ ?_
        clear hK K
        refine wpAny_ready (rs := [17]) (by kernel_rfl) (by simp) ?_
        refine AllReady.cons rfl (fun K hK => ?_) AllReady.nil
        go_simp
        refine hK _ _ ?_
        clear hK K
        refine wpAny_ready (rs := [18]) (by kernel_rfl) (by simp) ?_
        refine AllReady.cons rfl (fun K hK => ?_) AllReady.nil
        go_simp
        go_wp2_with (go_at_call 14; refine (HRUN.out _ (by (repeat (first|exact xE0 _|assumption|refine xE1 ?_ _|refine xE2 ?_|refine xE3 ?_ _|refine xE4 ?_ (by assumption))))).mono ?_; rintro e9 w9 ⟨cv2, mv2, rfl, hM9, hEnd2⟩; have hR2 := hEnd2 [] w9 (fun _ h => by cases h) (Keep.rfl' _ _); rw [HEQV.out] at hR2 ⊢; have HR2 := η hR2; have hE9 : Ext wr w9 := hM9.keep.ext (fun _ h => by cases h); have HR9 := η (HR6x.out.ext hE9); have HE9 := η hE9; have X0 := cO (i := 0) (hE9.obj HO6x.out); have X1 := cO (i := 1) (hE9.obj HO6x.out); have X2 := cO (i := 2) (hE9.obj HO6x.out); have X3 := cO (i := 3) (hE9.obj HO6x.out); have X4 := cO (i := 4) (hE9.obj HO6x.out); have X5 := cO (i := 5) (hE9.obj HO6x.out); clear hM9 hEnd2 hE9 hR2)
        try (refine hK _ _ ?_; clear hK K)
        refine wpAny_ready (rs := [19]) (by kernel_rfl) (by simp) ?_
        refine AllReady.cons rfl (fun K hK => ?_) AllReady.nil
        go_simp
        go_wp2_with (go_at_call 15; refine (same_end ⟨_, _, _, _, _, _⟩ _ _ _ _ _ (HR9.out.ext (by (repeat (first|exact xE0 _|assumption|refine xE1 ?_ _|refine xE2 ?_|refine xE3 ?_ _|refine xE4 ?_ (by assumption))))) (HR2.out.ext (by (repeat (first|exact xE0 _|assumption|refine xE1 ?_ _|refine xE2 ?_|refine xE3 ?_ _|refine xE4 ?_ (by assumption)))))).mono ?_; rintro e10 w10 ⟨rfl, hE10⟩; have HE10 := η (HE9.out.trans' hE10); clear hE10)
        try (refine hK _ _ ?_; clear hK K)
        refine wpAny_ready (rs := [20]) (by kernel_rfl) (by simp) ?_
        refine AllReady.cons rfl (fun K hK => ?_) AllReady.nil
        go_simp
        refine hK _ _ ?_
        clear hK K
        refine wpAny_ready (rs := [21]) (by kernel_rfl) (by simp) ?_
        refine AllReady.cons rfl (fun K hK => ?_) AllReady.nil
        go_simp
        refine hK _ _ ?_
        clear hK K
        refine wpAny_ready (rs := [22]) (by kernel_rfl) (by simp) ?_
        refine AllReady.cons rfl (fun K hK => ?_) AllReady.nil
        go_simp
        refine hK _ _ ?_
        clear hK K
        refine wpAny_done (by kernel_rfl) ?_ _
        go_wp2_with fail
        go_returns
        exact ⟨rfl, HEW2.out.trans' (HX3.out.trans' (HE6.out.trans' (HE7.out.trans' HE10.out)))⟩
       ·go_simp
        refine hK _ _ ?_
        clear hK K
        refine wpAny_ready (rs := [16, 18]) (by kernel_rfl) (by simp) ?_
        refine AllReady.cons rfl (fun K hK => ?_) (AllReady.cons rfl (fun K hK => ?_) AllReady.nil)
        ·go_simp
         refine hK _ _ ?_
         clear hK K
         refine wpAny_ready (rs := [18]) (by kernel_rfl) (by simp) ?_
         refine AllReady.cons rfl (fun K hK => ?_) AllReady.nil
         go_simp
         go_wp2_with (go_at_call 14; refine (HRUN.out _ (by (repeat (first|exact xE0 _|assumption|refine xE1 ?_ _|refine xE2 ?_|refine xE3 ?_ _|refine xE4 ?_ (by assumption))))).mono ?_; rintro e9 w9 ⟨cv2, mv2, rfl, hM9, hEnd2⟩; have hR2 := hEnd2 [] w9 (fun _ h => by cases h) (Keep.rfl' _ _); rw [HEQV.out] at hR2 ⊢; have HR2 := η hR2; have hE9 : Ext wr w9 := hM9.keep.ext (fun _ h => by cases h); have HR9 := η (HR6x.out.ext hE9); have HE9 := η hE9; have X0 := cO (i := 0) (hE9.obj HO6x.out); have X1 := cO (i := 1) (hE9.obj HO6x.out); have X2 := cO (i := 2) (hE9.obj HO6x.out); have X3 := cO (i := 3) (hE9.obj HO6x.out); have X4 := cO (i := 4) (hE9.obj HO6x.out); have X5 := cO (i := 5) (hE9.obj HO6x.out); clear hM9 hEnd2 hE9 hR2)
         try (refine hK _ _ ?_; clear hK K)
         refine wpAny_ready (rs := [19]) (by kernel_rfl) (by simp) ?_
         refine AllReady.cons rfl (fun K hK => ?_) AllReady.nil
         go_simp
         go_wp2_with (go_at_call 15; refine (same_end ⟨_, _, _, _, _, _⟩ _ _ _ _ _ (HR9.out.ext (by (repeat (first|exact xE0 _|assumption|refine xE1 ?_ _|refine xE2 ?_|refine xE3 ?_ _|refine xE4 ?_ (by assumption))))) (HR2.out.ext (by (repeat (first|exact xE0 _|assumption|refine xE1 ?_ _|refine xE2 ?_|refine xE3 ?_ _|refine xE4 ?_ (by assumption)))))).mono ?_; rintro e10 w10 ⟨rfl, hE10⟩; have HE10 := η (HE9.out.trans' hE10); clear hE10)
         try (refine hK _ _ ?_; clear hK K)
         refine wpAny_ready (rs := [20]) (by kernel_rfl) (by simp) ?_
         refine AllReady.cons rfl (fun K hK => ?_) AllReady.nil
         go_simp
         refine hK _ _ ?_
         clear hK K
         refine wpAny_ready (rs := [21]) (by kernel_rfl) (by simp) ?_
         refine AllReady.cons rfl (fun K hK => ?_) AllReady.nil
         go_simp
         refine hK _ _ ?_
         clear hK K
         refine wpAny_ready (rs := [22]) (by kernel_rfl) (by simp) ?_
         refine AllReady.cons rfl (fun K hK => ?_) AllReady.nil
         go_simp
         refine hK _ _ ?_
         clear hK K
         refine wpAny_done (by kernel_rfl) ?_ _
         go_wp2_with fail
         go_returns
         exact ⟨rfl, HEW2.out.trans' (HX3.out.trans' (HE6.out.trans' (HE7.out.trans' HE10.out)))⟩
        ·go_simp
         go_wp2_with (go_at_call 14; refine (HRUN.out _ (by (repeat (first|exact xE0 _|assumption|refine xE1 ?_ _|refine xE2 ?_|refine xE3 ?_ _|refine xE4 ?_ (by assumption))))).mono ?_; rintro e9 w9 ⟨cv2, mv2, rfl, hM9, hEnd2⟩; have hR2 := hEnd2 [] w9 (fun _ h => by cases h) (Keep.rfl' _ _); rw [HEQV.out] at hR2 ⊢; have HR2 := η hR2; have hE9 : Ext wr w9 := hM9.keep.ext (fun _ h => by cases h); have HR9 := η (HR6x.out.ext hE9); have HE9 := η hE9; have X0 := cO (i := 0) (hE9.obj HO6x.out); have X1 := cO (i := 1) (hE9.obj HO6x.out); have X2 := cO (i := 2) (hE9.obj HO6x.out); have X3 := cO (i := 3) (hE9.obj HO6x.out); have X4 := cO (i := 4) (hE9.obj HO6x.out); have X5 := cO (i := 5) (hE9.obj HO6x.out); clear hM9 hEnd2 hE9 hR2)
         try (refine hK _ _ ?_; clear hK K)
         refine wpAny_ready (rs := [16]) (by kernel_rfl) (by simp) ?_
         refine AllReady.cons rfl (fun K hK => ?_) AllReady.nil
         go_simp
         refine hK _ _ ?_
         clear hK K
         refine wpAny_ready (rs := [19]) (by kernel_rfl) (by simp) ?_
         refine AllReady.cons rfl (fun K hK => ?_) AllReady.nil
         go_simp
         go_wp2_with (go_at_call 15; refine (same_end ⟨_, _, _, _, _, _⟩ _ _ _ _ _ (HR9.out.ext (by (repeat (first|exact xE0 _|assumption|refine xE1 ?_ _|refine xE2 ?_|refine xE3 ?_ _|refine xE4 ?_ (by assumption))))) (HR2.out.ext (by (repeat (first|exact xE0 _|assumption|refine xE1 ?_ _|refine xE2 ?_|refine xE3 ?_ _|refine xE4 ?_ (by assumption)))))).mono ?_; rintro e10 w10 ⟨rfl, hE10⟩; have HE10 := η (HE9.out.trans' hE10); clear hE10)
         try (refine hK _ _ ?_; clear hK K)
         refine wpAny_ready (rs := [20]) (by kernel_rfl) (by simp) ?_
         refine AllReady.cons rfl (fun K hK => ?_) AllReady.nil
         go_simp
         refine hK _ _ ?_
         clear hK K
         refine wpAny_ready (rs := [21]) (by kernel_rfl) (by simp) ?_
         refine AllReady.cons rfl (fun K hK => ?_) AllReady.nil
         go_simp
         refine hK _ _ ?_
         clear hK K
         refine wpAny_ready (rs := [22]) (by kernel_rfl) (by simp) ?_
         refine AllReady.cons rfl (fun K hK => ?_) AllReady.nil
         go_simp
         refine hK _ _ ?_
         clear hK K
         refine wpAny_done (by kernel_rfl) ?_ _
         go_wp2_with fail
         go_returns
         exact ⟨rfl, HEW2.out.trans' (HX3.out.trans' (HE6.out.trans' (HE7.out.trans' HE10.out)))⟩
      have q1 : (c1 != 0) = true := by simpa using hc0
      have q2 : (c1 != 111) = true := by simpa using hc111
      have q3 : (c1 != 100) = true := by simpa using hc100
      go_quiet (fail)
      go_wp2_with fail
      go_returns
      exact ⟨rfl, by have := HEW8.out; (repeat (first|exact xE0 _|assumption|refine xE1 ?_ _|refine xE2 ?_|refine xE3 ?_ _|refine xE4 ?_ (by assumption)))⟩
end Go.Proofs.YtppefchjoodgnaaGreat
