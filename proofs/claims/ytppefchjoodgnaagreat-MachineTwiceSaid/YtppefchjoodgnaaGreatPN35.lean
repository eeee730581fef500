/- What the claim leans on: MsO · HeldG. -/
import Derived.Test.YtppefchjoodgnaaGreatPN33
import Derived.Test.YtppefchjoodgnaaGreatPN06
import Derived.Test.YtppefchjoodgnaaGreatPN10
import Derived.Test.YtppefchjoodgnaaGreatPN01
import Derived.Deep.RegionHeld
namespace Go.Proofs.YtppefchjoodgnaaGreat
open Go.RowKit
set_option linter.unusedVariables false
set_option linter.unusedSimpArgs false
theorem item_cells {w : World} {v : Value} {L : List IT} (R : Rd w 2 IT.enc v L) {i : Nat} {x : IT} (hx : L[i]? = some x) :
  w.cell? (elt v (i * 2)) = some x.kv ∧ w.cell? ⟨(elt v (i * 2)).block, (elt v (i * 2)).off + 1, none⟩ = some x.vv := by
 have E := R.elt_add hx
 have F : ∀ (p : Addr) (j : Nat), j ≠ 0 → (⟨p.block, p.off + j, none⟩ : Addr) = p.add j := fun p j h => by simp [Addr.add, h]
 rw [F _ 1 (by decide), E]
 exact ⟨R.cell hx (j := 0) rfl, R.cell hx (j := 1) rfl⟩
set_option maxRecDepth 20000 in
set_option maxHeartbeats 2000000 in
theorem same_true (va vb : Value) (l : List (ByteArray × List Int)) (w : World) (ha : IsItems w va l) (hb : IsItems w vb l) : Calls Tryz.prog 74 #[va, vb] w (BoolAns true w) := by
 obtain ⟨I, hI, hi, hIl⟩ := ha
 obtain ⟨J, hJ, hj, hJl⟩ := hb
 obtain ⟨aa, an, ac, rfl, han, hAN⟩ := hI.val
 obtain ⟨ba, bn, bc, rfl, hbn, hBN⟩ := hJ.val
 have hl : an = l.length ∧ bn = l.length := by
  have h1 := congrArg List.length hIl
  have h2 := congrArg List.length hJl
  simp only [List.length_map] at h1 h2
  have := hAN.out; have := hBN.out
  omega
 obtain ⟨rfl, e⟩ := hl
 obtain rfl : bn = l.length := e
 obtain ⟨n, hn⟩ : ∃ n, l.length = n := ⟨_, rfl⟩
 rw [hn] at hI hJ han hAN hbn hBN
 have HI := η hI
 have HJ := η hJ
 have HIR := η hi
 have HJR := η hj
 have HIL := η hIl
 have HJL := η hJl
 rw [hn]
 clear hI hJ hi hj hIl hJl
 have HN := η hn
 clear hn
 go_enter Tryz.func74, Tryz.ntmps74
 go_wp2_with fail
 go_loopw [5] (fun i wr => ∃ (j : Nat), j ≤ n ∧ i = .int .i64 j ∧ Ext w wr) (fun i _ => n - (intOf i).toNat)
 case atStart => exact ⟨0, Nat.zero_le _, rfl, Ext.rfl' _⟩
 case round =>
  obtain ⟨j, hj, rfl, hwr⟩ := hrel
  by_cases hlt : (j : Int) < n
  ·obtain ⟨x, hx⟩ := at_of_lt (xs := I) (k := j) (by have := HIL.out; have := hAN.out; omega)
   obtain ⟨y, hy⟩ := at_of_lt (xs := J) (k := j) (by have := HJL.out; have := hBN.out; omega)
   have ix := fun W => HI.out.run_at (P := Tryz.prog) el_item.under el_item.size .i64 (j : Int) (by omega) (by omega) W
   have iy := fun W => HJ.out.run_at (P := Tryz.prog) el_item.under el_item.size .i64 (j : Int) (by omega) (by omega) W
   obtain ⟨c0, c1⟩ := item_cells (HI.out.ext hwr) hx
   obtain ⟨d0, d1⟩ := item_cells (HJ.out.ext hwr) hy
   simp only [Int.toNat_natCast] at ix iy
   obtain ⟨xk, xv⟩ := HIR.out x (List.mem_of_getElem? hx)
   obtain ⟨yk, yv⟩ := HJR.out y (List.mem_of_getElem? hy)
   have hxy : strOfNums x.key = strOfNums y.key ∧ x.val = y.val := by
    have h1 := congrArg (fun l => l[j]?) (HIL.out.trans HJL.out.symm)
    simp only [List.getElem?_map, hx, hy, Option.map_some, Option.some.injEq, Prod.mk.injEq] at h1
    exact h1
   obtain ⟨e1, e2⟩ := hxy
   rw [IT.kv] at c0 xk d0 yk
   rw [IT.vv] at c1 xv d1 yv
   obtain ⟨k1, hk1⟩ : ∃ k1, x.key.length = k1 := ⟨_, rfl⟩
   obtain ⟨k2, hk2⟩ : ∃ k2, y.key.length = k2 := ⟨_, rfl⟩
   obtain ⟨v1, hv1⟩ : ∃ v1, x.val.length = v1 := ⟨_, rfl⟩
   obtain ⟨v2, hv2⟩ : ∃ v2, y.val.length = v2 := ⟨_, rfl⟩
   rw [hk1] at c0 xk
   rw [hk2] at d0 yk
   rw [hv1] at c1 xv
   rw [hv2] at d1 yv
   have s1 := fun n => ((xk.ext hwr).ext ((Ext.rfl' _).drewN' n)).run_str (P := Tryz.prog) Tryz.underlying23 Tryz.underlying5 Tryz.underlying9
   have s2 := fun n => ((xv.ext hwr).ext ((Ext.rfl' _).drewN' n)).run_str (P := Tryz.prog) Tryz.underlying23 Tryz.underlying5 Tryz.underlying9
   have s3 := fun n => ((yk.ext hwr).ext ((Ext.rfl' _).drewN' n)).run_str (P := Tryz.prog) Tryz.underlying23 Tryz.underlying5 Tryz.underlying9
   have s4 := fun n => ((yv.ext hwr).ext ((Ext.rfl' _).drewN' n)).run_str (P := Tryz.prog) Tryz.underlying23 Tryz.underlying5 Tryz.underlying9
   rw [e1] at s1
   rw [e2] at s2
   generalize strOfNums y.key = sk at *
   generalize strOfNums y.val = sv at *
   clear hx hy xk xv yk yv e1 e2 hk1 hk2 hv1 hv2
   go_wp2_with fail
   go_quiet (fail)
   go_wp2_with fail
   go_roundw
   case rel => exact ⟨j + 1, by omega, by go_num, by (repeat (first|exact xE0 _|assumption|refine xE1 ?_ _|refine xE2 ?_|refine xE3 ?_ _|refine xE4 ?_ (by assumption)))⟩
   case measure => simp [intOf]; omega
  ·go_wp2_with fail
   go_returns
   exact ⟨rfl, hwr⟩
theorem slice_n {α : Type} {w : World} {sz n c : Nat} {a : Option Addr} {enc : α → List Value} {xs : List α} (h : Rd w sz enc (.slice a n c) xs) : (n : Int) ≤ 9223372036854775807 := by
 obtain ⟨a', n', c', e, hb, _⟩ := h.val
 injection e with e1 e2 e3
 subst e2
 omega
theorem bytes_bne (s : ByteArray) : (s != s) = false := by simp [bne]
def CallsAt (u : World) (cv : Value) (l : List Cl) : Prop := ∃ cs, Rd u 6 CB.enc cv cs ∧ cs.map (·.c) = l ∧ ∀ c ∈ cs, Sl u .u8 c.kv c.c.key ∧ Sl u .u8 c.vv c.c.val ∧ Sl u .u64 c.nv c.c.n
theorem CallsAt.ext {u u' : World} {cv : Value} {l : List Cl} (h : CallsAt u cv l) (k : Ext u u') : CallsAt u' cv l := by
 obtain ⟨cs, h1, h2, h3⟩ := h
 exact ⟨cs, h1.ext k, h2, fun c hc => ⟨(h3 c hc).1.ext k, (h3 c hc).2.1.ext k, (h3 c hc).2.2.ext k⟩⟩
theorem cb_at {w : World} {v : Value} {cs : List CB} {k : Nat} {x : CB} (h : Rd w 6 CB.enc v cs) (hx : cs[k]? = some x) :
  w.cell? (elt v (k * 6)) = some (.int .i64 x.c.id) ∧ w.cell? ⟨(elt v (k * 6)).block, (elt v (k * 6)).off + 1, none⟩ = some (.int .i64 x.c.map) ∧ w.cell? ⟨(elt v (k * 6)).block, (elt v (k * 6)).off + 2, none⟩ = some (.slice x.ka x.c.key.length x.kc) ∧ w.cell? ⟨(elt v (k * 6)).block, (elt v (k * 6)).off + 3, none⟩ = some (.slice x.va x.c.val.length x.vc) ∧ w.cell? ⟨(elt v (k * 6)).block, (elt v (k * 6)).off + 4, none⟩ = some (.slice x.na x.c.n.length x.nc) ∧ w.cell? ⟨(elt v (k * 6)).block, (elt v (k * 6)).off + 5, none⟩ = some (.int .u64 x.c.ret) := by
 have E := h.elt_add hx
 have F : ∀ (p : Addr) (j : Nat), j ≠ 0 → (⟨p.block, p.off + j, none⟩ : Addr) = p.add j := fun p j h => by simp [Addr.add, h]
 rw [F _ 1 (by decide), F _ 2 (by decide), F _ 3 (by decide), F _ 4 (by decide), F _ 5 (by decide), E, E, E, E, E]
 exact ⟨h.cell hx (j := 0) rfl, h.cell hx (j := 1) rfl, h.cell hx (j := 2) rfl, h.cell hx (j := 3) rfl, h.cell hx (j := 4) rfl, h.cell hx (j := 5) rfl⟩
abbrev cbOb (id map : Int) (kv vv nv : Value) (ret : Int) : Obj := .cells #[.int .i64 id, .int .i64 map, kv, vv, nv, .int .u64 ret] 76 (0, 0)
set_option maxRecDepth 20000 in
set_option maxHeartbeats 4000000 in
theorem calls_true (va vb : Value) (l : List Cl) (w : World) (ha : CallsAt w va l) (hb : CallsAt w vb l) : Calls Tryz.prog 73 #[va, vb] w (BoolAns true w) := by
 obtain ⟨I, hI, hIl, hi⟩ := ha
 obtain ⟨J, hJ, hJl, hj⟩ := hb
 obtain ⟨aa, an, ac, rfl, han, hAN⟩ := hI.val
 obtain ⟨ba, bn, bc, rfl, hbn, hBN⟩ := hJ.val
 have hl : an = l.length ∧ bn = l.length := by
  have h1 := congrArg List.length hIl
  have h2 := congrArg List.length hJl
  simp only [List.length_map] at h1 h2
  have := hAN.out; have := hBN.out
  omega
 obtain ⟨rfl, e⟩ := hl
 obtain rfl : bn = l.length := e
 obtain ⟨n, hn⟩ : ∃ n, l.length = n := ⟨_, rfl⟩
 rw [hn] at hI hJ han hAN hbn hBN
 have HI := η hI
 have HJ := η hJ
 have HIR := η hi
 have HJR := η hj
 have HIL := η hIl
 have HJL := η hJl
 rw [hn]
 clear hI hJ hi hj hIl hJl
 have HN := η hn
 clear hn
 go_enter Tryz.func73, Tryz.ntmps73
 go_wp2_with fail
 go_loopw [5] (fun i wr => ∃ (j : Nat), j ≤ n ∧ i = .int .i64 j ∧ Hid (Ext w wr)) (fun i _ => n - (intOf i).toNat)
 case atStart => exact ⟨0, Nat.zero_le _, rfl, η (Ext.rfl' _)⟩
 case round =>
  obtain ⟨j, hj, rfl, HW⟩ := hrel
  by_cases hlt : (j : Int) < n
  ·obtain ⟨x, hx⟩ := at_of_lt (xs := I) (k := j) (by have := HIL.out; have := hAN.out; omega)
   obtain ⟨y, hy⟩ := at_of_lt (xs := J) (k := j) (by have := HJL.out; have := hBN.out; omega)
   have ix := fun W => HI.out.run_at (P := Tryz.prog) el_called.under el_called.size .i64 (j : Int) (by omega) (by omega) W
   have iy := fun W => HJ.out.run_at (P := Tryz.prog) el_called.under el_called.size .i64 (j : Int) (by omega) (by omega) W
   obtain ⟨c0, c1, c2, c3, c4, c5⟩ := cb_at (HI.out.ext HW.out) hx
   obtain ⟨d0, d1, d2, d3, d4, d5⟩ := cb_at ((HJ.out.ext HW.out).ext ((Ext.rfl' wr).alloc' (cbOb x.c.id x.c.map (.slice x.ka x.c.key.length x.kc) (.slice x.va x.c.val.length x.vc) (.slice x.na x.c.n.length x.nc) x.c.ret))) hy
   simp only [Int.toNat_natCast] at ix iy
   obtain ⟨xk, xv, xn⟩ := HIR.out x (List.mem_of_getElem? hx)
   obtain ⟨yk, yv, yn⟩ := HJR.out y (List.mem_of_getElem? hy)
   have hxy : x.c = y.c := by
    have h1 := congrArg (fun l => l[j]?) (HIL.out.trans HJL.out.symm)
    simp only [List.getElem?_map, hx, hy, Option.map_some, Option.some.injEq] at h1
    exact h1
   rw [CB.kv] at xk yk
   rw [CB.vv] at xv yv
   rw [CB.nv] at xn yn
   rw [← hxy] at yk yv yn d0 d1 d2 d3 d4 d5
   obtain ⟨⟨id, map, key, val, N, ret⟩, ka, kc, va, vc, na, nc⟩ := x
   obtain ⟨yc, ka2, kc2, va2, vc2, na2, nc2⟩ := y
   simp only at c0 c1 c2 c3 c4 c5 d0 d1 d2 d3 d4 d5 xk xv xn yk yv yn
   clear hx hy hxy
   have XK := η xk
   have XV := η xv
   have XN := η xn
   have YK := η yk
   have YV := η yv
   have YN := η yn
   obtain ⟨kn, hkn⟩ : ∃ kn, key.length = kn := ⟨_, rfl⟩
   obtain ⟨vn, hvn⟩ : ∃ vn, val.length = vn := ⟨_, rfl⟩
   obtain ⟨nn, hnn⟩ : ∃ nn, N.length = nn := ⟨_, rfl⟩
   rw [hkn] at XK YK c2
   rw [hvn] at XV YV c3
   rw [hnn] at XN YN c4
   simp only [hkn, hvn, hnn] at d0 d1 d2 d3 d4 d5
   have HNN := η hnn
   have hnb := slice_n XN.out
   clear xk xv xn yk yv yn hkn hvn hnn
   go_upto_region 8 with fail
   obtain ⟨wc, hwc⟩ : ∃ u, (wr.alloc (cbOb id map (.slice ka kn kc) (.slice va vn vc) (.slice na nn nc) ret)).alloc (cbOb id map (.slice ka2 kn kc2) (.slice va2 vn vc2) (.slice na2 nn nc2) ret) = u := ⟨_, rfl⟩
   have hE1 : Ext wr wc := by rw [← hwc]; (repeat (first|exact xE0 _|assumption|refine xE1 ?_ _|refine xE2 ?_|refine xE3 ?_ _|refine xE4 ?_ (by assumption)))
   have o1 : wc.heap[wr.heap.size]? = some (cbOb id map (.slice ka kn kc) (.slice va vn vc) (.slice na nn nc) ret) := by rw [← hwc]; exact obj_old _ (obj_top _ _ rfl)
   have o2 : wc.heap[wr.heap.size + 1]? = some (cbOb id map (.slice ka2 kn kc2) (.slice va2 vn vc2) (.slice na2 nn nc2) ret) := by rw [← hwc]; exact obj_top _ _ (by simp)
   rw [hwc]
   clear hwc
   ·have HE1 := η (HW.out.trans' hE1)
    have a0 := cO (i := 0) o1
    have a1 := cO (i := 1) o1
    have a2 := cO (i := 2) o1
    have a3 := cO (i := 3) o1
    have a4 := cO (i := 4) o1
    have a5 := cO (i := 5) o1
    have b0 := cO (i := 0) o2
    have b1 := cO (i := 1) o2
    have b2 := cO (i := 2) o2
    have b3 := cO (i := 3) o2
    have b4 := cO (i := 4) o2
    have b5 := cO (i := 5) o2
    have s1 := ((XK.out.ext HW.out).ext hE1).run_str (P := Tryz.prog) Tryz.underlying23 Tryz.underlying5 Tryz.underlying9
    have s2 := ((XV.out.ext HW.out).ext hE1).run_str (P := Tryz.prog) Tryz.underlying23 Tryz.underlying5 Tryz.underlying9
    have s3 := ((YK.out.ext HW.out).ext hE1).run_str (P := Tryz.prog) Tryz.underlying23 Tryz.underlying5 Tryz.underlying9
    have s4 := ((YV.out.ext HW.out).ext hE1).run_str (P := Tryz.prog) Tryz.underlying23 Tryz.underlying5 Tryz.underlying9
    generalize strOfNums key = sk at *
    generalize strOfNums val = sv at *
    have hb1 : (id != id) = false := by simp
    have hb2 : (map != map) = false := by simp
    have hb3 : (ret != ret) = false := by simp
    have hb4 : ((nn : Int) != nn) = false := by simp
    have hb5 : (sk != sk) = false := bytes_bne sk
    have hb6 : (sv != sv) = false := bytes_bne sv
    clear o1 o2 hE1 ix iy c0 c1 c2 c3 c4 c5 d0 d1 d2 d3 d4 d5
    go_wp2_with fail
    go_loopw [8] (fun i wr2 => ∃ (k : Nat), k ≤ nn ∧ i = .int .i64 k ∧ Hid (Ext wc wr2)) (fun i _ => nn - (intOf i).toNat)
    case atStart => exact ⟨0, Nat.zero_le _, rfl, η (Ext.rfl' _)⟩
    case round =>
     obtain ⟨k, hk, rfl, HX⟩ := hrel
     have e4 := HX.out.cellOf a4
     have f4 := HX.out.cellOf b4
     by_cases hlk : (k : Int) < nn
     ·obtain ⟨z, hz⟩ := at_of_lt (xs := N) (k := k) (by have := HNN.out; omega)
      have jx := fun W => XN.out.run_at (P := Tryz.prog) el_u64.under el_u64.size .i64 (k : Int) (by omega) (by omega) W
      have jy := fun W => YN.out.run_at (P := Tryz.prog) el_u64.under el_u64.size .i64 (k : Int) (by omega) (by omega) W
      have g1 := (XN.out.ext (HE1.out.trans' HX.out)).cell hz (j := 0) rfl
      have g2 := (YN.out.ext (HE1.out.trans' HX.out)).cell hz (j := 0) rfl
      simp only [Nat.mul_one, Nat.add_zero, Int.toNat_natCast] at jx jy g1 g2
      have hbz : (z != z) = false := by simp
      clear hz
      go_wp2_with fail
      go_quiet (fail)
      go_wp2_with fail
      go_roundw
      case rel => exact ⟨k + 1, by omega, by go_num, η (by have := HX.out; (repeat (first|exact xE0 _|assumption|refine xE1 ?_ _|refine xE2 ?_|refine xE3 ?_ _|refine xE4 ?_ (by assumption))))⟩
      case measure => simp [intOf]; omega
     ·go_wp2_with fail
      go_roundw
      case rel => exact ⟨j + 1, by omega, by go_num, η (HE1.out.trans' HX.out)⟩
      case measure => simp [intOf]; omega
  ·go_wp2_with fail
   go_returns
   exact ⟨rfl, HW.out⟩
theorem ERd.ext {u u' : World} {e : EV} {cv mv : Value} (h : ERd u e cv mv) (k : Ext u u') : ERd u' e cv mv := by
 obtain ⟨cs, rows, h1, h2, h3, h4, h5, h6⟩ := h
 refine ⟨cs, rows, h1.ext k, h2, fun c hc => ⟨(h3 c hc).1.ext k, (h3 c hc).2.1.ext k, (h3 c hc).2.2.ext k⟩, h4.ext k, h5, fun i row l a b => ?_⟩
 obtain ⟨I, g1, g2, g3⟩ := h6 i row l a b
 exact ⟨I, g1.ext k, fun x hx => ⟨(g2 x hx).1.ext k, (g2 x hx).2.ext k⟩, g3⟩
theorem ERd.calls {u : World} {e : EV} {cv mv : Value} (h : ERd u e cv mv) : CallsAt u cv e.calls := by
 obtain ⟨cs, rows, h1, h2, h3, _⟩ := h
 exact ⟨cs, h1, h2, h3⟩
abbrev endOb (a b c d : Int) (cv mv : Value) : Obj := .cells #[.int .i64 a, .int .i64 b, .int .u64 c, .int .i64 d, cv, mv] 45 (0, 0)
theorem el_irows : El Tryz.prog 25 34 1 24 (.slice none 0 0) := ⟨Tryz.underlying25, by kernel_rfl, rfl, by decide, fun _ => by kernel_rfl⟩
set_option maxRecDepth 20000 in
set_option maxHeartbeats 4000000 in
theorem alike_true (e1 e2 : EV) (cv mv dv nv : Value) (w : World) (h1 : ERd w e1 cv mv) (h2 : ERd w e2 dv nv) (hc : e1.code = e2.code) (hr : e1.r0 = e2.r0) (hcl : e1.calls = e2.calls) (hm : e1.maps = e2.maps) :
  Calls Tryz.prog 40 #[.agg #[.int .i64 e1.code, .int .i64 e1.at_, .int .u64 e1.r0, .int .i64 e1.steps, cv, mv], .agg #[.int .i64 e2.code, .int .i64 e2.at_, .int .u64 e2.r0, .int .i64 e2.steps, dv, nv]] w (BoolAns true w) := by
 have HC1 := η h1.calls
 have HC2 := η h2.calls
 rw [← hcl] at HC2
 obtain ⟨cs, rows, -, -, -, hR, hl, hI⟩ := h1
 obtain ⟨cs2, rows2, -, -, -, hR2, hl2, hI2⟩ := h2
 obtain ⟨code, at1, r0, st1, l1, M⟩ := e1
 obtain ⟨code2, at2, r02, st2, l2, M2⟩ := e2
 simp only at hc hr hcl hm hl hl2 hI hI2 HC1 HC2
 subst hc hr hcl hm
 obtain ⟨ma, n, mc, rfl, hmn, hMN⟩ := hR.val
 obtain ⟨na, n2, nc, rfl, hnn, hNN⟩ := hR2.val
 obtain rfl : n = n2 := by rw [hMN.out, hNN.out, hl, hl2]
 have HR := η hR
 have HR2 := η hR2
 have HI := η hI
 have HI2 := η hI2
 have HLL := η (And.intro hl hl2)
 clear hR hR2 hI hI2 hl hl2
 obtain ⟨ca, cn, cc, rfl, hcn⟩ : ∃ a n c, cv = .slice a n c ∧ Hid (n = l1.length) := by
  obtain ⟨cs, h1, h2, _⟩ := HC1.out
  obtain ⟨a, n, c, e, _, hn⟩ := h1.val
  exact ⟨a, n, c, e, η (by rw [hn.out, ← h2, List.length_map])⟩
 obtain ⟨da, dn, dc, rfl, hdn⟩ : ∃ a n c, dv = .slice a n c ∧ Hid (n = l1.length) := by
  obtain ⟨cs, h1, h2, _⟩ := HC2.out
  obtain ⟨a, n, c, e, _, hn⟩ := h1.val
  exact ⟨a, n, c, e, η (by rw [hn.out, ← h2, List.length_map])⟩
 have hb1 : (code != code) = false := by simp
 have hb2 : (r0 != r0) = false := by simp
 have hb3 : ((n : Int) != n) = false := by simp
 have HCA := η (fun W (he : Ext w W) => calls_true _ _ _ W (HC1.out.ext he) (HC2.out.ext he))
 go_enter Tryz.func40, Tryz.ntmps40
 go_upto_region 1 with fail
 obtain ⟨wc, hwc⟩ : ∃ u, (w.alloc (endOb code at1 r0 st1 (.slice ca cn cc) (.slice ma n mc))).alloc (endOb code at2 r0 st2 (.slice da dn dc) (.slice na n nc)) = u := ⟨_, rfl⟩
 have hE1 : Ext w wc := by rw [← hwc]; (repeat (first|exact xE0 _|assumption|refine xE1 ?_ _|refine xE2 ?_|refine xE3 ?_ _|refine xE4 ?_ (by assumption)))
 have o1 : wc.heap[w.heap.size]? = some (endOb code at1 r0 st1 (.slice ca cn cc) (.slice ma n mc)) := by rw [← hwc]; exact obj_old _ (obj_top _ _ rfl)
 have o2 : wc.heap[w.heap.size + 1]? = some (endOb code at2 r0 st2 (.slice da dn dc) (.slice na n nc)) := by rw [← hwc]; exact obj_top _ _ (by simp)
 rw [hwc]
 clear hwc
 have HE1 := η hE1
 have HO1 := η o1
 have HO2 := η o2
 have a0 := cO (i := 0) o1
 have a2 := cO (i := 2) o1
 have a4 := cO (i := 4) o1
 have b0 := cO (i := 0) o2
 have b2 := cO (i := 2) o2
 have b4 := cO (i := 4) o2
 clear hE1 o1 o2
 go_wp2_with fail
 refine (HCA.out _ HE1.out).mono ?_
 rintro e w2 ⟨rfl, hE2⟩
 have HE2 := η (HE1.out.trans' hE2)
 have HP1 := η (hE2.obj HO1.out)
 have HP2 := η (hE2.obj HO2.out)
 have a5 := cO (i := 5) HP1.out
 have b5 := cO (i := 5) HP2.out
 clear a0 a2 a4 b0 b2 b4 hE2
 go_wp2_with fail
 go_loopw [5] (fun i wr => ∃ (k : Nat), k ≤ n ∧ i = .int .i64 k ∧ Hid (Ext w2 wr)) (fun i _ => n - (intOf i).toNat)
 case atStart => exact ⟨0, Nat.zero_le _, rfl, η (Ext.rfl' _)⟩
 case round =>
  obtain ⟨k, hk, rfl, HX⟩ := hrel
  have e5 := HX.out.cellOf a5
  have f5 := HX.out.cellOf b5
  by_cases hlt : (k : Int) < n
  ·obtain ⟨x, hx⟩ := at_of_lt (xs := rows) (k := k) (by have := HLL.out; have := hMN.out; omega)
   obtain ⟨y, hy⟩ := at_of_lt (xs := rows2) (k := k) (by have := HLL.out; have := hNN.out; omega)
   obtain ⟨z, hz⟩ := at_of_lt (xs := M) (k := k) (by have := HLL.out; have := hMN.out; omega)
   have ix := fun W => HR.out.run_at (P := Tryz.prog) el_irows.under el_irows.size .i64 (k : Int) (by omega) (by omega) W
   have iy := fun W => HR2.out.run_at (P := Tryz.prog) el_irows.under el_irows.size .i64 (k : Int) (by omega) (by omega) W
   have cx := (HR.out.ext (HE2.out.trans' HX.out)).cell hx (j := 0) rfl
   have cy := (HR2.out.ext (HE2.out.trans' HX.out)).cell hy (j := 0) rfl
   simp only [Nat.mul_one, Nat.add_zero, Int.toNat_natCast, SV.v] at ix iy cx cy
   have HSA := η (fun W (he : Ext w W) => same_true (.slice x.a x.n x.c) (.slice y.a y.n y.c) z W (by
    obtain ⟨I, g1, g2, g3⟩ := HI.out k x z hx hz
    exact ⟨I, g1.ext he, fun q hq => ⟨(g2 q hq).1.ext he, (g2 q hq).2.ext he⟩, g3⟩) (by
    obtain ⟨I, g1, g2, g3⟩ := HI2.out k y z hy hz
    exact ⟨I, g1.ext he, fun q hq => ⟨(g2 q hq).1.ext he, (g2 q hq).2.ext he⟩, g3⟩))
   have HX2 := η (HE2.out.trans' HX.out)
   clear hx hy hz
   obtain ⟨xa, xn, xc⟩ := x
   obtain ⟨ya, yn, yc⟩ := y
   simp only at cx cy HSA
   go_upto_region 6 with fail
   go_cut [53] from 42 to 53 (fun v wx => v = .bool false ∧ Hid (Ext wr wx))
   case first =>
    have e5g := Grow.cell e5
    have f5g := Grow.cell f5
    have cxg := Grow.cell cx
    have cyg := Grow.cell cy
    clear e5 f5 cx cy
    (refine wp_region_grow (by kernel_rfl) (by kernel_rfl) ?_; (repeat (go_big_quiet_step (((go_at_call 74; exact Calls.grow (HSA.out _ (HX2.out.trans' (Grow.ext _)))))))); refine wpQuiet_nil ?_; rintro wz ⟨nz, hz⟩; have hwq := nz.ext; rw [← hz] at hwq; clear hz)
    go_wp2_with fail
    go_meet
    exact ⟨rfl, η hwq⟩
   case rest =>
    obtain ⟨rfl, HC⟩ := hcut
    clear cx cy e5 f5
    go_wp2_with fail
    go_roundw
    case rel => exact ⟨k + 1, by omega, by go_num, η (HX.out.trans' HC.out)⟩
    case measure => simp [intOf]; omega
  ·go_wp2_with fail
   go_returns
   exact ⟨rfl, HE2.out.trans' HX.out⟩
set_option maxRecDepth 20000 in
set_option maxHeartbeats 4000000 in
theorem same_end (e : EV) (cv mv dv nv : Value) (w : World) (h1 : ERd w e cv mv) (h2 : ERd w e dv nv) :
  Calls Tryz.prog 15 #[.agg #[.int .i64 e.code, .int .i64 e.at_, .int .u64 e.r0, .int .i64 e.steps, cv, mv], .agg #[.int .i64 e.code, .int .i64 e.at_, .int .u64 e.r0, .int .i64 e.steps, dv, nv]] w (BoolAns true w) := by
 have HAL := η (fun W (he : Ext w W) => alike_true e e cv mv dv nv W (h1.ext he) (h2.ext he) rfl rfl rfl rfl)
 obtain ⟨code, at1, r0, st1, l1, M⟩ := e
 simp only at HAL
 clear h1 h2
 have hb1 : (at1 == at1) = true := by simp
 have hb2 : (st1 == st1) = true := by simp
 go_enter Tryz.func15, Tryz.ntmps15
 go_upto_region 1 with fail
 obtain ⟨wc, hwc⟩ : ∃ u, (w.alloc (endOb code at1 r0 st1 cv mv)).alloc (endOb code at1 r0 st1 dv nv) = u := ⟨_, rfl⟩
 have hE1 : Ext w wc := by rw [← hwc]; (repeat (first|exact xE0 _|assumption|refine xE1 ?_ _|refine xE2 ?_|refine xE3 ?_ _|refine xE4 ?_ (by assumption)))
 have o1 : wc.heap[w.heap.size]? = some (endOb code at1 r0 st1 cv mv) := by rw [← hwc]; exact obj_old _ (obj_top _ _ rfl)
 have o2 : wc.heap[w.heap.size + 1]? = some (endOb code at1 r0 st1 dv nv) := by rw [← hwc]; exact obj_top _ _ (by simp)
 rw [hwc]
 clear hwc
 have HE1 := η hE1
 have HO1 := η o1
 have HO2 := η o2
 have a0 := cO (i := 0) o1
 have a1 := cO (i := 1) o1
 have a2 := cO (i := 2) o1
 have a3 := cO (i := 3) o1
 have a4 := cO (i := 4) o1
 have a5 := cO (i := 5) o1
 have b0 := cO (i := 0) o2
 have b1 := cO (i := 1) o2
 have b2 := cO (i := 2) o2
 have b3 := cO (i := 3) o2
 have b4 := cO (i := 4) o2
 have b5 := cO (i := 5) o2
 clear hE1 o1 o2
 go_wp2_with fail
 refine (HAL.out _ HE1.out).mono ?_
 rintro e w2 ⟨rfl, hE2⟩
 have HE2 := η (HE1.out.trans' hE2)
 have g1 := cO (i := 1) (hE2.obj HO1.out)
 have g3 := cO (i := 3) (hE2.obj HO1.out)
 have k1 := cO (i := 1) (hE2.obj HO2.out)
 have k3 := cO (i := 3) (hE2.obj HO2.out)
 clear a0 a1 a2 a3 a4 a5 b0 b1 b2 b3 b4 b5 hE2
 go_wp2_with fail
 go_returns
 exact ⟨rfl, HE2.out⟩
section
variable {P : Program} {ops : Array Oper} {Q : Exit → Act → World → Prop} {md : Region.Mode} {S : World → Prop} {s : Nat}
def GS (S : World → Prop) (s : Nat) (listed : Array Bool) (w : World) : Prop := listed.getD s false = true ∨ S w
def wpAnyG (P : Program) (md : Region.Mode) (ops : Array Oper) (Q : Exit → Act → World → Prop) (S : World → Prop) (s : Nat) : Nat → Array Bool → Act → World → Prop
 | 0, listed, a, w => Region.ready md ops listed = [] ∧ Q .normal a w
 | fuel + 1, listed, a, w =>
  (Region.ready md ops listed = [] → Q .normal a w) ∧
  ∀ i ∈ Region.ready md ops listed, wpOp P ops Q i (fun a' w' => GS S s (listed.setIfInBounds i true) w' ∧ wpAnyG P md ops Q S s fuel (listed.setIfInBounds i true) a' w') a w
theorem wpAny_of_G : ∀ (fuel : Nat) (listed : Array Bool) (a : Act) (w : World), wpAnyG P md ops Q S s fuel listed a w → wpAny P md ops Q fuel listed a w
 | 0, _, _, _, h => h
 | fuel + 1, _, _, _, h => ⟨h.1, fun i hi => wpOp_mono (fun a' w' h' => wpAny_of_G fuel _ a' w' h'.2) (h.2 i hi)⟩
theorem GS.set {listed : Array Bool} {w : World} {i : Nat} (h : GS S s listed w) (hi : i ≠ s) : GS S s (listed.setIfInBounds i true) w := by
 unfold GS at *
 rw [getD_set_ne false hi]
 exact h
theorem GS.unset {listed : Array Bool} {w : World} {i : Nat} (h : GS S s (listed.setIfInBounds i true) w) (hi : i ≠ s) : GS S s listed w := by
 unfold GS at *
 rw [getD_set_ne false hi] at h
 exact h
theorem ready_not {listed : Array Bool} {i : Nat} {oj : Oper} (hr : i ∈ Region.ready md ops listed) (hall : ∀ e ∈ oj.after, Region.binds md e = true → listed.getD e.on false = true) : ∀ e ∈ oj.after, Region.binds md e = true → e.on ≠ i := fun e he hb heq => by
 have h1 := hall e he hb
 have h0 := (mem_ready.1 hr).1
 rw [heq] at h1
 rcases Nat.lt_or_ge i listed.size with h' | h'
 ·simp [h'] at h0 h1; rw [h0] at h1; cases h1
 ·simp [Array.getElem?_eq_none h'] at h1
theorem wpAnyG_first {Y : World → Prop} {i : Nat} {oi : Oper} {v : Value} (his : i ≠ s) (hi : ops[i]? = some oi) (hsel : ∀ (j : Nat) (o : Oper) cs b, ops[j]? = some o → o.op ≠ .select cs b)
  (hQ : ∀ c a w, Q (.panic c) (a.put oi.dst v) w → Q (.panic c) a w) (B : Array Bool → Prop)
  (keepB : ∀ (listed : Array Bool) (j : Nat) (oj : Oper), B listed → ops[j]? = some oj → (∀ e ∈ oj.after, Region.binds md e = true → e.on ≠ i) → B (listed.setIfInBounds j true))
  (keepY : ∀ listed w, B listed → GS S s listed w → Y w) :
  ∀ (fuel : Nat) (listed : Array Bool) (a : Act) (w : World),
   (∀ j oj, ops[j]? = some oj → j ≠ i → listed.getD j true = false → (∀ e ∈ oj.after, Region.binds md e = true → e.on ≠ i) → oi.apart ops oj = true) →
   i ∈ Region.ready md ops listed → YieldsIf P ops Y oi v a → B listed → GS S s listed w →
   wpAnyG P md ops Q S s fuel (listed.setIfInBounds i true) (a.put oi.dst v) w → wpAnyG P md ops Q S s (fuel + 1) listed a w := by
 intro fuel
 induction fuel with
 | zero =>
  intro listed a w _ hr hy hB hG H
  refine ⟨fun h => (by rw [h] at hr; cases hr), fun j hj => ?_⟩
  by_cases hji : j = i
  ·subst hji; exact hy.wpOp hi (keepY _ _ hB hG) ⟨hG.set his, H⟩
  ·have := ready_mono hj hji
   rw [H.1] at this
   cases this
 | succ fuel ih =>
  intro listed a w hfree hr hy hB hG H
  refine ⟨fun h => (by rw [h] at hr; cases hr), fun j hj => ?_⟩
  by_cases hji : j = i
  ·subst hji; exact hy.wpOp hi (keepY _ _ hB hG) ⟨hG.set his, H⟩
  ·have h1 := H.2 j (ready_mono hj hji)
   obtain ⟨hjun, oj, hoj, hall⟩ := mem_ready.1 hj
   have hnot := ready_not hr hall
   have h2 := wpOp_putIf hoj (hfree j oj hoj hji hjun hnot) (fun cs b => hsel i oi cs b hi) (fun cs b => hsel j oj cs b hoj) hQ hy h1
   have hfree' : ∀ k ok, ops[k]? = some ok → k ≠ i → (listed.setIfInBounds j true).getD k true = false →
     (∀ e ∈ ok.after, Region.binds md e = true → e.on ≠ i) → oi.apart ops ok = true := fun k ok hk hki hun hno => by
    refine hfree k ok hk hki ?_ hno
    by_cases hjk : j = k
    ·subst hjk; exact hjun
    ·rw [getD_set_ne true hjk] at hun; exact hun
   refine wpOp_mono (fun a' w' h3 => ?_) h2
   have hc : (listed.setIfInBounds i true).setIfInBounds j true = (listed.setIfInBounds j true).setIfInBounds i true := Array.setIfInBounds_comm _ _ (fun h => hji h.symm)
   rw [hc] at h3
   have hG' : GS S s (listed.setIfInBounds j true) w' := h3.2.1.unset his
   exact ⟨hG', ih (listed.setIfInBounds j true) a' w' hfree' (ready_mono hr (Ne.symm hji)) h3.1 (keepB _ j oj hB hoj hnot) hG' h3.2.2⟩
theorem wpAnyG_pure {i : Nat} {oi : Oper} {v : Value} {fuel : Nat} {listed : Array Bool} {a : Act} {w : World} (his : i ≠ s) (hi : ops[i]? = some oi) (hs : Region.noSelect ops = true) (hf : Region.free md ops listed i = true) (hr : (Region.ready md ops listed).contains i = true)
  (hQ : ∀ c a w, Q (.panic c) (a.put oi.dst v) w → Q (.panic c) a w) (hy : YieldsIf P ops (fun _ => True) oi v a) (hG : GS S s listed w)
  (h : wpAnyG P md ops Q S s fuel (listed.setIfInBounds i true) (a.put oi.dst v) w) : wpAnyG P md ops Q S s (fuel + 1) listed a w :=
 wpAnyG_first his hi (Region.noSelect_spec hs) hQ (fun _ => True) (fun _ _ _ _ _ _ => trivial) (fun _ _ _ _ => trivial) fuel listed a w (Region.free_spec hi hf) (by simpa using hr) hy trivial hG h
def waitsFor (md : Region.Mode) (ops : Array Oper) (s i : Nat) : Bool := match ops[s]? with | some os => os.after.any (fun e => Region.binds md e && e.on == i) | none => false
theorem wpAnyG_held {i : Nat} {oi : Oper} {v : Value} {fuel : Nat} {listed : Array Bool} {a : Act} {w : World} (his : i ≠ s) (hi : ops[i]? = some oi) (hs : Region.noSelect ops = true) (hf : Region.free md ops listed i = true) (hr : (Region.ready md ops listed).contains i = true)
  (hw : waitsFor md ops s i = true) (hun : listed.getD s false = false) (hQ : ∀ c a w, Q (.panic c) (a.put oi.dst v) w → Q (.panic c) a w) (hy : YieldsIf P ops S oi v a) (hG : GS S s listed w)
  (h : wpAnyG P md ops Q S s fuel (listed.setIfInBounds i true) (a.put oi.dst v) w) : wpAnyG P md ops Q S s (fuel + 1) listed a w := by
 refine wpAnyG_first (Y := S) his hi (Region.noSelect_spec hs) hQ (fun l => l.getD s false = false) (fun l j oj hB hoj hnot => ?_) (fun l w' hB hG' => ?_) fuel listed a w (Region.free_spec hi hf) (by simpa using hr) hy hun hG h
 ·by_cases hjs : j = s
  ·subst hjs
   unfold waitsFor at hw
   rw [hoj] at hw
   simp only [Array.any_eq_true', Bool.and_eq_true, beq_iff_eq] at hw
   obtain ⟨e, he, hb, hon⟩ := hw
   exact absurd hon (hnot e he hb)
  ·show (l.setIfInBounds j true).getD s false = false
   rw [getD_set_ne false hjs]; exact hB
 ·rcases hG' with h' | h'
  ·rw [hB] at h'; cases h'
  ·exact h'
theorem wpAnyG_one {k : Nat} {o : Oper} {fuel : Nat} {listed : Array Bool} {a : Act} {w : World} (hr : Region.ready md ops listed = [k]) (ho : ops[k]? = some o)
  (h : ∀ K' : Act → World → Prop, Shut (∀ a w, GS S s (listed.setIfInBounds k true) w → (GS S s (listed.setIfInBounds k true) w → wpAnyG P md ops Q S s fuel (listed.setIfInBounds k true) a w) → K' a w) → if Region.wanted o (yielded ops a.tmps) = true then Oper.wp P o a w K' Q else K' (a.put o.dst undef) w) :
  wpAnyG P md ops Q S s (fuel + 1) listed a w := by
 refine ⟨(fun h0 => by rw [hr] at h0; cases h0), fun i hi => ?_⟩
 rw [hr, List.mem_singleton] at hi
 subst hi
 exact wpOp_step ho (fun K' hK => h K' (fun a w hS hW => hK a w ⟨hS, hW hS⟩))
theorem wpAnyG_done {listed : Array Bool} {a : Act} {w : World} (hr : Region.ready md ops listed = []) (h : Q .normal a w) : ∀ fuel, wpAnyG P md ops Q S s fuel listed a w
 | 0 => ⟨hr, h⟩
 | _ + 1 => ⟨fun _ => h, by rw [hr]; simp⟩
theorem wp_region_G {id : Nat} {a : Act} {w : World} (S : World → Prop) (s : Nat) (hm : P.follows .mixedOrders = true) (h : wpAnyG P .any ops Q S s ops.size (Array.replicate ops.size false) a w.drew) : (Code.region id ops true).wp P Q a w :=
 wp_region_any hm (wpAny_of_G _ _ _ _ h)
end
end Go.Proofs.YtppefchjoodgnaaGreat
