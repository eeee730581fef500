/- What the claim leans on: PmI · PmJ · PmK · MsC. -/
import Derived.Test.YtppefchjoodgnaaGreatPN26
import Derived.Test.YtppefchjoodgnaaGreatPN21
namespace Go.Proofs.YtppefchjoodgnaaGreat
open Go.RowKit
set_option linter.unusedVariables false
set_option linter.unusedSimpArgs false
section
variable {F0 Z0 : List Nat} {wf w w' : World} {base mb : Nat} {σ : RS}
set_option maxHeartbeats 4000000 in
theorem p_does4 (x : Ins) (k : Wh) (h : PRel F0 Z0 wf base w mb σ) (hx : x.Ok) (hk : KindOk x k) (h1 : k.kind = 4) :
  Calls Tryz.prog 57 #[.pointer (some ⟨mb, 0, none⟩), x.agg, k.agg] w (PAns2 F0 Z0 wf base mb (if (σ.D.length : Int) ≤ x.imm then (σ, false, 113) else (σ.setR x.dst.toNat (12884901888 + x.imm), false, 0))) := by
 have hdst : 0 ≤ x.dst := hx.dst.1
 obtain ⟨d, hd⟩ : ∃ d : Nat, x.dst = d := ⟨x.dst.toNat, by omega⟩
 have hdd : d ≤ 10 := by have := hk.dst; omega
 rw [show x.dst.toNat = d by omega]
 have HBC := η (fun n W (he : PRel F0 Z0 wf base W mb σ) => p_becomes0 x n he d hd hdd)
 have hi0 : 0 ≤ x.imm := hk.k4 h1
 have hi1 : x.imm ≤ 2147483647 := hx.imm.2
 have hwi : wrap64 x.imm = x.imm := by unfold wrap64; omega
 have HM := η h
 obtain ⟨h0, hl, l, g1, g2, g3⟩ := h
 obtain ⟨da, dn, dc, hdv, hdn, hDN⟩ := g1.defs.val
 have hc25 := g1.cell 25 rfl
 rw [hdv] at hc25
 have hlt := heap_lt g1.head
 obtain hD : dn = σ.D.length := hDN.out
 rw [← hD]
 clear h0 hl g1 g2 g3 hdv hDN hD hk hx
 have HWD := η (fun W => (mem_at 3 x.imm W).mono (R' := fun e w' => e = .returned (.int .u64 (12884901888 + x.imm)) ∧ Ext W w') (fun e w' h => ⟨by rw [h.1, mat]; congr 2; omega, by rw [h.2]; exact Ext.rfl' _⟩))
 obtain ⟨op, dst, src, off, imm⟩ := x
 obtain ⟨kind, kop, wide, reg, sg, size⟩ := k
 simp only at h1 hd hi0 hi1 hwi
 subst h1
 subst hd
 by_cases hge : (dn : Int) ≤ imm
 all_goals
  simp only [hge, if_true, if_false]
  go_enter Tryz.func57, Tryz.ntmps57
  go_upto_region 5 with fail
  have HX := η (obj_old (whObj ⟨4, kop, wide, reg, sg, size⟩) (obj_top w (insObj ⟨op, d, src, off, imm⟩) rfl))
  have HE1 : Hid (Ext w ((w.alloc (insObj ⟨op, d, src, off, imm⟩)).alloc (whObj ⟨4, kop, wide, reg, sg, size⟩))) := η (by (repeat (first|exact xE0 _|assumption|refine xE1 ?_ _|refine xE2 ?_|refine xE3 ?_ _|refine xE4 ?_ (by assumption))))
  simp only [insObj, whObj] at HX HE1
  generalize hF : (w.alloc (.cells #[.int .u8 op, .int .u8 d, .int .u8 src, .int .i16 off, .int .i32 imm] 58)).alloc (.cells #[.int .u8 4, .int .u8 kop, .bool wide, .bool reg, .bool sg, .int .i64 size] 60) = wa at HX HE1 ⊢
  clear hF
  have x0 := cO (i := 0) HX.out
  have x1 := cO (i := 1) HX.out
  have x2 := cO (i := 2) HX.out
  have x3 := cO (i := 3) HX.out
  have x4 := cO (i := 4) HX.out
  simp only [gA, gB, gC] at x0 x1 x2 x3 x4
  generalize w.heap.size = q at HX x0 x1 x2 x3 x4 ⊢
  have HM1 := η (HM.out.go HE1.out)
  have hc25' := HE1.out.cellOf hc25
  clear hc25
  go_cut [38] from 30 to 39 (fun v wx => v = .bool (decide ((dn : Int) ≤ imm)) ∧ Hid (Ext wa wx))
  case first =>
   go_quiet (fail)
   go_wp2_with fail
   go_meet
   exact ⟨by simp [hge], η (by (repeat (first|exact xE0 _|assumption|refine xE1 ?_ _|refine xE2 ?_|refine xE3 ?_ _|refine xE4 ?_ (by assumption))))⟩
  case rest =>
   obtain ⟨rfl, HE2⟩ := hcut
   have HM2 := η (HM1.out.go HE2.out)
   first
   | (have hge2 : imm < (dn : Int) := by omega
      simp only [hge, decide_false]
      go_upto_region 7 with fail
      have z4 := Grow.cell (HE2.out.cellOf x4)
      have z0 := Grow.cell (HE2.out.cellOf x0)
      have z1 := Grow.cell (HE2.out.cellOf x1)
      have z2 := Grow.cell (HE2.out.cellOf x2)
      have z3 := Grow.cell (HE2.out.cellOf x3)
      clear x0 x1 x2 x3 x4 hc25'
      (refine wp_region_ext_tail 6 (by kernel_rfl) (by kernel_rfl) ?_; simp only [List.take_succ_cons, List.take_zero]; (repeat (go_big_quiet_step ((go_at_call 29; exact Calls.grow (HWD.out _))))); refine wpQuiet_nil ?_; rintro wz ⟨nz, hz⟩; have hwq := nz.ext; rw [← hz] at hwq; simp only [List.drop_succ_cons, List.drop_zero]; clear hz)
      go_wp2_with fail
      refine (HBC.out _ _ (HM2.out.go hwq)).mono ?_
      rintro e w3 ⟨rfl, hM⟩
      have HM3 := η hM
      clear hM
      go_wp2_with fail
      go_returns
      exact ⟨rfl, HM3.out⟩)
   | (simp only [hge, decide_true]
      go_wp2_with fail
      go_returns
      exact ⟨rfl, HM2.out⟩)
set_option maxHeartbeats 4000000 in
theorem p_does3 (x y : Ins) (k : Wh) (p : Nat) (h : PRel F0 Z0 wf base w mb σ) (hx : x.Ok) (hk : KindOk x k) (h1 : k.kind = 3) (hp : σ.place = p) (hl512 : σ.L.length ≤ 512) (hyy : σ.L[p + 1]? = some y) (hy : y.Ok) :
  Calls Tryz.prog 57 #[.pointer (some ⟨mb, 0, none⟩), x.agg, k.agg] w (PAns2 F0 Z0 wf base mb (σ.setR x.dst.toNat (longN x y), false, 0)) := by
 have hdst : 0 ≤ x.dst := hx.dst.1
 obtain ⟨d, hd⟩ : ∃ d : Nat, x.dst = d := ⟨x.dst.toNat, by omega⟩
 have hdd : d ≤ 10 := by have := hk.dst; omega
 rw [show x.dst.toNat = d by omega]
 have HBC := η (fun n W (he : PRel F0 Z0 wf base W mb σ) => p_becomes0 x n he d hd hdd)
 have HLG := η (fun W => p_Long x y W hx hy)
 obtain ⟨n, hn⟩ : ∃ n, longN x y = n := ⟨_, rfl⟩
 rw [hn] at HLG ⊢
 have HM := η h
 obtain ⟨h0, hl, l, g1, g2, g3⟩ := h
 obtain ⟨la, ln, lc, hlv, hln, hLN⟩ := g1.code.val
 have hcd := g1.code
 have hc0 := g1.cell 0 rfl
 have hc27 := g1.cell 27 rfl
 rw [hlv] at hcd hc0
 rw [hp] at hc27
 have hlt := heap_lt g1.head
 have HCD := η hcd
 have hpl2 : p + 1 < ln := by rw [hLN.out]; exact (List.getElem?_eq_some_iff.1 hyy).1
 have hln2 : ln ≤ 512 := by rw [hLN.out]; exact hl512
 have HYY := η hyy
 clear h0 hl g1 g2 g3 hlv hcd hLN hk hx hyy hy hn hl512
 obtain ⟨op, dst, src, off, imm⟩ := x
 obtain ⟨kind, kop, wide, reg, sg, size⟩ := k
 simp only at h1 hd
 subst h1
 subst hd
 go_enter Tryz.func57, Tryz.ntmps57
 go_upto_region 3 with fail
 have HX := η (obj_old (whObj ⟨3, kop, wide, reg, sg, size⟩) (obj_top w (insObj ⟨op, d, src, off, imm⟩) rfl))
 have HE1 : Hid (Ext w ((w.alloc (insObj ⟨op, d, src, off, imm⟩)).alloc (whObj ⟨3, kop, wide, reg, sg, size⟩))) := η (by (repeat (first|exact xE0 _|assumption|refine xE1 ?_ _|refine xE2 ?_|refine xE3 ?_ _|refine xE4 ?_ (by assumption))))
 simp only [insObj, whObj] at HX HE1
 generalize hF : (w.alloc (.cells #[.int .u8 op, .int .u8 d, .int .u8 src, .int .i16 off, .int .i32 imm] 58)).alloc (.cells #[.int .u8 3, .int .u8 kop, .bool wide, .bool reg, .bool sg, .int .i64 size] 60) = wa at HX HE1 ⊢
 clear hF
 have x0 := cO (i := 0) HX.out
 have x1 := cO (i := 1) HX.out
 have x2 := cO (i := 2) HX.out
 have x3 := cO (i := 3) HX.out
 have x4 := cO (i := 4) HX.out
 simp only [gA, gB, gC] at x0 x1 x2 x3 x4
 generalize w.heap.size = q at HX x0 x1 x2 x3 x4 ⊢
 have hcd1 := HCD.out.ext HE1.out
 obtain ⟨e0, e1, e2, e3, e4⟩ := ins_cells hcd1 HYY.out
 have ix := fun W => hcd1.run_at (P := Tryz.prog) el_ins.under el_ins.size .i64 ((p : Int) + 1) (by omega) (by omega) W
 simp only [show ((p : Int) + 1).toNat = p + 1 by omega] at ix
 have hw1 : wrap64 ((p : Int) + 1) = ((p + 1 : Nat) : Int) := by unfold wrap64; omega
 have HM1 := η (HM.out.go HE1.out)
 have hc0' := HE1.out.cellOf hc0
 have hc27' := HE1.out.cellOf hc27
 clear hcd1 hc0 hc27
 have z0 := Grow.cell hc0'
 have z1 := Grow.cell hc27'
 have f0 := Grow.cell e0
 have f1 := Grow.cell e1
 have f2 := Grow.cell e2
 have f3 := Grow.cell e3
 have f4 := Grow.cell e4
 have y0 := Grow.cell x0
 have y1 := Grow.cell x1
 have y2 := Grow.cell x2
 have y3 := Grow.cell x3
 have y4 := Grow.cell x4
 clear hc0' hc27' e0 e1 e2 e3 e4 x0 x1 x2 x3 x4
 (refine wp_region_ext_tail 15 (by kernel_rfl) (by kernel_rfl) ?_; simp only [List.take_succ_cons, List.take_zero]; (repeat (go_big_quiet_step ((go_at_call 94; exact Calls.grow (HLG.out _))))); refine wpQuiet_nil ?_; rintro wz ⟨nz, hz⟩; have hwq := nz.ext; rw [← hz] at hwq; simp only [List.drop_succ_cons, List.drop_zero]; clear hz)
 go_wp2_with fail
 refine (HBC.out _ _ (HM1.out.go hwq)).mono ?_
 rintro e w3 ⟨rfl, hM⟩
 have HM3 := η hM
 clear hM
 go_wp2_with fail
 go_returns
 exact ⟨rfl, HM3.out⟩
end
theorem plain_1 (σ : RS) (x : Ins) (k : Wh) (h : k.kind = 1) : σ.plain x k = ((σ.arith x k).1, false, (σ.arith x k).2) := by
 unfold RS.plain RS.arith bothOk
 rw [h]
 by_cases h2 : k.op = 176
 ·cases hs : (σ.second x k).2 <;> cases hd : σ.S x.dst.toNat <;> simp [h2]
 ·cases hs : (σ.second x k).2 <;> cases hd : σ.S x.dst.toNat <;> simp [h2]
theorem plain_2 (σ : RS) (x : Ins) (k : Wh) (h : k.kind = 2) (hr : k.reg = false) : σ.plain x k = if σ.S x.dst.toNat = false then (σ, false, 110) else (σ.setR x.dst.toNat (swapN k.wide (8 * k.size) (σ.R x.dst.toNat)), false, 0) := by
 unfold RS.plain bothOk
 rw [h, show (σ.second x k).2 = true by simp [RS.second, hr]]
 cases hd : σ.S x.dst.toNat <;> simp
theorem plain_10 (σ : RS) (x : Ins) (k : Wh) (h : k.kind = 10) : σ.plain x k = if (σ.second x k).2 = false ∨ σ.S x.dst.toNat = false then (σ, false, 110) else (σ, condN k.op k.wide (σ.R x.dst.toNat) (σ.second x k).1, 0) := by
 unfold RS.plain bothOk
 rw [h]
 cases hs : (σ.second x k).2 <;> cases hd : σ.S x.dst.toNat <;> simp
theorem plain_st (σ : RS) (x : Ins) (k : Wh) (h : k.kind = 6 ∨ k.kind = 7 ∨ k.kind = 8) : σ.plain x k = ((σ.store x k).1, false, (σ.store x k).2) := by
 rw [store_putS]
 unfold RS.plain bothOk
 have n1 : k.kind ≠ 1 := by omega
 have n2 : k.kind ≠ 2 := by omega
 have n3 : k.kind ≠ 10 := by omega
 cases hs : (σ.second x k).2 <;> cases hd : σ.S x.dst.toNat <;> simp [n1, n2, n3]
theorem does_plain (σ : RS) (x : Ins) (k : Wh) (h : k.kind = 1 ∨ k.kind = 2 ∨ k.kind = 10 ∨ k.kind = 6 ∨ k.kind = 7 ∨ k.kind = 8) (hr : k.kind = 2 → k.reg = false) :
  (σ.plain x k).1 = (σ.does x k).1 ∧ (σ.plain x k).2.2 = (σ.does x k).2.2 ∧
  ((σ.does x k).2.2 = 0 → (σ.does x k).2.1 = if (σ.plain x k).2.1 = true then (targetS σ.L x σ.place.toNat).getD 0 else nextI x σ.place.toNat) := by
 rcases h with h | h | h | h
 ·rw [plain_1 σ x k h]; simp [RS.does, h]
 ·rw [plain_2 σ x k h (hr h)]; simp only [RS.does, h]; cases hd : σ.S x.dst.toNat <;> simp
 ·rw [plain_10 σ x k h]; simp only [RS.does, h]
  cases hs : (σ.second x k).2 <;> cases hd : σ.S x.dst.toNat <;> simp
 ·rw [plain_st σ x k h]
  rcases h with h | h | h <;> simp [RS.does, h]
def NextOk (σ : RS) (x : Ins) (k : Wh) (hops : Bool) : Prop := (σ.does x k).2.2 = 0 → (σ.does x k).2.1 = if k.kind = 12 then σ.place else if hops = true then (targetS σ.L x σ.place.toNat).getD 0 else nextI x σ.place.toNat
section
variable {F0 Z0 : List Nat} {wf w w' : World} {base mb : Nat} {σ : RS}
theorem p_doesN (x : Ins) (k : Wh) (p : Nat) (h : PRel F0 Z0 wf base w mb σ) (ho : σ.Ok) (hio : InsOk σ.L) (hl : σ.L.length ≤ 512) (hx : x.Ok) (hk : KindOk x k) (hp : σ.place = p) (hy : k.kind = 3 → ∃ y, σ.L[p + 1]? = some y) (hr : k.kind = 2 → k.reg = false) (h11 : k.kind ≠ 11) :
  ∃ hops, NextOk σ x k hops ∧ Calls Tryz.prog 57 #[.pointer (some ⟨mb, 0, none⟩), x.agg, k.agg] w (PAns2 F0 Z0 wf base mb ((σ.does x k).1, hops, (σ.does x k).2.2)) := by
 have hpt : σ.place.toNat = p := by omega
 have hall : (k.kind = 1 ∨ k.kind = 2 ∨ k.kind = 10 ∨ k.kind = 6 ∨ k.kind = 7 ∨ k.kind = 8) ∨ k.kind = 3 ∨ k.kind = 4 ∨ k.kind = 5 ∨ k.kind = 9 ∨ k.kind = 12 := by have := hk.rng; omega
 rcases hall with h1 | h1 | h1 | h1 | h1 | h1
 ·obtain ⟨e1, e2, e3⟩ := does_plain σ x k h1 hr
  refine ⟨(σ.plain x k).2.1, fun he => ?_, ?_⟩
  ·rw [if_neg (by omega)]; exact e3 he
  ·have := p_doesP x k h ho hx hk h1
   rw [← e1, ← e2]
   exact this
 ·obtain ⟨y, hyy⟩ := hy h1
  have e : σ.does x k = (σ.setR x.dst.toNat (longN x y), ((nextI x σ.place.toNat : Nat) : Int), 0) := by
   simp only [RS.does, h1, hpt, hyy]; simp
  refine ⟨false, fun he => ?_, ?_⟩
  ·rw [e, if_neg (by omega)]; rfl
  ·rw [e]
   exact p_does3 x y k p h hx hk h1 hp hl hyy (hio.at hyy)
 ·have e : σ.does x k = if (σ.D.length : Int) ≤ x.imm then (σ, 0, 113) else (σ.setR x.dst.toNat (12884901888 + x.imm), ((nextI x σ.place.toNat : Nat) : Int), 0) := by
   simp only [RS.does, h1]; simp
  have := p_does4 x k h hx hk h1
  by_cases hge : (σ.D.length : Int) ≤ x.imm
  ·rw [if_pos hge] at e this
   refine ⟨false, fun he => ?_, ?_⟩
   ·rw [e] at he; simp at he
   ·rw [e]; exact this
  ·rw [if_neg hge] at e this
   refine ⟨false, fun he => ?_, ?_⟩
   ·rw [e, if_neg (by omega)]; rfl
   ·rw [e]; exact this
 ·have e : σ.does x k = ((σ.load x k).1, ((nextI x σ.place.toNat : Nat) : Int), (σ.load x k).2) := by simp only [RS.does, h1]; simp
  refine ⟨false, fun he => ?_, ?_⟩
  ·rw [e, if_neg (by omega)]; rfl
  ·rw [e]; exact p_does5 x k h hx hk h1
 ·have e : σ.does x k = (σ, (targetS σ.L x σ.place.toNat).getD 0, 0) := by simp only [RS.does, h1]; simp
  refine ⟨true, fun he => ?_, ?_⟩
  ·rw [e, if_neg (by omega)]; rfl
  ·rw [e]; exact p_does9 x k h h1
 ·have e : σ.does x k = if σ.S 0 = false then (σ, 0, 110) else ({ σ with over := true }, σ.place, 0) := by simp only [RS.does, h1]; simp
  have := p_does12 x k h h1
  cases hs : σ.S 0
  ·rw [hs] at e this
   simp only [if_true] at e this
   refine ⟨false, fun he => ?_, ?_⟩
   ·rw [e] at he; simp at he
   ·rw [e]; exact this
  ·rw [hs] at e this
   simp only [Bool.true_eq_false, if_false] at e this
   refine ⟨false, fun he => ?_, ?_⟩
   ·rw [e, if_pos h1]
   ·rw [e]; exact this
end
section
variable {F0 Z0 : List Nat} {wf w w' : World} {base mb : Nat} {σ : RS} {l : RLay}
structure CAt (w : World) (base : Nat) (x : CB) : Prop where
 key : Own w base 5 1 encB x.kv x.c.key
 val : Own w base 5 1 encB x.vv x.c.val
 n : Own w base 29 1 (fun x => [Value.int .u64 x]) x.nv x.c.n
theorem CAt.ext {w w' : World} {base : Nat} {x : CB} (h : CAt w base x) (k : Ext w w') : CAt w' base x := ⟨h.key.ext k, h.val.ext k, h.n.ext k⟩
theorem CAt.mono {w : World} {base b : Nat} {x : CB} (h : CAt w base x) (k : b ≤ base) : CAt w b x := ⟨h.key.mono k, h.val.mono k, h.n.mono k⟩
theorem CAt.set {w : World} {base : Nat} {x : CB} (h : CAt w base x) {b i : Nat} (hb : b < base) (v : Value) : CAt (w.setCell ⟨b, i, none⟩ v) base x := ⟨h.key.other hb _, h.val.other hb _, h.n.other hb _⟩
theorem CAt.chain6 {w : World} {base : Nat} {x : CB} (h : CAt w base x) {b : Nat} (hb : b < base) (v0 v1 v2 v3 v4 v5 : Value) : CAt ((((((w.setCell ⟨b, 0, none⟩ v0).setCell ⟨b, 1, none⟩ v1).setCell ⟨b, 2, none⟩ v2).setCell ⟨b, 3, none⟩ v3).setCell ⟨b, 4, none⟩ v4).setCell ⟨b, 5, none⟩ v5) base x := (((((h.set hb _).set hb _).set hb _).set hb _).set hb _).set hb _
abbrev cbObj (x : CB) : Obj := .cells #[.int .i64 x.c.id, .int .i64 x.c.map, .slice x.ka x.c.key.length x.kc, .slice x.va x.c.val.length x.vc, .slice x.na x.c.n.length x.nc, .int .u64 x.c.ret] 76 (0, 0)
abbrev sigObj (sv : Value) (tl : Int) (dw : Bool) (mo : Int) : Obj := .cells #[sv, .int .u8 tl, .bool dw, .int .u64 mo] 178 (0, 0)
def ToldA (c : Cl) (er : Int) (w : World) (e : Ending) (w' : World) : Prop :=
 ∃ x : CB, e = .returned (.tuple #[.agg x.enc.toArray, .int .i64 er]) ∧ x.c = c ∧ CAt w' w.heap.size x ∧ Ext w w'
def CB.new (id : Int) : CB := ⟨Cl.new id, none, 0, none, 0, none, 0⟩
theorem CAt.new (w : World) (b : Nat) (id : Int) : CAt w b (CB.new id) := ⟨Own.nil _ _ _ _ _, Own.nil _ _ _ _ _, Own.nil _ _ _ _ _⟩
theorem drop_at {α : Type} : ∀ {l : List α} {k : Nat} {t : α}, l[k]? = some t → l.drop k = t :: l.drop (k + 1)
 | [], k, t, h => by simp at h
 | a :: l, 0, t, h => by simp at h; simp [h]
 | a :: l, k + 1, t, h => by simp only [List.getElem?_cons_succ] at h; simpa using drop_at h
theorem tolds_in {id t : Int} (h : t ∈ tolds id) : t = 1 ∨ t = 2 ∨ t = 3 ∨ t = 4 := by
 unfold tolds at h
 split at h
 ·simp at h; omega
 ·split at h
  ·simp at h; omega
  ·split at h
   ·simp at h; omega
   ·simp at h
theorem tolds_four (id : Int) : (tolds id).length ≤ 4 := by unfold tolds; (repeat' split) <;> simp
theorem tolds_map {id t : Int} {i : Nat} (h : (tolds id)[i]? = some t) (ht : t = 2 ∨ t = 3) : 1 ≤ i ∧ (tolds id)[0]? = some 1 := by
 revert h
 unfold tolds
 (repeat' split)
 all_goals
  intro h
  match i, h with
  | 0, h => simp at h <;> omega
  | i + 1, h => first | exact ⟨by omega, rfl⟩ | (exfalso; match i, h with | 0, h => (simp at h <;> omega) | i + 1, h => simp at h)
theorem setc6 {w0 w : World} {B : Nat} {t : TypeId} {a0 a1 a2 a3 a4 a5 : Value} (h : w.heap[B]? = some (.cells #[a0, a1, a2, a3, a4, a5] t (0, 0))) (he : Ext w0 w) (hb : w0.heap.size ≤ B) (v0 v1 v2 v3 v4 v5 : Value) :
  ((((((w.setCell ⟨B, 0, none⟩ v0).setCell ⟨B, 1, none⟩ v1).setCell ⟨B, 2, none⟩ v2).setCell ⟨B, 3, none⟩ v3).setCell ⟨B, 4, none⟩ v4).setCell ⟨B, 5, none⟩ v5).heap[B]? = some (.cells #[v0, v1, v2, v3, v4, v5] t (0, 0)) ∧
  Ext w0 ((((((w.setCell ⟨B, 0, none⟩ v0).setCell ⟨B, 1, none⟩ v1).setCell ⟨B, 2, none⟩ v2).setCell ⟨B, 3, none⟩ v3).setCell ⟨B, 4, none⟩ v4).setCell ⟨B, 5, none⟩ v5) := by
 refine ⟨?_, (((((he.setCell hb _).setCell hb _).setCell hb _).setCell hb _).setCell hb _).setCell hb _⟩
 have h1 := heap_setCell_same w B 0 _ _ v0 h
 have h2 := heap_setCell_same _ B 1 _ _ v1 h1
 have h3 := heap_setCell_same _ B 2 _ _ v2 h2
 have h4 := heap_setCell_same _ B 3 _ _ v3 h3
 have h5 := heap_setCell_same _ B 4 _ _ v4 h4
 have h6 := heap_setCell_same _ B 5 _ _ v5 h5
 simpa using h6
structure TInv (F0 Z0 : List Nat) (wf : World) (base mb : Nat) (σ : RS) (id tl mo : Int) (dw : Bool) (sv : Value) (w wr : World) (i : Nat) (x : CB) : Prop where
 ext : Ext w wr
 sig : wr.heap[w.heap.size]? = some (sigObj sv tl dw mo)
 res : wr.heap[w.heap.size + 1]? = some (cbObj (CB.new 0))
 box : wr.heap[w.heap.size + 1 + 1]? = some (cbObj x)
 c : CAt wr (w.heap.size + 1 + 1 + 1) x
 eq : σ.tells x.c i ((tolds id).drop i) = σ.tells (Cl.new id) 0 (tolds id)
 map : 1 ≤ i → (tolds id)[0]? = some 1 → ∃ d, pick σ.D x.c.map = some d
 few : x.c.n.length ≤ i
theorem TInv.other {id tl mo : Int} {dw : Bool} {sv : Value} {wr : World} {k : Nat} {x : CB} (h : TInv F0 Z0 wf base mb σ id tl mo dw sv w wr k x) {w3 : World} (he : Ext wr w3) (j : Nat) (v : Value) :
  Ext w (w3.setCell ⟨w.heap.size + 1 + 1, j, none⟩ v) ∧ (w3.setCell ⟨w.heap.size + 1 + 1, j, none⟩ v).heap[w.heap.size + 1]? = some (cbObj (CB.new 0)) :=
 ⟨(h.ext.trans' he).setCell (by show w.heap.size ≤ w.heap.size + 1 + 1; omega) _, (heap_setCell_other w3 _ _ _ (show w.heap.size + 1 ≠ w.heap.size + 1 + 1 by omega)).trans (he.obj h.res)⟩
theorem TInv.next {id tl mo : Int} {dw : Bool} {sv : Value} {wr : World} {k : Nat} {x : CB} (h : TInv F0 Z0 wf base mb σ id tl mo dw sv w wr k x) {w3 : World} (he : Ext wr w3) (j : Nat) (v : Value) (y : CB)
  (hy : ([.int .i64 x.c.id, .int .i64 x.c.map, .slice x.ka x.c.key.length x.kc, .slice x.va x.c.val.length x.vc, .slice x.na x.c.n.length x.nc, .int .u64 x.c.ret] : List Value).set j v = [.int .i64 y.c.id, .int .i64 y.c.map, .slice y.ka y.c.key.length y.kc, .slice y.va y.c.val.length y.vc, .slice y.na y.c.n.length y.nc, .int .u64 y.c.ret])
  (hc : CAt w3 (w.heap.size + 1 + 1 + 1) y) (heq : σ.tells y.c (k + 1) ((tolds id).drop (k + 1)) = σ.tells (Cl.new id) 0 (tolds id)) (hm : (tolds id)[0]? = some 1 → ∃ d, pick σ.D y.c.map = some d) (hf : y.c.n.length ≤ k + 1) :
  TInv F0 Z0 wf base mb σ id tl mo dw sv w (w3.setCell ⟨w.heap.size + 1 + 1, j, none⟩ v) (k + 1) y := by
 refine ⟨(h.other he j v).1, (heap_setCell_other w3 _ _ _ (show w.heap.size ≠ w.heap.size + 1 + 1 by omega)).trans (he.obj h.sig), (h.other he j v).2, ?_, hc.set (by omega) v, heq, fun _ => hm, hf⟩
 have := heap_setCell_same w3 (w.heap.size + 1 + 1) j _ _ v (he.obj h.box)
 rw [this]
 have e : (#[.int .i64 x.c.id, .int .i64 x.c.map, .slice x.ka x.c.key.length x.kc, .slice x.va x.c.val.length x.vc, .slice x.na x.c.n.length x.nc, .int .u64 x.c.ret] : Array Value).setIfInBounds j v = #[.int .i64 y.c.id, .int .i64 y.c.map, .slice y.ka y.c.key.length y.kc, .slice y.va y.c.val.length y.vc, .slice y.na y.c.n.length y.nc, .int .u64 y.c.ret] := by
  apply Array.ext'
  rw [Array.toList_setIfInBounds]
  exact hy
 first | rw [e] | (simp only [cbObj]; rw [e])
theorem ne_u8_u64 : 5 ≠ 29 := by decide
theorem TInv.push {id tl mo : Int} {dw : Bool} {sv : Value} {wr : World} {k : Nat} {x : CB} (h : TInv F0 Z0 wf base mb σ id tl mo dw sv w wr k x) {w3 : World} (hb : Below (w.heap.size + 1 + 1 + 1) wr w3) (he : Ext w w3) {y : CB} (j : Nat) (v : Value)
  (hy : ([.int .i64 x.c.id, .int .i64 x.c.map, .slice x.ka x.c.key.length x.kc, .slice x.va x.c.val.length x.vc, .slice x.na x.c.n.length x.nc, .int .u64 x.c.ret] : List Value).set j v = [.int .i64 y.c.id, .int .i64 y.c.map, .slice y.ka y.c.key.length y.kc, .slice y.va y.c.val.length y.vc, .slice y.na y.c.n.length y.nc, .int .u64 y.c.ret])
  (hc : CAt w3 (w.heap.size + 1 + 1 + 1) y) (heq : σ.tells y.c (k + 1) ((tolds id).drop (k + 1)) = σ.tells (Cl.new id) 0 (tolds id)) (hm : (tolds id)[0]? = some 1 → ∃ d, pick σ.D y.c.map = some d) (hf : y.c.n.length ≤ k + 1) :
  TInv F0 Z0 wf base mb σ id tl mo dw sv w (w3.setCell ⟨w.heap.size + 1 + 1, j, none⟩ v) (k + 1) y := by
 refine ⟨he.setCell (by show w.heap.size ≤ w.heap.size + 1 + 1; omega) _, (heap_setCell_other w3 _ _ _ (show w.heap.size ≠ w.heap.size + 1 + 1 by omega)).trans (obj_below hb h.sig (by omega)), (heap_setCell_other w3 _ _ _ (show w.heap.size + 1 ≠ w.heap.size + 1 + 1 by omega)).trans (obj_below hb h.res (by omega)), ?_, hc.set (by omega) v, heq, fun _ => hm, hf⟩
 have := heap_setCell_same w3 (w.heap.size + 1 + 1) j _ _ v (obj_below hb h.box (by omega))
 rw [this]
 have e : (#[.int .i64 x.c.id, .int .i64 x.c.map, .slice x.ka x.c.key.length x.kc, .slice x.va x.c.val.length x.vc, .slice x.na x.c.n.length x.nc, .int .u64 x.c.ret] : Array Value).setIfInBounds j v = #[.int .i64 y.c.id, .int .i64 y.c.map, .slice y.ka y.c.key.length y.kc, .slice y.va y.c.val.length y.vc, .slice y.na y.c.n.length y.nc, .int .u64 y.c.ret] := by
  apply Array.ext'
  rw [Array.toList_setIfInBounds]
  exact hy
 first | rw [e] | (simp only [cbObj]; rw [e])
theorem told_err {id t : Int} {c : Cl} {k : Nat} (h : σ.tells c k ((tolds id).drop k) = σ.tells (Cl.new id) 0 (tolds id)) (ht : (tolds id)[k]? = some t) (he : (σ.tell c k t).2 ≠ 0) : σ.told id = (Cl.new 0, (σ.tell c k t).2) := by
 have hd : (tolds id).drop k = t :: (tolds id).drop (k + 1) := drop_at ht
 rw [hd, RS.tells, if_pos he] at h
 rw [RS.told, ← h, if_pos he]
theorem told_ok {id t : Int} {c : Cl} {k : Nat} (h : σ.tells c k ((tolds id).drop k) = σ.tells (Cl.new id) 0 (tolds id)) (ht : (tolds id)[k]? = some t) (he : (σ.tell c k t).2 = 0) : σ.tells (σ.tell c k t).1 (k + 1) ((tolds id).drop (k + 1)) = σ.tells (Cl.new id) 0 (tolds id) := by
 have hd : (tolds id).drop k = t :: (tolds id).drop (k + 1) := drop_at ht
 rw [hd, RS.tells, if_neg (by simpa using he)] at h
 exact h
theorem told_end {id : Int} {c : Cl} {k : Nat} (h : σ.tells c k ((tolds id).drop k) = σ.tells (Cl.new id) 0 (tolds id)) (hk : (tolds id).length ≤ k) : σ.told id = (c, 0) := by
 rw [List.drop_eq_nil_of_le hk, RS.tells] at h
 rw [RS.told, ← h, if_neg (by simp)]
end
end Go.Proofs.YtppefchjoodgnaaGreat
