/- What the claim leans on: PmD · PmE · PmF · PmG · PmH. -/
import Derived.Test.YtppefchjoodgnaaGreatPN25
namespace Go.Proofs.YtppefchjoodgnaaGreat
open Go.RowKit
set_option linter.unusedVariables false
set_option linter.unusedSimpArgs false
section
variable {F0 Z0 : List Nat} {wf w w' : World} {base mb : Nat} {σ : RS}
def isT (d : Nat) (n : Int) : Bool := decide (12884901888 ≤ n ∧ n < 12884901888 + d)
set_option maxHeartbeats 1000000 in
theorem p_word (h : PRel F0 Z0 wf base w mb σ) (n : Int) (hn : u64R n) :
  Calls Tryz.prog 171 #[.pointer (some ⟨mb, 0, none⟩), .int .u64 n] w fun e w' => e = .returned (.tuple #[.int .i64 (if isT σ.D.length n then tblN σ.D.length n else 0), .bool (isT σ.D.length n)]) ∧ Ext w w' := by
 obtain ⟨h0, hl, l, g1, g2, g3⟩ := h
 obtain ⟨a, m, c, hdv, hm, hN⟩ := g1.defs.val
 have hd := g1.cell 25 rfl
 rw [hdv] at hd
 have hlt := heap_lt g1.head
 have HN := η hn
 obtain hD : m = σ.D.length := hN.out
 rw [← hD]
 clear h0 hl g1 g2 g3 hdv hN hD hn
 have e3 : mat 3 0 = 12884901888 := rfl
 have em : IntKind.u64.wrap (m : Int) = m := by simp [IntKind.wrap, IntKind.bits, IntKind.signed]; omega
 obtain ⟨i, hi⟩ : ∃ i, IntKind.u64.wrap (n - 12884901888) = i := ⟨_, rfl⟩
 have hi2 : i = if 12884901888 ≤ n then n - 12884901888 else n - 12884901888 + 18446744073709551616 := by
  have := HN.out
  unfold u64R at this
  rw [← hi]
  simp only [IntKind.wrap, IntKind.bits, IntKind.signed]
  simp
  split <;> omega
 have HI := η hi2
 have hT : isT m n = decide (i < m) := by
  have := HN.out
  unfold u64R at this
  rw [hi2]
  unfold isT
  congr 1
  apply propext
  constructor
  ·rintro ⟨h1, h2⟩; rw [if_pos h1]; omega
  ·intro h; split at h <;> omega
 rw [hT]
 have hi0 : 0 ≤ i := by have := HN.out; unfold u64R at this; rw [hi2]; split <;> omega
 have HV := η (show i < m → tblN m n = i from fun h => by
  have := hT
  rw [decide_eq_true h] at this
  have h3 : 12884901888 ≤ n ∧ n < 12884901888 + m := by simpa [isT] using this
  rw [tblN, if_pos h3, hi2, if_pos h3.1])
 clear hT hi2
 by_cases hc : i < m
 ·rw [decide_eq_true hc, if_pos rfl, HV.out hc]
  have hw : wrap64 i = i := by unfold wrap64; omega
  go_enter Tryz.func171, Tryz.ntmps171
  go_wp2_with fail
  refine (mem_at 3 0 _).mono ?_
  rintro e w1 ⟨rfl, rfl⟩
  rw [e3]
  go_wp2_with fail
  go_returns
  exact ⟨rfl, by (repeat (first|exact xE0 _|assumption|refine xE1 ?_ _|refine xE2 ?_|refine xE3 ?_ _|refine xE4 ?_ (by assumption)))⟩
 ·rw [decide_eq_false hc]
  go_enter Tryz.func171, Tryz.ntmps171
  go_wp2_with fail
  refine (mem_at 3 0 _).mono ?_
  rintro e w1 ⟨rfl, rfl⟩
  rw [e3]
  go_wp2_with fail
  go_returns
  exact ⟨rfl, by (repeat (first|exact xE0 _|assumption|refine xE1 ?_ _|refine xE2 ?_|refine xE3 ?_ _|refine xE4 ?_ (by assumption)))⟩
set_option maxHeartbeats 4000000 in
theorem p_load (x : Ins) (k : Wh) (h : PRel F0 Z0 wf base w mb σ) (hx : x.Ok) (hk : KindOk x k) (h1 : k.kind = 5) :
  Calls Tryz.prog 95 #[.pointer (some ⟨mb, 0, none⟩), x.agg, k.agg] w (PAns F0 Z0 wf base mb (σ.load x k).1 (.int .i64 (σ.load x k).2)) := by
 have HWH := η (fun n W => p_where n x W hx)
 obtain ⟨op, dst, src, off, imm⟩ := x
 obtain ⟨kind, kop, wide, reg, sg, size⟩ := k
 have hsrc : 0 ≤ src := hx.src.1
 obtain ⟨d, rfl⟩ : ∃ d : Nat, src = d := ⟨src.toNat, by omega⟩
 have hdd : d ≤ 10 := by have := hk.src; simp at this; omega
 have hdst : 0 ≤ dst := hx.dst.1
 obtain ⟨t, rfl⟩ : ∃ d : Nat, dst = d := ⟨dst.toNat, by omega⟩
 have htt : t ≤ 10 := by have := hk.dst; simp at this; omega
 have HM := η h
 have HSZ := η (hk.km (by omega) (by omega))
 obtain ⟨rb, lv, L, cm, HV, HRF, _⟩ := h.mem
 obtain ⟨h0, hl, l, g1, g2, g3⟩ := h
 have HAT := η g1
 have HCM := η cm
 clear hx hk h0 g1 g2 g3 hl h1 cm
 have HA := η (addr_rng σ d ⟨op, t, d, off, imm⟩)
 obtain ⟨A, hA⟩ : ∃ A, σ.addr d ⟨op, t, d, off, imm⟩ = A := ⟨_, rfl⟩
 have hA2 : IntKind.u64.wrap (σ.R d + signN (off % 65536) 16) = A := by rw [← hA]; simp [RS.addr]
 rw [hA] at HA
 have HWR := η (fun W => (HWH.out (σ.R d) W).mono (R' := fun e w' => e = .returned (.int .u64 A) ∧ Ext W w') (fun e w' h => ⟨by rw [h.1, ← hA2], by rw [h.2]; (repeat (first|exact xE0 _|assumption|refine xE1 ?_ _|refine xE2 ?_|refine xE3 ?_ _|refine xE4 ?_ (by assumption)))⟩))
 obtain ⟨n, er, hL⟩ : ∃ n er, mload σ.V.1 A size = (n, er) := ⟨_, _, rfl⟩
 have HLD := η (fun W (he : Ext w W) => (mem_load rb lv L A size W (HRF.out W he) HA.out.1 (η HA.out.2)).mono (R' := fun e w' => e = .returned (.tuple #[.int .u64 n, .int .i64 er]) ∧ Ext W w') (fun e w' h => by rw [LoadAns, HV.out, hL] at h; exact h))
 have HLL := η hL
 have HAA := η hA
 clear hA hA2 hL HWH
 obtain ⟨res, hres⟩ : ∃ r, RS.load σ ⟨op, t, d, off, imm⟩ ⟨kind, kop, wide, reg, sg, size⟩ = r := ⟨_, rfl⟩
 rw [hres]
 have HRES := η hres
 clear hres
 have hd1 : (d : Int) ≤ 10 := by omega
 have hd2 : 0 ≤ (d : Int) := by omega
 have hd3 : (d : Int) < 11 := by omega
 go_enter Tryz.func95, Tryz.ntmps95
 go_upto_region 1 with fail
 have HX := η (obj_old (whObj ⟨kind, kop, wide, reg, sg, size⟩) (obj_top w (insObj ⟨op, t, d, off, imm⟩) rfl))
 have HW := η (obj_top (w.alloc (insObj ⟨op, t, d, off, imm⟩)) (whObj ⟨kind, kop, wide, reg, sg, size⟩) (k := w.heap.size + 1) (by simp))
 have HE1 : Hid (Ext w ((w.alloc (insObj ⟨op, t, d, off, imm⟩)).alloc (whObj ⟨kind, kop, wide, reg, sg, size⟩))) := η (by (repeat (first|exact xE0 _|assumption|refine xE1 ?_ _|refine xE2 ?_|refine xE3 ?_ _|refine xE4 ?_ (by assumption))))
 simp only [insObj, whObj] at HX HW HE1
 generalize hF : (w.alloc (.cells #[.int .u8 op, .int .u8 t, .int .u8 d, .int .i16 off, .int .i32 imm] 58)).alloc (.cells #[.int .u8 kind, .int .u8 kop, .bool wide, .bool reg, .bool sg, .int .i64 size] 60) = wa at HX HW HE1 ⊢
 have HA1 := η (HAT.out.ext HE1.out)
 have HM1 := η (HM.out.go HE1.out)
 clear hF
 generalize w.heap.size = q at HX HW ⊢
 have x2 := cO (i := 2) HX.out
 have m1 := HA1.out.cell _ (pcell_R σ l hdd)
 have m2 := HA1.out.cell _ (pcell_S σ l hdd)
 simp only [gA, gB, gC] at x2
 rw [show 1 + 2 * d = 1 + d * 2 by omega] at m1
 rw [show 2 + 2 * d = 1 + d * 2 + 1 by omega] at m2
 have hS : ∀ W, Ext wa W → (W.cell? ⟨q, 2, none⟩ = some (.int .u8 d) ∧ W.cell? ⟨mb, 1 + d * 2, none⟩ = some (.int .u64 (σ.R d)) ∧ W.cell? ⟨mb, 1 + d * 2 + 1, none⟩ = some (.bool (σ.S d))) := fun W h =>
  ⟨h.cellOf x2, h.cellOf m1, h.cellOf m2⟩
 have HS := η hS
 clear hS
 go_cut [7] from 10 to 17 (fun v7 wx => ∃ p : Nat, v7 = .pointer (some ⟨p, 0, none⟩) ∧ Hid (wx.heap[p]? = some (.cells #[.int .u64 (σ.R d), .bool (σ.S d)] 105 (0, 0)) ∧ Ext wa wx))
 case first =>
  go_region_held3 (fun w' => w'.cell? ⟨q, 2, none⟩ = some (.int .u8 d) ∧ w'.cell? ⟨mb, 1 + d * 2, none⟩ = some (.int .u64 (σ.R d)) ∧ w'.cell? ⟨mb, 1 + d * 2 + 1, none⟩ = some (.bool (σ.S d)))
   (exact HS.out _ (by (repeat (first|exact xE0 _|assumption|refine xE1 ?_ _|refine xE2 ?_|refine xE3 ?_ _|refine Below.setCell ?_ (by first | (simp; done) | (simp; omega) | omega) _ | refine Ext.trans' ?_ (by assumption)))))
   ((fail))
  all_goals
   go_wp2_with fail
   go_meet
   refine ⟨_, rfl, η ⟨?_, by (repeat (first|exact xE0 _|assumption|refine xE1 ?_ _|refine xE2 ?_|refine xE3 ?_ _|refine xE4 ?_ (by assumption)))⟩⟩
   (repeat (first | (refine obj_top _ _ ?_; simp; done) | refine obj_old _ ?_))
 case rest =>
  obtain ⟨p, rfl, HI2⟩ := hcut
  have p0 := cO (i := 0) HI2.out.1
  have p1 := cO (i := 1) HI2.out.1
  simp only [gA, gB, gC] at p0 p1
  have HE2 := η (HE1.out.trans' HI2.out.2)
  have HM2 := η (HM1.out.go HI2.out.2)
  clear x2 m1 m2 HS HM1
  cases hs : σ.S d
  all_goals
   rw [hs] at p1
   have HSS := η hs
   clear hs
  ·go_wp2_with fail
   go_returns
   obtain rfl : res = (σ, 110) := by rw [← HRES.out, RS.load, if_pos]; simpa using HSS.out
   exact ⟨rfl, HM2.out.go (by (repeat (first|exact xE0 _|assumption|refine xE1 ?_ _|refine xE2 ?_|refine xE3 ?_ _|refine xE4 ?_ (by assumption))))⟩
  ·have x0 := cO (i := 0) (HI2.out.2.obj HX.out)
   have x1 := cO (i := 1) (HI2.out.2.obj HX.out)
   have x2 := cO (i := 2) (HI2.out.2.obj HX.out)
   have x3 := cO (i := 3) (HI2.out.2.obj HX.out)
   have x4 := cO (i := 4) (HI2.out.2.obj HX.out)
   have y5 := cO (i := 5) (HI2.out.2.obj HW.out)
   have hcm := HE2.out.cellOf HCM.out
   have hlc : mb < wc.heap.size := HM2.out.lt
   simp only [gA, gB, gC] at x0 x1 x2 x3 x4 y5
   go_upto_region 4 with fail
   go_cut [8, 9] from 20 to 34 (fun v7 v8 wy => v7 = .int .u64 n ∧ v8 = .int .i64 er ∧ Hid (Ext wc wy))
   case first =>
    have cmg := Grow.cell hcm
    have x0g := Grow.cell x0
    have x1g := Grow.cell x1
    have x2g := Grow.cell x2
    have x3g := Grow.cell x3
    have x4g := Grow.cell x4
    have y5g := Grow.cell y5
    have p0g := Grow.cell p0
    clear x0 x1 x2 x3 x4 y5 p0 p1 hcm
    refine wp_region_grow (by kernel_rfl) (by kernel_rfl) ?_
    repeat (go_big_quiet_step (first | (go_at_call 129; exact Calls.grow (HWR.out _)) | (go_at_call 128; exact Calls.grow (HLD.out _ (HE2.out.trans' (Grow.ext _))))))
    refine wpQuiet_nil ?_
    rintro _ ⟨⟨wq, hwq⟩, rfl⟩
    go_wp2_with fail
    go_meet
    exact ⟨rfl, rfl, η hwq⟩
   case rest =>
    obtain ⟨rfl, rfl, HC⟩ := hcut
    have HEZ := η (HI2.out.2.trans' HC.out)
    have HM3 := η (HM2.out.go HC.out)
    have HN := η (by have := mload_rng HM3.out.u8 A size; rw [HLL.out] at this; exact this : u64R n)
    have e8 : wrap64 (8 * size) = 8 * size := by rcases HSZ.out with h | h | h | h <;> (subst h; unfold wrap64; omega)
    have E8 := η e8
    clear x0 x1 x2 x3 x4 y5 p0 p1 hcm e8
    have x0 := cO (i := 0) (HEZ.out.obj HX.out)
    have x1 := cO (i := 1) (HEZ.out.obj HX.out)
    have x2 := cO (i := 2) (HEZ.out.obj HX.out)
    have x3 := cO (i := 3) (HEZ.out.obj HX.out)
    have x4 := cO (i := 4) (HEZ.out.obj HX.out)
    have y4 := cO (i := 4) (HEZ.out.obj HW.out)
    have y5 := cO (i := 5) (HEZ.out.obj HW.out)
    simp only [gA, gB, gC] at x0 x1 x2 x3 x4 y4 y5
    have HBAD := η (fun (her : er ≠ 0) => (by rw [← HRES.out, RS.load, if_neg (by simpa using HSS.out)]; simp only [Int.toNat_natCast, HAA.out, HLL.out]; rw [if_pos (by simpa using her)] : res = (σ, er)))
    have HGOOD := η (fun (her : er = 0) => (by rw [← HRES.out, RS.load, if_neg (by simpa using HSS.out)]; simp only [Int.toNat_natCast, HAA.out, HLL.out]; rw [if_neg (by simpa using her)] : res = (σ.setR t (if sg then signN n (8 * size) else n), 0)))
    clear HRES
    cases sg
    ·go_wp2_with fail
     by_cases her : er = 0
     ·subst her
      obtain rfl := HGOOD.out rfl
      refine (p_becomes0 ⟨op, t, d, off, imm⟩ n HM3.out t rfl htt).mono ?_
      rintro e w6 ⟨rfl, hM⟩
      go_wp2_with fail
      go_returns
      exact ⟨rfl, hM⟩
     ·obtain rfl := HBAD.out her
      refine (p_becomesE ⟨op, t, d, off, imm⟩ n er her _).mono ?_
      rintro e w6 ⟨rfl, hM⟩
      have HM4 := η (HM3.out.go hM)
      go_wp2_with fail
      go_returns
      exact ⟨rfl, HM4.out⟩
    ·go_wp2_with fail
     rw [E8.out]
     refine (p_Sign n (8 * size) _ (by have := HSZ.out; simp only [wid]; omega) HN.out.1 HN.out.2).mono ?_
     rintro e w5 ⟨rfl, rfl⟩
     go_wp2_with fail
     by_cases her : er = 0
     ·subst her
      obtain rfl := HGOOD.out rfl
      refine (p_becomes0 ⟨op, t, d, off, imm⟩ _ HM3.out t rfl htt).mono ?_
      rintro e w6 ⟨rfl, hM⟩
      go_wp2_with fail
      go_returns
      exact ⟨rfl, hM⟩
     ·obtain rfl := HBAD.out her
      refine (p_becomesE ⟨op, t, d, off, imm⟩ _ er her _).mono ?_
      rintro e w6 ⟨rfl, hM⟩
      have HM4 := η (HM3.out.go hM)
      go_wp2_with fail
      go_returns
      exact ⟨rfl, HM4.out⟩
end
section
variable {F0 Z0 : List Nat} {wf w w' : World} {base mb : Nat} {σ : RS}
def RS.putS (σ : RS) (k : Wh) (A b : Int) : RS × Int :=
 if k.kind = 8 then
  (if (mload σ.V.1 A k.size).2 ≠ 0 then (σ, (mload σ.V.1 A k.size).2)
   else σ.putM A k.size (aluN k.op true 0 (mload σ.V.1 A k.size).1 b))
 else σ.putM A k.size b
theorem store_putS (σ : RS) (x : Ins) (k : Wh) : σ.store x k = if (σ.second x k).2 = false ∨ σ.S x.dst.toNat = false then (σ, 110) else σ.putS k (σ.addr x.dst x) (σ.second x k).1 := rfl
set_option maxHeartbeats 4000000 in
theorem p_store (x : Ins) (k : Wh) (a b A : Int) (h : PRel F0 Z0 wf base w mb σ) (hx : x.Ok) (hk : KindOk x k) (h1 : k.kind = 6 ∨ k.kind = 7 ∨ k.kind = 8) (hb : u64R b) (hA : IntKind.u64.wrap (a + signN (x.off % 65536) 16) = A) :
  Calls Tryz.prog 137 #[.pointer (some ⟨mb, 0, none⟩), x.agg, k.agg, .int .u64 a, .int .u64 b] w (PAns F0 Z0 wf base mb (σ.putS k A b).1 (.int .i64 (σ.putS k A b).2)) := by
 have HWR := η (fun W => (p_where a x W hx).mono (R' := fun e w' => e = .returned (.int .u64 A) ∧ Ext W w') (fun e w' h => ⟨by rw [h.1, ← hA], by rw [h.2]; (repeat (first|exact xE0 _|assumption|refine xE1 ?_ _|refine xE2 ?_|refine xE3 ?_ _|refine xE4 ?_ (by assumption)))⟩))
 have HA : Hid (u64R A) := η (by rw [← hA]; exact wrap_rng _)
 obtain ⟨op, dst, src, off, imm⟩ := x
 obtain ⟨kind, kop, wide, reg, sg, size⟩ := k
 have HM := η h
 have HB := η hb
 have HSZ := η (hk.km (by omega) (by omega))
 have HDO := η hk.k8
 clear hx hk h1 hb h hA
 obtain ⟨res, hres⟩ : ∃ r, RS.putS σ ⟨kind, kop, wide, reg, sg, size⟩ A b = r := ⟨_, rfl⟩
 rw [hres]
 have HRES := η hres
 clear hres
 go_enter Tryz.func137, Tryz.ntmps137
 go_wp2_with fail
 refine (HWR.out _).mono ?_
 rintro e w1 ⟨rfl, he1⟩
 have HE1 : Hid (Ext w w1) := η (by (repeat (first|exact xE0 _|assumption|refine xE1 ?_ _|refine xE2 ?_|refine xE3 ?_ _|refine xE4 ?_ (by assumption))))
 have HW : Hid (w1.heap[w.heap.size + 1]? = some (whObj ⟨kind, kop, wide, reg, sg, size⟩)) := η (he1.obj (obj_top _ _ (by simp)))
 have HM1 := η (HM.out.go HE1.out)
 clear he1 HWR
 have y0 := cO (i := 0) HW.out
 have y1 := cO (i := 1) HW.out
 have y5 := cO (i := 5) HW.out
 simp only [whObj, gA, gB, gC] at y0 y1 y5
 have hlt := HM1.out.lt
 obtain ⟨rb, lv, L, cm, HV, HRF, HST⟩ := HM1.out.mem
 by_cases hk8 : (kind == 8) = true
 ·have hk8' : kind = 8 := by simpa using hk8
  subst hk8'
  obtain ⟨n, er, hL⟩ : ∃ n er, mload σ.V.1 A size = (n, er) := ⟨_, _, rfl⟩
  have HN := η (by have := mload_rng HM1.out.u8 A size; rw [hL] at this; exact this : u64R n)
  have HG := η (show res = if er ≠ 0 then (σ, er) else σ.putM A size (aluN kop true 0 n b) by rw [← HRES.out, RS.putS, if_pos rfl]; simp only [hL])
  have HLD := η (fun W (he : Ext w1 W) => (mem_load rb lv L A size W (HRF.out W he) HA.out.1 (η HA.out.2)).mono (R' := fun e w' => e = .returned (.tuple #[.int .u64 n, .int .i64 er]) ∧ Ext W w') (fun e w' h => by rw [LoadAns, HV.out, hL] at h; exact h))
  clear HRES hL
  go_upto_region 3 with fail
  go_cut [12, 13] from 20 to 31 (fun v10 v11 wy => v10 = .int .u64 n ∧ v11 = .int .i64 er ∧ Hid (Ext w1 wy))
  case first =>
   have cmg := Grow.cell cm
   have y5g := Grow.cell y5
   clear cm y0 y1 y5
   (refine wp_region_grow (by kernel_rfl) (by kernel_rfl) ?_; (repeat (go_big_quiet_step ((go_at_call 128; exact Calls.grow (HLD.out _ (Grow.ext _)))))); refine wpQuiet_nil ?_; rintro wz ⟨nz, hz⟩; have hwq := nz.ext; rw [← hz] at hwq; clear hz)
   go_wp2_with fail
   go_meet
   exact ⟨rfl, rfl, η hwq⟩
  case rest =>
   obtain ⟨rfl, rfl, HE3⟩ := hcut
   have HM2 := η (HM1.out.go HE3.out)
   have HW2 := η (HE3.out.obj HW.out)
   clear cm y0 y1 y5 HV HRF HST HLD rb lv L
   have y1 := cO (i := 1) HW2.out
   simp only [whObj, gA, gB, gC] at y1
   by_cases her : (er != 0) = true
   ·obtain rfl : res = (σ, er) := by rw [HG.out, if_pos (by simpa using her)]
    go_wp2_with fail
    go_returns
    exact ⟨rfl, HM2.out⟩
   ·obtain rfl : er = 0 := by simpa using her
    obtain rfl := HG.out
    clear her HG
    have HDD := η (fun W => p_do kop true 0 n b W (HDO.out (by first | trivial | rfl)) HN.out.1 HN.out.2 HB.out.1 HB.out.2)
    have HRG := η (alu_rng (HDO.out (by first | trivial | rfl)) HN.out HB.out)
    go_wp2_with fail
    refine (HDD.out _).mono ?_
    rintro e w3 ⟨rfl, rfl⟩
    obtain ⟨rb, lv, L, cm, HV, HRF, HST⟩ := HM2.out.mem
    have hlt2 := HM2.out.lt
    have y5 := cO (i := 5) HW2.out
    simp only [whObj, gA, gB, gC] at y5
    go_upto_region 7 with fail
    have cmg := Grow.cell cm
    have y5g := Grow.cell y5
    clear cm y1 y5
    (refine wp_region_ext_tail 8 (by kernel_rfl) (by kernel_rfl) ?_; simp only [List.take_succ_cons, List.take_zero]; (repeat (go_big_quiet_step ((fail)))); refine wpQuiet_nil ?_; rintro wz ⟨nz, hz⟩; have hwq := nz.ext; rw [← hz] at hwq; simp only [List.drop_succ_cons, List.drop_zero]; clear hz)
    go_wp2_with fail
    refine (mem_store rb lv L A size _ wz (HRF.out _ hwq) HA.out.1 (η HA.out.2) HRG.out.1).mono ?_
    intro e w3 hA3
    obtain ⟨rfl, hM3⟩ := HST.out _ _ _ _ _ _ hwq hA3
    go_wp2_with fail
    go_returns
    exact ⟨rfl, hM3⟩
 ·have HG := η (show res = σ.putM A size b by rw [← HRES.out, RS.putS, if_neg (by simpa using hk8)])
  clear HRES
  obtain rfl := HG.out
  go_upto_region 7 with fail
  have cmg := Grow.cell cm
  have y5g := Grow.cell y5
  clear cm y0 y1 y5
  (refine wp_region_ext_tail 8 (by kernel_rfl) (by kernel_rfl) ?_; simp only [List.take_succ_cons, List.take_zero]; (repeat (go_big_quiet_step ((fail)))); refine wpQuiet_nil ?_; rintro wz ⟨nz, hz⟩; have hwq := nz.ext; rw [← hz] at hwq; simp only [List.drop_succ_cons, List.drop_zero]; clear hz)
  go_wp2_with fail
  refine (mem_store rb lv L A size b wz (HRF.out _ hwq) HA.out.1 (η HA.out.2) HB.out.1).mono ?_
  intro e w3 hA3
  obtain ⟨rfl, hM3⟩ := HST.out _ _ _ _ _ _ hwq hA3
  go_wp2_with fail
  go_returns
  exact ⟨rfl, hM3⟩
end
section
variable {F0 Z0 : List Nat} {wf w w' : World} {base mb : Nat} {σ : RS}
def RS.plain (σ : RS) (x : Ins) (k : Wh) : RS × Bool × Int :=
 if bothOk σ x k = false then (σ, false, 110)
 else if k.kind = 1 then (σ.setR x.dst.toNat (aluN k.op k.wide x.off (σ.R x.dst.toNat) (negB k.op (σ.second x k).1)), false, 0)
 else if k.kind = 2 then (σ.setR x.dst.toNat (swapN k.wide (8 * k.size) (σ.R x.dst.toNat)), false, 0)
 else if k.kind = 10 then (σ, condN k.op k.wide (σ.R x.dst.toNat) (σ.second x k).1, 0)
 else ((σ.putS k (σ.addr x.dst x) (σ.second x k).1).1, false, (σ.putS k (σ.addr x.dst x) (σ.second x k).1).2)
def PAns2 (F0 Z0 : List Nat) (wf : World) (base mb : Nat) (r : RS × Bool × Int) (e : Ending) (w' : World) : Prop := e = .returned (.tuple #[.bool r.2.1, .int .i64 r.2.2]) ∧ PRel F0 Z0 wf base w' mb r.1
set_option maxHeartbeats 4000000 in
theorem p_plain (x : Ins) (k : Wh) (h : PRel F0 Z0 wf base w mb σ) (ho : σ.Ok) (hx : x.Ok) (hk : KindOk x k) (h1 : k.kind = 1 ∨ k.kind = 2 ∨ k.kind = 10 ∨ k.kind = 6 ∨ k.kind = 7 ∨ k.kind = 8) :
  Calls Tryz.prog 97 #[.pointer (some ⟨mb, 0, none⟩), x.agg, k.agg] w (PAns2 F0 Z0 wf base mb (σ.plain x k)) := by
 have hdst : 0 ≤ x.dst := hx.dst.1
 obtain ⟨d, hd⟩ : ∃ d : Nat, x.dst = d := ⟨x.dst.toNat, by omega⟩
 have hsrc : 0 ≤ x.src := hx.src.1
 obtain ⟨s, hs⟩ : ∃ d : Nat, x.src = d := ⟨x.src.toNat, by omega⟩
 have hdd : d ≤ 10 := by have := hk.dst; omega
 have hss : s ≤ 10 := by have := hk.src; omega
 have HB := η (fun W (he : PRel F0 Z0 wf base W mb σ) => p_both x k he hx d s hd hdd hs hss)
 have HX := η hx
 have HK := η hk
 have HM := η h
 have HR := η (ho d hdd)
 have HS := η (second_rng ho x k hk.src)
 have HBC := η (fun n W (he : PRel F0 Z0 wf base W mb σ) => p_becomes0 x n he d hd hdd)
 have HST := η (fun b W (he : PRel F0 Z0 wf base W mb σ) (hb : u64R b) (hkk : k.kind = 6 ∨ k.kind = 7 ∨ k.kind = 8) => p_store x k (σ.R d) b (σ.addr x.dst x) he hx hk hkk hb (by rw [hd]; simp [RS.addr]))
 have hP : σ.plain x k = if bothOk σ x k = false then (σ, false, 110)
   else if k.kind = 1 then (σ.setR d (aluN k.op k.wide x.off (σ.R d) (negB k.op (σ.second x k).1)), false, 0)
   else if k.kind = 2 then (σ.setR d (swapN k.wide (8 * k.size) (σ.R d)), false, 0)
   else if k.kind = 10 then (σ, condN k.op k.wide (σ.R d) (σ.second x k).1, 0)
   else ((σ.putS k (σ.addr x.dst x) (σ.second x k).1).1, false, (σ.putS k (σ.addr x.dst x) (σ.second x k).1).2) := by
  rw [RS.plain, hd]; rfl
 obtain ⟨res, hres⟩ : ∃ r, σ.plain x k = r := ⟨_, rfl⟩
 rw [hres] at hP ⊢
 have HRES := η hP
 obtain ⟨b, hb⟩ : ∃ b, (σ.second x k).1 = b := ⟨_, rfl⟩
 obtain ⟨ok, hok⟩ : ∃ b, bothOk σ x k = b := ⟨_, rfl⟩
 obtain ⟨A, hA⟩ : ∃ A, σ.addr x.dst x = A := ⟨_, rfl⟩
 simp only [hb, hok, hA] at HRES HB HS HST
 clear hres hP hb hok hA h ho hx hk hdst hsrc
 obtain ⟨op, dst, src, off, imm⟩ := x
 obtain ⟨kind, kop, wide, reg, sg, size⟩ := k
 simp only at hd hs h1 HRES
 subst hd
 subst hs
 go_enter Tryz.func97, Tryz.ntmps97
 go_wp2_with fail
 refine (HB.out _ (HM.out.go (by (repeat (first|exact xE0 _|assumption|refine xE1 ?_ _|refine xE2 ?_|refine xE3 ?_ _|refine xE4 ?_ (by assumption)))))).mono ?_
 rintro e w1 ⟨rfl, he1⟩
 have HE1 : Hid (Ext w w1) := η (by (repeat (first|exact xE0 _|assumption|refine xE1 ?_ _|refine xE2 ?_|refine xE3 ?_ _|refine xE4 ?_ (by assumption))))
 have HX1 : Hid (w1.heap[w.heap.size]? = some (insObj ⟨op, d, s, off, imm⟩)) := η (he1.obj (obj_old _ (obj_top w _ rfl)))
 have HW1 : Hid (w1.heap[w.heap.size + 1]? = some (whObj ⟨kind, kop, wide, reg, sg, size⟩)) := η (he1.obj (obj_top _ _ (by simp)))
 have HM1 := η (HM.out.go HE1.out)
 have x0 := cO (i := 0) HX1.out
 have x1 := cO (i := 1) HX1.out
 have x2 := cO (i := 2) HX1.out
 have x3 := cO (i := 3) HX1.out
 have x4 := cO (i := 4) HX1.out
 have y0 := cO (i := 0) HW1.out
 have y1 := cO (i := 1) HW1.out
 have y2 := cO (i := 2) HW1.out
 have y3 := cO (i := 3) HW1.out
 have y4 := cO (i := 4) HW1.out
 have y5 := cO (i := 5) HW1.out
 simp only [insObj, whObj, gA, gB, gC] at x0 x1 x2 x3 x4 y0 y1 y2 y3 y4 y5
 clear he1 HB
 cases ok with
 | false =>
  obtain rfl : res = (σ, false, 110) := by rw [HRES.out]; rfl
  go_wp2_with fail
  go_returns
  exact ⟨rfl, HM1.out⟩
 | true =>
  have HRS := η (show res = if kind = 1 then (σ.setR d (aluN kop wide off (σ.R d) (negB kop b)), false, 0)
   else if kind = 2 then (σ.setR d (swapN wide (8 * size) (σ.R d)), false, 0)
   else if kind = 10 then (σ, condN kop wide (σ.R d) b, 0)
   else ((σ.putS ⟨kind, kop, wide, reg, sg, size⟩ A b).1, false, (σ.putS ⟨kind, kop, wide, reg, sg, size⟩ A b).2) from by have := HRES.out; rw [if_neg (by simp)] at this; exact this)
  clear HRES
  rcases h1 with rfl | rfl | rfl | h6
  ·obtain rfl : res = (σ.setR d (aluN kop wide off (σ.R d) (negB kop b)), false, 0) := by rw [HRS.out, if_pos rfl]
   clear HRS
   have HDO := η (HK.out.k1 rfl)
   cases hneg : (kop == 128)
   all_goals
    have hn2 : negB kop b = if (kop == 128) = true then 0 else b := by simp [negB]
    rw [hneg] at hn2
    simp only [if_true, Bool.false_eq_true, if_false] at hn2
    have HN2 := η hn2
    clear hn2
    go_wp2_with fail
    refine (p_do kop wide off (σ.R d) _ _ HDO.out HR.out.1 HR.out.2 (by first | exact HS.out.1 | decide) (by first | exact HS.out.2 | decide)).mono ?_
    rintro e w3 ⟨rfl, rfl⟩
    go_wp2_with fail
    refine (HBC.out _ _ HM1.out).mono ?_
    rintro e w3 ⟨rfl, hM⟩
    rw [← HN2.out] at hM
    have HM3 := η hM
    clear hM
    go_wp2_with fail
    go_returns
    exact ⟨rfl, HM3.out⟩
  ·obtain rfl : res = (σ.setR d (swapN wide (8 * size) (σ.R d)), false, 0) := by rw [HRS.out, if_neg (by decide), if_pos rfl]
   clear HRS
   have hsz := HK.out.k2 rfl
   have e8 : wrap64 (8 * size) = 8 * size := by unfold wrap64; simp only at hsz; omega
   have E8 := η e8
   have h16 : 8 * size = 16 ∨ 8 * size = 32 ∨ 8 * size = 64 := by simp only at hsz; omega
   have H16 := η h16
   clear hsz e8 h16
   go_wp2_with fail
   rw [E8.out]
   refine (p_swap wide (8 * size) (σ.R d) _ H16.out HR.out.1 HR.out.2).mono ?_
   rintro e w3 ⟨rfl, hE3⟩
   have HM2 := η (HM1.out.go hE3)
   have x0 := hE3.cellOf x0
   have x1 := hE3.cellOf x1
   have x2 := hE3.cellOf x2
   have x3 := hE3.cellOf x3
   have x4 := hE3.cellOf x4
   clear hE3
   go_wp2_with fail
   refine (HBC.out _ _ HM2.out).mono ?_
   rintro e w4 ⟨rfl, hM⟩
   have HM3 := η hM
   clear hM
   go_wp2_with fail
   go_returns
   exact ⟨rfl, HM3.out⟩
  ·obtain rfl : res = (σ, condN kop wide (σ.R d) b, 0) := by rw [HRS.out, if_neg (by decide), if_neg (by decide), if_pos rfl]
   clear HRS
   have HC := η (HK.out.k10 rfl)
   go_wp2_with fail
   refine (p_is kop wide (σ.R d) b _ HC.out HR.out.1 HR.out.2 HS.out.1 HS.out.2).mono ?_
   rintro e w3 ⟨rfl, hE3⟩
   have HM2 := η (HM1.out.go hE3)
   clear hE3
   go_wp2_with fail
   go_returns
   exact ⟨rfl, HM2.out⟩
  ·have n1 : kind ≠ 1 := by omega
   have n2 : kind ≠ 2 := by omega
   have n3 : kind ≠ 10 := by omega
   have HSS := η (fun W (he : PRel F0 Z0 wf base W mb σ) => HST.out b W he HS.out h6)
   obtain rfl : res = ((σ.putS ⟨kind, kop, wide, reg, sg, size⟩ A b).1, false, (σ.putS ⟨kind, kop, wide, reg, sg, size⟩ A b).2) := by rw [HRS.out, if_neg n1, if_neg n2, if_neg n3]
   clear HRS HST h6
   have b1 : (kind == 1) = false := by simpa using n1
   have b2 : (kind == 2) = false := by simpa using n2
   have b3 : (kind == 10) = false := by simpa using n3
   clear n1 n2 n3
   go_wp2_with fail
   refine (HSS.out _ HM1.out).mono ?_
   rintro e w3 ⟨rfl, hM⟩
   have HM3 := η hM
   clear hM
   go_wp2_with fail
   go_returns
   exact ⟨rfl, HM3.out⟩
end
section
variable {F0 Z0 : List Nat} {wf w w' : World} {base mb : Nat} {σ : RS}
theorem p_At (h : PRel F0 Z0 wf base w mb σ) : Calls Tryz.prog 31 #[.pointer (some ⟨mb, 0, none⟩)] w fun e w' => e = .returned (.int .i64 σ.place) ∧ Ext w w' := by
 obtain ⟨h0, hl, l, g1, g2, g3⟩ := h
 have hd := g1.cell 27 rfl
 have hlt := heap_lt g1.head
 clear h0 hl g1 g2 g3
 go_enter Tryz.func31, Tryz.ntmps31
 go_wp2_with fail
 go_returns
 exact ⟨rfl, by (repeat (first|exact xE0 _|assumption|refine xE1 ?_ _|refine xE2 ?_|refine xE3 ?_ _|refine xE4 ?_ (by assumption)))⟩
theorem p_Over (h : PRel F0 Z0 wf base w mb σ) : Calls Tryz.prog 26 #[.pointer (some ⟨mb, 0, none⟩)] w fun e w' => e = .returned (.bool σ.over) ∧ Ext w w' := by
 obtain ⟨h0, hl, l, g1, g2, g3⟩ := h
 have hd := g1.cell 28 rfl
 have hlt := heap_lt g1.head
 clear h0 hl g1 g2 g3
 go_enter Tryz.func26, Tryz.ntmps26
 go_wp2_with fail
 go_returns
 exact ⟨rfl, by (repeat (first|exact xE0 _|assumption|refine xE1 ?_ _|refine xE2 ?_|refine xE3 ?_ _|refine xE4 ?_ (by assumption)))⟩
set_option maxHeartbeats 1000000 in
theorem p_Reg (h : PRel F0 Z0 wf base w mb σ) (d : Nat) (hd : d ≤ 10) : Calls Tryz.prog 28 #[.pointer (some ⟨mb, 0, none⟩), .int .i64 d] w fun e w' => e = .returned (.tuple #[.int .u64 (σ.R d), .bool (σ.S d)]) ∧ Ext w w' := by
 obtain ⟨h0, hl, l, g1, g2, g3⟩ := h
 have c1 := g1.cell _ (pcell_R σ l hd)
 have c2 := g1.cell _ (pcell_S σ l hd)
 rw [show 1 + 2 * d = 1 + d * 2 by omega] at c1
 rw [show 2 + 2 * d = 1 + d * 2 + 1 by omega] at c2
 have hlt := heap_lt g1.head
 have hd1 : (d : Int) ≤ 10 := by omega
 have hd2 : 0 ≤ (d : Int) := by omega
 have hd3 : (d : Int) < 11 := by omega
 clear h0 hl g1 g2 g3
 go_enter Tryz.func28, Tryz.ntmps28
 go_wp2_with fail
 go_quiet (fail)
 go_wp2_with fail
 go_returns
 exact ⟨rfl, by (repeat (first|exact xE0 _|assumption|refine xE1 ?_ _|refine xE2 ?_|refine xE3 ?_ _|refine xE4 ?_ (by assumption)))⟩
theorem or_long (a b : Int) (h0 : 0 ≤ a) (h1 : a < 4294967296) (k0 : 0 ≤ b) (k1 : b < 4294967296) : bits .or .u64 a (b * 4294967296) = a + 4294967296 * b := by
 obtain ⟨m, rfl⟩ := Int.eq_ofNat_of_zero_le h0
 obtain ⟨n, rfl⟩ := Int.eq_ofNat_of_zero_le k0
 have e : (n : Int) * 4294967296 = ((2 ^ 32 * n : Nat) : Int) := by omega
 have hm : m < 2 ^ 32 := by omega
 rw [e, bits_or_u64_nat m (2 ^ 32 * n) (by omega) (by omega), Nat.or_comm, ← Nat.two_pow_add_eq_or_of_lt hm n]
 omega
theorem p_Long (x y : Ins) (w : World) (hx : x.Ok) (hy : y.Ok) : Calls Tryz.prog 94 #[x.agg, y.agg] w fun e w' => e = .returned (.int .u64 (longN x y)) ∧ Ext w w' := by
 have HL := η (or_long (x.imm % 4294967296) (y.imm % 4294967296) (by omega) (by omega) (by omega) (by omega))
 go_enter Tryz.func94, Tryz.ntmps94
 go_wp2_with fail
 go_returns
 refine ⟨?_, by (repeat (first|exact xE0 _|assumption|refine xE1 ?_ _|refine xE2 ?_|refine xE3 ?_ _|refine xE4 ?_ (by assumption)))⟩
 rw [HL.out]
 rfl
end
section
variable {F0 Z0 : List Nat} {wf w w' : World} {base mb : Nat} {σ : RS}
theorem PRel.over (h : PRel F0 Z0 wf base w mb σ) (b : Bool) : PRel F0 Z0 wf base (w.setCell ⟨mb, 28, none⟩ (.bool b)) mb { σ with over := b } := h.cell1 28 _ (fun l => rfl)
set_option maxHeartbeats 2000000 in
theorem p_does5 (x : Ins) (k : Wh) (h : PRel F0 Z0 wf base w mb σ) (hx : x.Ok) (hk : KindOk x k) (h1 : k.kind = 5) :
  Calls Tryz.prog 57 #[.pointer (some ⟨mb, 0, none⟩), x.agg, k.agg] w (PAns2 F0 Z0 wf base mb ((σ.load x k).1, false, (σ.load x k).2)) := by
 have HL := η (fun W (he : Ext w W) => p_load x k (h.go he) hx hk h1)
 obtain ⟨res, hres⟩ : ∃ r, RS.load σ x k = r := ⟨_, rfl⟩
 rw [hres] at HL ⊢
 obtain ⟨op, dst, src, off, imm⟩ := x
 obtain ⟨kind, kop, wide, reg, sg, size⟩ := k
 simp only at h1
 subst h1
 clear hres h hx hk
 go_enter Tryz.func57, Tryz.ntmps57
 go_wp2_with fail
 refine (HL.out _ (by (repeat (first|exact xE0 _|assumption|refine xE1 ?_ _|refine xE2 ?_|refine xE3 ?_ _|refine xE4 ?_ (by assumption))))).mono ?_
 rintro e w1 ⟨rfl, hM⟩
 have HM := η hM
 clear hM
 go_wp2_with fail
 go_returns
 exact ⟨rfl, HM.out⟩
theorem p_does9 (x : Ins) (k : Wh) (h : PRel F0 Z0 wf base w mb σ) (h1 : k.kind = 9) :
  Calls Tryz.prog 57 #[.pointer (some ⟨mb, 0, none⟩), x.agg, k.agg] w (PAns2 F0 Z0 wf base mb (σ, true, 0)) := by
 have HM := η h
 obtain ⟨kind, kop, wide, reg, sg, size⟩ := k
 simp only at h1
 subst h1
 clear h
 go_enter Tryz.func57, Tryz.ntmps57
 go_wp2_with fail
 go_returns
 exact ⟨rfl, HM.out.go (by (repeat (first|exact xE0 _|assumption|refine xE1 ?_ _|refine xE2 ?_|refine xE3 ?_ _|refine xE4 ?_ (by assumption))))⟩
theorem p_does12 (x : Ins) (k : Wh) (h : PRel F0 Z0 wf base w mb σ) (h1 : k.kind = 12) :
  Calls Tryz.prog 57 #[.pointer (some ⟨mb, 0, none⟩), x.agg, k.agg] w (PAns2 F0 Z0 wf base mb (if σ.S 0 = false then (σ, false, 110) else ({ σ with over := true }, false, 0))) := by
 have HM := η h
 obtain ⟨kind, kop, wide, reg, sg, size⟩ := k
 simp only at h1
 subst h1
 obtain ⟨h0, hl, l, g1, g2, g3⟩ := h
 have c2 := g1.cell 2 rfl
 have c28 := g1.cell 28 rfl
 have mf := fun i => frozen_obj (i := i) g1.head
 have hlt := heap_lt g1.head
 clear h0 hl g1 g2 g3
 cases hs : σ.S 0 with
 | false =>
  rw [hs] at c2
  simp only [if_true]
  go_enter Tryz.func57, Tryz.ntmps57
  go_wp2_with fail
  go_returns
  exact ⟨rfl, HM.out.go (by (repeat (first|exact xE0 _|assumption|refine xE1 ?_ _|refine xE2 ?_|refine xE3 ?_ _|refine xE4 ?_ (by assumption))))⟩
 | true =>
  rw [hs] at c2
  simp only [Bool.true_eq_false, if_false]
  have HO := η (fun W (he : Ext w W) => (HM.out.go he).over true)
  go_enter Tryz.func57, Tryz.ntmps57
  go_wp2_with fail
  go_returns
  refine ⟨rfl, ?_⟩
  first
  | exact (HM.out.over true).go (by (repeat (first|exact xE0 _|assumption|refine xE1 ?_ _|refine xE2 ?_|refine xE3 ?_ _|refine xE4 ?_ (by assumption))))
  | exact (HO.out _ (by (repeat (first|exact xE0 _|assumption|refine xE1 ?_ _|refine xE2 ?_|refine xE3 ?_ _|refine xE4 ?_ (by assumption))))).go (by (repeat (first|exact xE0 _|assumption|refine xE1 ?_ _|refine xE2 ?_|refine xE3 ?_ _|refine xE4 ?_ (by assumption))))
set_option maxHeartbeats 2000000 in
theorem p_doesP (x : Ins) (k : Wh) (h : PRel F0 Z0 wf base w mb σ) (ho : σ.Ok) (hx : x.Ok) (hk : KindOk x k) (h1 : k.kind = 1 ∨ k.kind = 2 ∨ k.kind = 10 ∨ k.kind = 6 ∨ k.kind = 7 ∨ k.kind = 8) :
  Calls Tryz.prog 57 #[.pointer (some ⟨mb, 0, none⟩), x.agg, k.agg] w (PAns2 F0 Z0 wf base mb (σ.plain x k)) := by
 have HL := η (fun W (he : Ext w W) => p_plain x k (h.go he) ho hx hk h1)
 obtain ⟨res, hres⟩ : ∃ r, RS.plain σ x k = r := ⟨_, rfl⟩
 rw [hres] at HL ⊢
 obtain ⟨op, dst, src, off, imm⟩ := x
 obtain ⟨kind, kop, wide, reg, sg, size⟩ := k
 simp only at h1
 have b1 : (kind == 3) = false := by rcases h1 with h | h | h | h | h | h <;> subst h <;> rfl
 have b2 : (kind == 4) = false := by rcases h1 with h | h | h | h | h | h <;> subst h <;> rfl
 have b3 : (kind == 5) = false := by rcases h1 with h | h | h | h | h | h <;> subst h <;> rfl
 have b4 : (kind == 9) = false := by rcases h1 with h | h | h | h | h | h <;> subst h <;> rfl
 have b5 : (kind == 11) = false := by rcases h1 with h | h | h | h | h | h <;> subst h <;> rfl
 have b6 : (kind == 12) = false := by rcases h1 with h | h | h | h | h | h <;> subst h <;> rfl
 clear hres h hx hk h1 ho
 go_enter Tryz.func57, Tryz.ntmps57
 go_wp2_with fail
 refine (HL.out _ (by (repeat (first|exact xE0 _|assumption|refine xE1 ?_ _|refine xE2 ?_|refine xE3 ?_ _|refine xE4 ?_ (by assumption))))).mono ?_
 rintro e w1 ⟨rfl, hM⟩
 have HM := η hM
 clear hM
 go_wp2_with fail
 go_returns
 exact ⟨rfl, HM.out⟩
end
end Go.Proofs.YtppefchjoodgnaaGreat
