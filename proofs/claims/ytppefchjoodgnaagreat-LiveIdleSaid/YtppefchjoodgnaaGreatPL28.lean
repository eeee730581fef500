/- What the claim leans on: SortI · GrA · GrB · GrC · GrP. -/
import Derived.Shelf.Sort.Plain
import Derived.Shelf.Slices.In.SortNone
import Derived.Shelf.Slices.CompactI
import Derived.Test.YtppefchjoodgnaaGreatProg
import Derived.Test.YtppefchjoodgnaaGreatPL15
import Derived.Lib.OwnBridge
import Derived.Sort.OwnSorted
import Derived.Test.YtppefchjoodgnaaGreatPL27
namespace Go.Proofs
open Go.Shelf
def Tryz.lays189_ren : Go.Shelf.Ren := ⟨fun | 189 => 152 | 125 => 127 | 257 => 187 | 128 => 168 | 129 => 169 | 294 => 203 | 295 => 204 | 296 => 205 | 297 => 206 | 298 => 207 | 299 => 208 | 216 => 209 | 300 => 210 | 301 => 211 | 328 => 214 | 329 => 190 | 330 => 191 | 331 => 215 | 332 => 216 | 215 => 217 | 343 => 218 | n => n, fun | 28 => 135 | 3 => 3 | 46 => 115 | 0 => 0 | 51 => 190 | 53 => 29 | 4 => 4 | 183 => 218 | 182 => 217 | 131 => 96 | 5 => 5 | 9 => 9 | 218 => 241 | 222 => 245 | 228 => 261 | 229 => 207 | n => n, fun | n => n⟩
theorem Tryz.lays189 : Go.Proofs.Lays.n189 Tryz.prog Tryz.lays189_ren := {
 mixed := by kernel_rfl
 f125 := Tryz.func127.trans (congrArg some (by kernel_rfl))
 f128 := Tryz.func168.trans (congrArg some (by kernel_rfl))
 f129 := Tryz.func169.trans (congrArg some (by kernel_rfl))
 f189 := Tryz.func152.trans (congrArg some (by kernel_rfl))
 f215 := Tryz.func217.trans (congrArg some (by kernel_rfl))
 f216 := Tryz.func209.trans (congrArg some (by kernel_rfl))
 f257 := Tryz.func187.trans (congrArg some (by kernel_rfl))
 f294 := Tryz.func203.trans (congrArg some (by kernel_rfl))
 f295 := Tryz.func204.trans (congrArg some (by kernel_rfl))
 f296 := Tryz.func205.trans (congrArg some (by kernel_rfl))
 f297 := Tryz.func206.trans (congrArg some (by kernel_rfl))
 f298 := Tryz.func207.trans (congrArg some (by kernel_rfl))
 f299 := Tryz.func208.trans (congrArg some (by kernel_rfl))
 f300 := Tryz.func210.trans (congrArg some (by kernel_rfl))
 f301 := Tryz.func211.trans (congrArg some (by kernel_rfl))
 f328 := Tryz.func214.trans (congrArg some (by kernel_rfl))
 f329 := Tryz.func190.trans (congrArg some (by kernel_rfl))
 f330 := Tryz.func191.trans (congrArg some (by kernel_rfl))
 f331 := Tryz.func215.trans (congrArg some (by kernel_rfl))
 f332 := Tryz.func216.trans (congrArg some (by kernel_rfl))
 f343 := Tryz.func218.trans (congrArg some (by kernel_rfl))
 t0 := Tryz.underlying0
 a0 := Tryz.isAgg0
 z0 := Tryz.sizeOf0
 v0 := Tryz.zeroValue0
 t3 := Tryz.underlying3
 a3 := Tryz.isAgg3
 z3 := Tryz.sizeOf3
 v3 := Tryz.zeroValue3
 t4 := Tryz.underlying4
 a4 := Tryz.isAgg4
 z4 := Tryz.sizeOf4
 v4 := Tryz.zeroValue4
 t5 := Tryz.underlying5
 a5 := Tryz.isAgg5
 z5 := Tryz.sizeOf5
 v5 := Tryz.zeroValue5
 t9 := Tryz.underlying9
 a9 := Tryz.isAgg9
 z9 := Tryz.sizeOf9
 v9 := Tryz.zeroValue9
 t28 := Tryz.underlying135
 a28 := Tryz.isAgg135
 z28 := Tryz.sizeOf135
 v28 := Tryz.zeroValue135
 t46 := Tryz.underlying115
 a46 := Tryz.isAgg115
 z46 := Tryz.sizeOf115
 v46 := Tryz.zeroValue115
 t51 := Tryz.underlying190
 a51 := Tryz.isAgg190
 z51 := Tryz.sizeOf190
 v51 := Tryz.zeroValue190
 t53 := Tryz.underlying29
 a53 := Tryz.isAgg29
 z53 := Tryz.sizeOf29
 v53 := Tryz.zeroValue29
 t131 := Tryz.underlying96
 a131 := Tryz.isAgg96
 z131 := Tryz.sizeOf96
 v131 := Tryz.zeroValue96
 t182 := Tryz.underlying217
 a182 := Tryz.isAgg217
 z182 := Tryz.sizeOf217
 v182 := Tryz.zeroValue217
 t183 := Tryz.underlying218
 a183 := Tryz.isAgg218
 z183 := Tryz.sizeOf218
 v183 := Tryz.zeroValue218
 t218 := Tryz.underlying241
 a218 := Tryz.isAgg241
 z218 := Tryz.sizeOf241
 v218 := Tryz.zeroValue241
 t222 := Tryz.underlying245
 a222 := Tryz.isAgg245
 z222 := Tryz.sizeOf245
 v222 := Tryz.zeroValue245
 t228 := Tryz.underlying261
 a228 := Tryz.isAgg261
 z228 := Tryz.sizeOf261
 v228 := Tryz.zeroValue261
 t229 := Tryz.underlying207
 a229 := Tryz.isAgg207
 z229 := Tryz.sizeOf207
 v229 := Tryz.zeroValue207 }
open Go.Sort Go.RowKit in
theorem Tryz.slices_Sort_int (blk off cap : Nat) (zs : List Int) (w : World) (hH : Holds (Value.int .i64) w blk off zs.toArray) (hblk : blk < w.heap.size) (hsz : zs.length < 4611686018427387904) :
  Calls Tryz.prog 152 #[.slice (some ⟨blk, off, none⟩) zs.length cap] w fun e w' =>
   e = .returned (.tuple #[]) ∧ ∃ n os, w' = grow (putRow (Value.int .i64) (Sort.ahead w n) blk off (zs.mergeSort fun x y => decide (x ≤ y)).toArray) os := Any.slices_Sort_int Tryz.lays189 blk off cap zs w hH hblk hsz
def Tryz.laysNm220_ren : Go.Shelf.Ren := ⟨fun | 20 => 153 | n => n, fun | 22 => 135 | 3 => 3 | 4 => 4 | 0 => 0 | n => n, fun | n => n⟩
theorem Tryz.laysNm220 : Go.Proofs.Lays2.n20 Tryz.prog Tryz.laysNm220_ren := {
 mixed := by kernel_rfl
 f20 := Tryz.func153.trans (congrArg some (by kernel_rfl))
 t0 := Tryz.underlying0
 a0 := Tryz.isAgg0
 z0 := Tryz.sizeOf0
 v0 := Tryz.zeroValue0
 t3 := Tryz.underlying3
 a3 := Tryz.isAgg3
 z3 := Tryz.sizeOf3
 v3 := Tryz.zeroValue3
 t4 := Tryz.underlying4
 a4 := Tryz.isAgg4
 z4 := Tryz.sizeOf4
 v4 := Tryz.zeroValue4
 t22 := Tryz.underlying135
 a22 := Tryz.isAgg135
 z22 := Tryz.sizeOf135
 v22 := Tryz.zeroValue135
 i3 := by kernel_rfl }
open Go.RowKit Go.Lib Go.Sort in
theorem Tryz.slices_Compact_int (blk off cap : Nat) (zs : List Int) (w : World) (hH : Holds (Value.int .i64) w blk off zs.toArray) (hsz : zs.length ≤ 9223372036854775807) (hcap : zs.length ≤ cap) :
  Calls Tryz.prog 153 #[.slice (some ⟨blk, off, none⟩) zs.length cap] w fun e w' => e = .returned (.slice (some ⟨blk, off, none⟩) (Lib.compact zs).length cap) ∧ ∃ q, w' = putRow (Value.int .i64) (Sort.ahead w q) blk off (Lib.compact zs ++ List.replicate (zs.length - (Lib.compact zs).length) 0).toArray := Any.slices_Compact_int Tryz.laysNm220 blk off cap zs w hH hsz hcap
open Go.RowKit Go.Lib Go.Sort in
theorem Tryz.slices_Compact_int_empty (a : Option Addr) (cap : Nat) (w : World) :
  Calls Tryz.prog 153 #[.slice a 0 cap] w fun e w' => e = .returned (.slice a 0 cap) ∧ w' = w := Any.slices_Compact_int_empty Tryz.laysNm220 a cap w
open Go.RowKit Go.Sort in
theorem Tryz.slices_Sort_int_none (p : Option Addr) (cap : Nat) (w : World) :
  Calls Tryz.prog 152 #[.slice p 0 cap] w fun e w' => e = .returned (.tuple #[]) ∧ w' = w := Any.slices_Sort_int_none Tryz.lays189 p cap w
end Go.Proofs
namespace Go.Proofs.YtppefchjoodgnaaGreat
open Go.RowKit
set_option linter.unusedVariables false
set_option linter.unusedSimpArgs false
abbrev encI : Int → List Value := fun x => [Value.int .i64 x]
section
open Go.Sort
theorem ext_grow (W : World) (os : Array Obj) : Ext W (grow W os) := ⟨rfl, rfl, rfl, by simp [grow], fun k hk => heap_grow_old _ _ hk⟩
theorem own_sort {w : World} {base : Nat} {a : Option Addr} {n c : Nat} {zs : List Int} (h : Own w base 3 1 encI (.slice a n c) zs) (hb : base ≤ w.heap.size) (hz : zs.length ≤ 1000000) :
  Calls Tryz.prog 152 #[.slice a n c] w fun e w' => e = .returned (.tuple #[]) ∧ Own w' base 3 1 encI (.slice a n c) (zs.mergeSort fun x y => decide (x ≤ y)) ∧ ∀ B W, Below B W w → B ≤ base → Below B W w' := by
 rcases h.2 with ⟨e0, h0⟩ | ⟨g, cap, cur, e0, hg, hgb, hn, hm, hs, ht⟩
 ·injection e0 with e1 e2 e3
  subst e1; subst e2; subst e3
  have : zs = [] := by simpa using h0
  subst this
  refine (Tryz.slices_Sort_int_none none 0 w).mono ?_
  rintro e w' ⟨rfl, rfl⟩
  exact ⟨rfl, by simpa using h, fun _ _ hB _ => hB⟩
 ·injection e0 with e1 e2 e3
  subst e1; subst e2; subst e3
  have hO : w.ownsRow base 3 1 (.slice (some ⟨g, 0, none⟩) zs.length c) zs.length (zs.map (Value.int .i64)) := by rw [← flat1]; exact h
  obtain ⟨g', cap', e1, hbg, hgl, hncap, hcm, hlen, hH⟩ := Lib.holds_of_ownsRow hO (by simp)
  injection e1 with e1 e2 e3
  injection e1 with e1
  injection e1 with e1
  subst e1; subst e3
  refine (Tryz.slices_Sort_int g 0 c zs w hH hgl (by omega)).mono ?_
  rintro e w' ⟨rfl, q, os, rfl⟩
  have h1 := Lib.ownsRow_putRow (q := q) (k := zs.length) (ys := zs.mergeSort fun x y => decide (x ≤ y)) hO (List.length_mergeSort zs) (Nat.le_refl _)
  rw [List.take_of_length_le (by rw [List.length_mergeSort]; exact Nat.le_refl _)] at h1
  have h2 : Own (putRow (Value.int .i64) (Sort.ahead w q) g 0 (zs.mergeSort fun x y => decide (x ≤ y)).toArray) base 3 1 encI (.slice (some ⟨g, 0, none⟩) zs.length c) (zs.mergeSort fun x y => decide (x ≤ y)) := by
   show World.ownsRow _ _ _ _ _ _ _
   rw [flat1, List.length_mergeSort]
   exact h1
  exact ⟨rfl, h2.ext (ext_grow _ _), fun B W hB hle => Below.trans (Lib.below_putRow hB (by omega)) (Below.mono (ext_grow _ _) (by have := hB.size; simp [putRow, mapBlock, Sort.ahead]; omega))⟩
theorem own_compact {w : World} {base : Nat} {a : Option Addr} {n c : Nat} {zs : List Int} (h : Own w base 3 1 encI (.slice a n c) zs) (hb : base ≤ w.heap.size) (hz : zs.length ≤ 1000000) :
  Calls Tryz.prog 153 #[.slice a n c] w fun e w' => ∃ v, e = .returned v ∧ Own w' base 3 1 encI v (Lib.compact zs) ∧ ∀ B W, Below B W w → B ≤ base → Below B W w' := by
 rcases h.2 with ⟨e0, h0⟩ | ⟨g, cap, cur, e0, hg, hgb, hn, hm, hs, ht⟩
 ·injection e0 with e1 e2 e3
  subst e1; subst e2; subst e3
  have : zs = [] := by simpa using h0
  subst this
  refine (Tryz.slices_Compact_int_empty none 0 w).mono ?_
  rintro e w' ⟨rfl, rfl⟩
  exact ⟨_, rfl, h, fun _ _ hB _ => hB⟩
 ·injection e0 with e1 e2 e3
  subst e1; subst e2; subst e3
  have hO : w.ownsRow base 3 1 (.slice (some ⟨g, 0, none⟩) zs.length c) zs.length (zs.map (Value.int .i64)) := by rw [← flat1]; exact h
  obtain ⟨g', cap', e1, hbg, hgl, hncap, hcm, hlen, hH⟩ := Lib.holds_of_ownsRow hO (by simp)
  injection e1 with e1 e2 e3
  injection e1 with e1
  injection e1 with e1
  subst e1; subst e3
  refine (Tryz.slices_Compact_int g 0 c zs w hH (by omega) hncap).mono ?_
  rintro e w' ⟨rfl, q, rfl⟩
  have hle := Lib.compact_length_le zs
  have h1 := Lib.ownsRow_putRow (q := q) (k := (Lib.compact zs).length) (ys := Lib.compact zs ++ List.replicate (zs.length - (Lib.compact zs).length) 0) hO (by simp; omega) hle
  rw [List.take_left] at h1
  refine ⟨_, rfl, ?_, fun B W hB hle => Lib.below_putRow hB (by omega)⟩
  show World.ownsRow _ _ _ _ _ _ _
  rw [flat1]
  exact h1
end
def rawA (L : List Ins) (x : Ins) (k : Nat) : List Int := (if (whatZ x).kind ≠ 12 ∧ (whatZ x).kind ≠ 9 then [((nextI x k : Nat) : Int)] else []) ++ (targetS L x k).toList
def aheadL (L : List Ins) (x : Ins) (k : Nat) : List Int := Lib.compact ((rawA L x k).mergeSort fun x y => decide (x ≤ y))
def beginsS (L : List Ins) (i : Int) : Bool := progS L && (decide (0 ≤ i) && (decide (i < L.length) && ((stF false L)[i.toNat]? == some true)))
def OwnA (xs : List Int) (w : World) (e : Ending) (w' : World) : Prop := ∃ v, e = .returned v ∧ Own w' w.heap.size 3 1 encI v xs ∧ Ext w w'
theorem p_right (v : Value) (L : List Ins) (w : World) (h : Rd w 5 Ins.enc v L) (hl : L.length ≤ 1000000) (hok : InsOk L) : Calls Tryz.prog 151 #[v] w fun e w' => e = .returned (.bool (progS L)) ∧ Ext w w' := by
 have HD := η h
 have HOK := η hok
 have HL := η hl
 clear h hok hl
 go_enter Tryz.func151, Tryz.ntmps151
 go_wp2_with fail
 refine (p_Check _ L _ HD.out HL.out HOK.out).mono ?_
 rintro e w5 ⟨i, er, rfl, hp, hE⟩
 have HP := η hp
 have HE := η hE
 clear hp hE
 go_wp2_with fail
 go_returns
 refine ⟨?_, HE.out⟩
 rw [← HP.out]
 first | rfl | (simp; rfl) | simp
set_option maxRecDepth 20000 in
set_option maxHeartbeats 1000000 in
theorem p_begins (v : Value) (L : List Ins) (i : Int) (w : World) (h : Rd w 5 Ins.enc v L) (hl : L.length ≤ 1000000) (hok : InsOk L) : Calls Tryz.prog 110 #[v, .int .i64 i] w fun e w' => e = .returned (.bool (beginsS L i)) ∧ Ext w w' := by
 obtain ⟨a, n, c, rfl, hn, hN⟩ := h.val
 have HD := η h
 have HOK := η hok
 have HL := η hl
 obtain ⟨R, hR⟩ : ∃ R, R = beginsS L i := ⟨_, rfl⟩
 rw [← hR]
 unfold beginsS at hR
 obtain ⟨p, hp⟩ : ∃ p, progS L = p := ⟨_, rfl⟩
 rw [hp, ← hN.out] at hR
 have HR := η hR
 have HP := η hp
 clear h hok hl hR hp
 go_enter Tryz.func110, Tryz.ntmps110
 go_wp2_with fail
 refine (p_right _ L _ HD.out HL.out HOK.out).mono ?_
 rw [HP.out]
 rintro e w5 ⟨rfl, hE⟩
 have HE := η hE
 clear hE
 cases p with
 | false =>
  go_wp2_with fail
  go_returns
  exact ⟨by rw [HR.out]; rfl, HE.out⟩
 | true =>
  by_cases h0 : 0 ≤ i
  ·by_cases h1 : i < n
   ·go_wp2_with fail
    refine (p_Starts _ L _ (HD.out.ext HE.out) HL.out).mono ?_
    rintro e w6 ⟨s, rfl, hO, hE6⟩
    have hRd := hO.rd enc_bool
    obtain ⟨sa, sn, sc, rfl, hsn, hSN⟩ := hRd.val
    obtain rfl : sn = n := by rw [hSN.out, stF_length, hN.out]
    obtain ⟨b, hb⟩ := at_of_lt (xs := stF false L) (k := i.toNat) (by have := hSN.out; omega)
    have ix := fun W => hRd.run_at (P := Tryz.prog) el_bool.under el_bool.size .i64 i (by omega) (by omega) W
    have cb := hRd.cell hb (j := 0) rfl
    simp only [Nat.mul_one, Nat.add_zero] at ix cb
    have HB := η hb
    have HE6 := η hE6
    clear hb hE6 hO hRd
    go_wp2_with fail
    go_returns
    exact ⟨by rw [HR.out, HB.out, decide_eq_true h0, decide_eq_true h1]; cases b <;> rfl, HE.out.trans' HE6.out⟩
   ·go_wp2_with fail
    go_returns
    exact ⟨by rw [HR.out, decide_eq_false (by omega : ¬ i < (n : Int))]; simp, HE.out⟩
  ·go_wp2_with fail
   go_returns
   exact ⟨by rw [HR.out, decide_eq_false (by omega : ¬ 0 ≤ i)]; simp, HE.out⟩
def appV (b : Bool) (y : Int) : List Int := if b then [y] else []
theorem rd_one (w : World) (y : Int) : Rd (w.alloc (.cells #[.int .i64 y] 3)) 1 encI (.slice (some ⟨w.heap.size, 0, none⟩) 1 1) [y] :=
 (Own.lit (enc_int .i64) (base := 0) (w := w) [y] rfl rfl (Nat.zero_le _) (by simp [maxLen])).rd (enc_int _)
set_option maxRecDepth 20000 in
set_option maxHeartbeats 4000000 in
theorem p_ahead (v : Value) (L : List Ins) (k : Nat) (x : Ins) (w : World) (h : Rd w 5 Ins.enc v L) (hl : L.length ≤ 1000000) (hx : L[k]? = some x) (hok : x.Ok) : Calls Tryz.prog 111 #[v, .int .i64 k] w (OwnA (aheadL L x k) w) := by
 obtain ⟨a, n, c, rfl, hn, hN⟩ := h.val
 have hk : k < n := by rw [hN.out]; exact (List.getElem?_eq_some_iff.1 hx).1
 have hk2 : n ≤ 1000000 := by rw [hN.out]; exact hl
 have ix := fun W => h.run_at (P := Tryz.prog) el_ins.under el_ins.size .i64 (k : Int) (by omega) (by omega) W
 simp only [Int.toNat_natCast] at ix
 have HD := η h
 have HX := η hx
 have HOK := η hok
 have HL := η hl
 obtain ⟨RW, hRW⟩ : ∃ R, R = rawA L x k := ⟨_, rfl⟩
 unfold aheadL
 rw [← hRW]
 obtain ⟨y, hy⟩ : ∃ y, (whatS x).getD Wh.zero = y := ⟨_, rfl⟩
 obtain ⟨k12, hk12⟩ : ∃ z, (y.kind != 12) = z := ⟨_, rfl⟩
 obtain ⟨k9, hk9⟩ : ∃ z, (y.kind != 9) = z := ⟨_, rfl⟩
 have hraw : RW = appV (k12 && k9) (nextI x k : Nat) ++ (targetS L x k).toList := by
  rw [hRW, rawA, whatZ, hy, appV, ← hk12, ← hk9]
  simp
 have HRW := η hraw
 have HY := η hy
 clear h hx hok hl hRW hy hraw
 obtain ⟨c0, c1, c2, c3, c4⟩ := ins_cells HD.out HX.out
 go_enter Tryz.func111, Tryz.ntmps111
 go_upto_region 2 with fail
 go_cut [6] (fun v6 wx => ∃ q, v6 = .pointer (some ⟨q, 0, none⟩) ∧ Hid (Ext w wx ∧ wx.heap[q]? = some (whObj y)))
 case first =>
  go_wp2_with fail
  refine (p_What x _ HOK.out).mono ?_
  unfold WhatA
  rw [HY.out]
  rintro e w7 ⟨rfl, hE7⟩
  have HE7 := η hE7
  clear hE7
  go_wp2_with fail
  go_meet
  refine ⟨_, rfl, η ⟨HE7.out.alloc' _, ?_⟩⟩
  (repeat (first | (refine obj_top _ _ ?_; simp; done) | refine obj_old _ ?_))
 case rest =>
  obtain ⟨q, rfl, HW⟩ := hcut
  have q0 := cO (i := 0) HW.out.2
  simp only [gA, gB, gC] at q0
  clear c0 c1 c2 c3 c4
  go_upto_region 3 with fail
  go_cut [25] (fun v25 wx => v25 = .bool (k12 && k9) ∧ wx = wc)
  case first =>
   cases k12
   all_goals
    go_wp2_with fail
    go_meet
    exact ⟨rfl, rfl⟩
  case rest =>
   obtain ⟨rfl, rfl⟩ := hcut
   generalize (k12 && k9) = kk at *
   go_upto_if 25 with fail
   go_cut [5] (fun v5 wx => Hid (Own wx w.heap.size 3 1 encI v5 (appV kk (nextI x k : Nat)) ∧ Ext w wx))
   case first =>
    cases kk
    ·go_wp2_with fail
     go_meet
     exact η ⟨Own.nil _ _ _ _ _, HW.out.1⟩
    ·go_wp2_with fail
     refine (p_Next _ L k x _ (HD.out.ext HW.out.1) HL.out HX.out).mono ?_
     rintro e w7 ⟨rfl, hE7⟩
     have HE7 := η (HW.out.1.trans' hE7)
     clear hE7
     go_wp2_with (at_builtin; refine app_own el_int (enc_int .i64) rfl _ _ rfl rfl (Own.nil _ w.heap.size _ _ _) rfl (ys := [((nextI x k : Nat) : Int)]) ?q1 ?q2 ?q3 ?q4)
     case q1 => exact rd_one _ _
     case q2 => simp
     case q3 => have := HE7.out.size; simp; omega
     intro v' w8 hown hgrow hmv
     have HO := η hown
     have HE8 : Hid (Ext w w8) := η (hmv _ _ (HE7.out.alloc' _) (Nat.le_refl _))
     clear hown hgrow hmv
     go_wp2_with fail
     go_meet
     exact η ⟨HO.out, HE8.out⟩
   case rest =>
    obtain ⟨ho1, hE1⟩ := hcut.out
    have HO1 := η ho1
    have HE1 := η hE1
    obtain ⟨ra, rn, rc, hrv, hrn, hRN⟩ := (HO1.out.rd (enc_int .i64)).val
    clear ho1 hE1 hcut q0
    subst hrv
    go_wp2_with fail
    refine (p_Target _ L k x _ (HD.out.ext HE1.out) HL.out HX.out HOK.out).mono ?_
    unfold OptA
    obtain ⟨o, ho⟩ : ∃ o, targetS L x k = o := ⟨_, rfl⟩
    rw [ho]
    rintro e w7 ⟨rfl, hE7⟩
    have HE7 := η (HE1.out.trans' hE7)
    have HO7 := η (HO1.out.ext hE7)
    have HTO := η ho
    clear hE7 ho
    go_upto_if 38 with fail
    go_cut [5] (fun v5 wx => Hid (Own wx w.heap.size 3 1 encI v5 RW ∧ Ext w wx))
    case first =>
     cases o with
     | none =>
      simp only [Option.getD_none, Option.isSome_none]
      go_wp2_with fail
      go_meet
      exact η ⟨by rw [HRW.out, HTO.out]; simpa using HO7.out, HE7.out⟩
     | some t =>
      simp only [Option.getD_some, Option.isSome_some]
      go_wp2_with (at_builtin; refine app_own el_int (enc_int .i64) rfl _ _ rfl rfl (HO7.out.alloc _) rfl (ys := [t]) ?p1 ?p2 ?p3 ?p4)
      case p1 => exact rd_one _ _
      case p2 => unfold appV; split <;> simp
      case p3 => have := HE7.out.size; simp; omega
      intro v' w8 hown hgrow hmv
      have HO := η hown
      have HE8 : Hid (Ext w w8) := η (hmv _ _ (HE7.out.alloc' _) (Nat.le_refl _))
      clear hown hgrow hmv
      go_wp2_with fail
      go_meet
      exact η ⟨by rw [HRW.out, HTO.out]; exact HO.out, HE8.out⟩
    case rest =>
     obtain ⟨ho2, hE2⟩ := hcut.out
     have HO2 := η ho2
     have HE2 := η hE2
     obtain ⟨sa, sn, sc, hsv, hsn, hSN⟩ := (HO2.out.rd (enc_int .i64)).val
     clear ho2 hE2 hcut
     subst hsv
     have hlen : RW.length ≤ 1000000 := by
      rw [HRW.out, HTO.out]
      unfold appV
      cases o <;> split <;> simp
     have HLN := η hlen
     clear hlen
     go_wp2_with fail
     refine (own_sort HO2.out HE2.out.size HLN.out).mono ?_
     rintro e w8 ⟨rfl, hO8, hb8⟩
     have HO8 := η hO8
     have HE8 : Hid (Ext w w8) := η (hb8 _ _ HE2.out (Nat.le_refl _))
     clear hO8 hb8
     go_wp2_with fail
     refine (own_compact HO8.out HE8.out.size (by rw [List.length_mergeSort]; exact HLN.out)).mono ?_
     rintro e w9 ⟨v9, rfl, hO9, hb9⟩
     have HO9 := η hO9
     have HE9 : Hid (Ext w w9) := η (hb9 _ _ HE8.out (Nat.le_refl _))
     clear hO9 hb9
     go_wp2_with fail
     go_returns
     exact ⟨v9, rfl, HO9.out, HE9.out⟩
theorem p_Ahead (v : Value) (L : List Ins) (i : Int) (w : World) (h : Rd w 5 Ins.enc v L) (hl : L.length ≤ 1000000) (hok : InsOk L) : Calls Tryz.prog 69 #[v, .int .i64 i] w (OwnA (if beginsS L i then (match L[i.toNat]? with | some x => aheadL L x i.toNat | none => []) else []) w) := by
 have HD := η h
 have HOK := η hok
 have HL := η hl
 clear h hok hl
 cases hb : beginsS L i with
 | false =>
  have HB := η hb
  clear hb
  simp only [Bool.false_eq_true, if_false]
  go_enter Tryz.func69, Tryz.ntmps69
  go_wp2_with fail
  refine (p_begins _ L i _ HD.out HL.out HOK.out).mono ?_
  rw [HB.out]
  rintro e w5 ⟨rfl, hE⟩
  have HE := η hE
  clear hE
  go_wp2_with fail
  go_returns
  exact ⟨_, rfl, Own.nil _ _ _ _ _, HE.out⟩
 | true =>
  have hi : 0 ≤ i ∧ i < L.length := by
   unfold beginsS at hb
   simp only [Bool.and_eq_true, decide_eq_true_eq] at hb
   exact ⟨hb.2.1, hb.2.2.1⟩
  obtain ⟨k, rfl⟩ : ∃ k : Nat, i = k := ⟨i.toNat, by omega⟩
  obtain ⟨x, hx⟩ := at_of_lt (xs := L) (k := k) (by omega)
  simp only [if_true, Int.toNat_natCast, hx]
  have HB := η hb
  have HX := η hx
  clear hb hx hi
  go_enter Tryz.func69, Tryz.ntmps69
  go_wp2_with fail
  refine (p_begins _ L k _ HD.out HL.out HOK.out).mono ?_
  rw [HB.out]
  rintro e w5 ⟨rfl, hE⟩
  have HE := η hE
  clear hE
  go_wp2_with fail
  refine (p_ahead _ L k x _ (HD.out.ext HE.out) HL.out HX.out (HOK.out.at HX.out)).mono ?_
  rintro e w6 ⟨v6, rfl, hO, hE6⟩
  have HO := η hO
  have HE6 := η hE6
  clear hO hE6
  go_wp2_with fail
  go_returns
  exact ⟨_, rfl, HO.out.mono HE.out.size, HE.out.trans' HE6.out⟩
abbrev encBo : Bool → List Value := fun x => [Value.bool x]
theorem target_lt {L : List Ins} {x : Ins} {m : Nat} {t : Int} (ht : targetS L x m = some t) : 0 ≤ t ∧ t < L.length := by
 unfold targetS at ht
 cases h1 : toS x m with
 | none => rw [h1] at ht; cases ht
 | some u =>
  rw [h1] at ht
  simp only [] at ht
  split at ht
  ·injection ht with ht; omega
  ·cases ht
theorem elt_block (g n c k : Nat) : (elt (.slice (some ⟨g, 0, none⟩) n c) k).block = g := by simp only [elt, Addr.add]; split <;> rfl
def OwnB (xs : List Bool) (w : World) (e : Ending) (w' : World) : Prop := ∃ v, e = .returned v ∧ Own w' w.heap.size 4 1 encBo v xs ∧ Ext w w'
theorem compact1 (a : Int) : Lib.compact [a] = [a] := by
 simp [Lib.compact, Lib.compactUpTo, Lib.keeps, List.range_succ]
theorem compact2 (a b : Int) : Lib.compact [a, b] = if a = b then [a] else [a, b] := by
 by_cases h : a = b
 ·subst h
  simp [Lib.compact, Lib.compactUpTo, Lib.keeps, List.range_succ]
 ·have h' : ¬ b = a := fun e => h e.symm
  simp [Lib.compact, Lib.compactUpTo, Lib.keeps, List.range_succ, h, h']
theorem sort2 (a b : Int) : ([a, b].mergeSort fun x y => decide (x ≤ y)) = if a ≤ b then [a, b] else [b, a] := by
 by_cases h : a ≤ b
 ·have : ([a, b].mergeSort fun x y => decide (x ≤ y)) = [a, b] := List.mergeSort_of_pairwise (by simp [h])
  rw [this, if_pos h]
 ·rw [if_neg h]
  have hp : ([a, b].mergeSort fun x y => decide (x ≤ y)).Perm [a, b] := List.mergeSort_perm _ _
  have h2 : ([a, b].mergeSort fun x y => decide (x ≤ y)).Pairwise (fun x y => decide (x ≤ y) = true) := List.pairwise_mergeSort (by simp; omega) (by simp; omega) _
  generalize ([a, b].mergeSort fun x y => decide (x ≤ y)) = l at hp h2
  have hl := hp.length_eq
  match l, hl with
  | [c, d], _ =>
   have hc : c ∈ [a, b] := hp.subset (by simp)
   have hd : d ∈ [a, b] := hp.subset (by simp)
   have ha : a ∈ [c, d] := hp.symm.subset (by simp)
   have hb : b ∈ [c, d] := hp.symm.subset (by simp)
   simp at hc hd ha hb h2
   have h3 : c = b ∧ d = a := by omega
   rw [h3.1, h3.2]
def two (o : Bool) (a : Int) : Option Int → List Int
 | none => if o then [a] else []
 | some b => if o then (if a < b then [a, b] else if b < a then [b, a] else [a]) else [b]
theorem compact_sort (o : Bool) (a : Int) (p : Option Int) : Lib.compact (((if o then [a] else []) ++ p.toList).mergeSort fun x y => decide (x ≤ y)) = two o a p := by
 cases o <;> cases p
 ·simpa [two] using (show Lib.compact ([] : List Int) = [] from by simp [Lib.compact, Lib.compactUpTo])
 ·simpa [two] using compact1 _
 ·simpa [two] using compact1 _
 ·rename_i b
  simp only [if_true, Option.toList_some, List.cons_append, List.nil_append, two]
  rw [sort2]
  by_cases h1 : a < b
  ·rw [if_pos (by omega), if_pos h1, compact2, if_neg (by omega)]
  ·by_cases h2 : b < a
   ·rw [if_neg (by omega), if_neg h1, if_pos h2, compact2, if_neg (by omega)]
   ·rw [if_pos (by omega), if_neg h1, if_neg h2, compact2, if_pos (by omega)]
def goesOn (x : Ins) : Bool := (whatZ x).kind != 12 && (whatZ x).kind != 9
theorem ahead_two (L : List Ins) (x : Ins) (k : Nat) : aheadL L x k = two (goesOn x) (nextI x k : Nat) (targetS L x k) := by
 rw [← compact_sort, aheadL, rawA, goesOn]
 congr 2
 by_cases h1 : (whatZ x).kind = 12 <;> by_cases h2 : (whatZ x).kind = 9 <;> simp [h1, h2]
theorem mem_two {o : Bool} {a t : Int} {p : Option Int} : t ∈ two o a p ↔ (o = true ∧ t = a) ∨ p = some t := by
 cases o <;> cases p
 ·simp [two]
 ·rename_i b; simp [two, eq_comm]
 ·simp [two]
 ·rename_i b
  simp only [two, if_true, true_and, Option.some.injEq]
  by_cases h1 : a < b
  ·rw [if_pos h1]; simp [eq_comm]
  ·rw [if_neg h1]
   by_cases h2 : b < a
   ·rw [if_pos h2]; simp [eq_comm, or_comm]
   ·rw [if_neg h2]
    have : a = b := by omega
    subst this
    simp [eq_comm]
theorem mem_ahead {L : List Ins} {x : Ins} {k : Nat} {t : Int} : t ∈ aheadL L x k ↔ (goesOn x = true ∧ t = (nextI x k : Nat)) ∨ targetS L x k = some t := by
 rw [ahead_two, mem_two]
theorem st_at : ∀ (b : Bool) (L : List Ins) (k : Nat), (stF b L)[k]? = some true → (stF b L).drop k = stF false (L.drop k)
 | b, [], k, h => by cases b <;> simp [stF] at h
 | true, x :: xs, 0, h => by simp [stF] at h
 | true, x :: xs, k + 1, h => by
  simp only [stF, List.getElem?_cons_succ] at h
  simpa [stF] using st_at false xs k h
 | false, x :: xs, 0, h => rfl
 | false, x :: xs, k + 1, h => by
  simp only [stF, List.getElem?_cons_succ] at h
  simpa [stF] using st_at _ xs k h
theorem st_head {L : List Ins} {k : Nat} (h : stD L k) (hk : k < L.length) : (stF false L)[k]? = some true := by
 obtain ⟨y, hy⟩ := at_of_lt hk
 exact (st_step h hy).1
theorem nextI_le (x : Ins) (k : Nat) : k + 1 ≤ nextI x k ∧ nextI x k ≤ k + 2 := by unfold nextI; split <;> omega
structure ProgF (L : List Ins) : Prop where
 len : 1 ≤ L.length ∧ L.length ≤ 512
 o1 : ∀ j, j < L.length → ok1 L j = true
 o2 : ∀ j, j < L.length → ok2 L j = true
 last : endS L = true
theorem ProgF.of {L : List Ins} (h : progS L = true) : ProgF L := by
 unfold progS at h
 simp only [Bool.and_eq_true, decide_eq_true_eq, List.all_eq_true, List.mem_range] at h
 exact ⟨⟨h.1, h.2.1⟩, h.2.2.1, h.2.2.2.1, h.2.2.2.2⟩
theorem lastS_eq {L : List Ins} {k : Nat} (hk : (stF false L)[k]? = some true) : ∀ m, k < m → (∀ j, k < j → j < m → (stF false L)[j]? ≠ some true) → lastS L m = k
 | 0, h, _ => absurd h (Nat.not_lt_zero _)
 | m + 1, h, hn => by
  unfold lastS
  by_cases he : k = m
  ·subst he; rw [if_pos hk]
  ·rw [if_neg (hn m (by omega) (by omega))]
   exact lastS_eq hk m (by omega) (fun j h1 h2 => hn j h1 (by omega))
theorem ahead_start {L : List Ins} (hp : ProgF L) {k : Nat} {x : Ins} (hk : (stF false L)[k]? = some true) (hx : L[k]? = some x) {t : Int} (ht : t ∈ aheadL L x k) :
  0 ≤ t ∧ t < L.length ∧ (stF false L)[t.toNat]? = some true := by
 have hkl : k < L.length := (List.getElem?_eq_some_iff.1 hx).1
 rcases mem_ahead.1 ht with ⟨hg, rfl⟩ | ht
 ·obtain ⟨h1, h2, h3⟩ := st_step (st_at false L k hk) hx
  have hn := nextI_le x k
  have hlt : nextI x k < L.length := by
   rcases Nat.lt_or_ge (nextI x k) L.length with h | h
   ·exact h
   ·exfalso
    have hl : lastS L L.length = k := lastS_eq hk _ hkl (fun j hj1 hj2 hj3 => by
     have : x.op = 24 := by
      by_cases e : x.op = 24
      ·exact e
      ·unfold nextI at h; rw [if_neg e] at h; omega
     unfold nextI at h
     rw [if_pos this] at h
     obtain rfl : j = k + 1 := by omega
     rw [h3 this hj2] at hj3
     cases hj3)
    have he := hp.last
    unfold endS at he
    rw [hl, hx] at he
    unfold goesOn at hg
    simp only [Bool.or_eq_true, beq_iff_eq, Bool.and_eq_true, bne_iff_ne, ne_eq] at he hg
    rcases he with he | he
    ·exact hg.1 he
    ·exact hg.2 he
  exact ⟨by omega, by omega, by rw [Int.toNat_natCast]; exact st_head h2 hlt⟩
 ·obtain ⟨h0, h1⟩ := target_lt ht
  refine ⟨h0, h1, ?_⟩
  have h2 := hp.o2 k hkl
  rw [(ok1_at hk hx).2.1] at h2
  unfold targetS at ht
  cases hto : toS x k with
  | none => rw [hto] at ht; cases ht
  | some u =>
   rw [hto] at ht h2
   simp only [] at ht h2
   split at ht
   ·injection ht with ht
    subst ht
    unfold jumpOk at h2
    simp only [Bool.and_eq_true, beq_iff_eq] at h2
    exact h2.2.2
   ·cases ht
end Go.Proofs.YtppefchjoodgnaaGreat
