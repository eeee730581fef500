/- What the claim leans on: RTE · RTI · RTF · Ins · Al · AlB · Is · Ms. -/
import Derived.Test.YtppefchjoodgnaaGreatPN12
import Derived.Test.YtppefchjoodgnaaGreatPN11
import Derived.Test.YtppefchjoodgnaaGreatPN10
import Derived.Test.YtppefchjoodgnaaGreatPN01
import Derived.Test.YtppefchjoodgnaaGreatProg
import Derived.Deep.RegionLaw
import Derived.Deep.CutBlock
import Derived.Deep.DeepCutAuto
import Derived.Test.YtppefchjoodgnaaGreatPN02
namespace Go.Proofs.YtppefchjoodgnaaGreat
open Go.RowKit
set_option linter.unusedVariables false
set_option linter.unusedSimpArgs false
def neK (s : ByteArray) (p : ByteArray × Nat) : Bool := !(p.1 == s)
def rdrop (T : List TM) (i : Int) (ks : List Int) : List TM × Int × Int :=
 match tfind T i ks.length with
 | none => (T, 0, 1)
 | some t => if t.hash = false then (T, 18446744073709551594, 0) else
  if (t.slots.filter (neK (strOfNums ks))).length = t.slots.length then (T, 18446744073709551614, 0) else (T.set i.toNat { t with slots := t.slots.filter (neK (strOfNums ks)) }, 0, 0)
def RDropT (base tb : Nat) (S : RTabs) (i : Int) (ks : List Int) (w : World) (e : Ending) (w' : World) : Prop :=
 e = .returned (.tuple #[.int .u64 (rdrop (rview S).2 i ks).2.1, .int .i64 (rdrop (rview S).2 i ks).2.2]) ∧ Keep (rtfoot tb S) w w' ∧ ∃ S', RTabAt w' base tb S' ∧ rview S' = ((rview S).1, (rdrop (rview S).2 i ks).1) ∧ (∀ j ∈ rtfoot tb S', j ∈ rtfoot tb S ∨ w.heap.size ≤ j) ∧ S'.rb = S.rb
theorem rdrop_same {base tb : Nat} {S : RTabs} {i : Int} {ks : List Int} {a b : Int} {w w' : World} (h : RTabAt w base tb S) (he : Ext w w') (e : rdrop (rview S).2 i ks = ((rview S).2, a, b)) : RDropT base tb S i ks w (.returned (.tuple #[.int .u64 a, .int .i64 b])) w' :=
 ⟨by rw [e], Keep.of_ext he, S, h.ext he, by rw [e], fun j hj => .inl hj, rfl⟩
theorem filter_take (s : ByteArray) {L : List (ByteArray × Nat)} {q : Nat} {p : ByteArray × Nat} (h : L[q]? = some p) : (L.take (q + 1)).filter (neK s) = (L.take q).filter (neK s) ++ if neK s p = true then [p] else [] := by
 rw [List.take_add_one, h, List.filter_append]
 congr 1
 simp only [Option.toList_some, List.filter_cons, List.filter_nil]
set_option maxRecDepth 20000 in
set_option maxHeartbeats 8000000 in
theorem rtab_drop (base tb : Nat) (S : RTabs) (i : Int) (kv : Value) (ks : List Int) (w : World) (h : RTabAt w base tb S) (hbase : base ≤ w.heap.size) (HLB : Hid (∀ x ∈ S.R, x.T.slots.length ≤ 1000)) (hk : Sl w .u8 kv ks) :
  Calls Tryz.prog 147 #[.pointer (some ⟨tb, 0, none⟩), .int .i64 i, kv] w (RDropT base tb S i ks w) := by
 have HT := η h
 obtain ⟨ka, kn, kc, rfl, hkn, hKN⟩ := hk.val
 have HK := η hk
 clear h hk
 rcases tfind_cases' (S.R.map (·.T)) i ks.length with h0 | ⟨j, t, rfl, hp, hkk⟩
 ·have H0 := η h0
  clear h0
  go_enter Tryz.func147, Tryz.ntmps147
  go_wp2_with fail
  refine (rtab_may base tb S i _ ks w HT.out HK.out).mono ?_
  rintro e w1 ⟨rfl, rfl⟩
  rw [H0.out]
  go_wp2_with fail
  go_returns
  exact rdrop_same HT.out (Ext.rfl' _) (by simp only [rdrop, rview, H0.out])
 ·obtain ⟨x, hx, hxt, hxm⟩ := rpick S j t hp
  have hf : tfind (S.R.map (·.T)) j ks.length = some x.T := by rw [hxt]; exact tfind_at' hp hkk
  clear hp hkk hxt
  have hj8 : j < S.R.length := (List.getElem?_eq_some_iff.1 hx).1
  have HMD := η (HT.out.made x hxm)
  have HX := η hf
  have HXI := η hx
  have HM := η hxm
  have hl1000 := HLB.out x hxm
  have hb1 := cO (i := 1) HT.out.head
  simp only [gA, gB, gC] at hb1
  have RMM := η (HT.out.maps.rd enc_rm)
  obtain ⟨ma, mn, mc, hmv, hmn, hMN⟩ := RMM.out.val
  have HMV := η hmv
  rw [hmv] at hb1 RMM
  have hi1 : ((j : Nat) : Int) < (mn : Int) := by have := hMN.out; omega
  have RK := η ((HT.out.keys x hxm).rd enc_ks)
  obtain ⟨la, ln, lc, hlv, hln, hLN⟩ := RK.out.val
  have HLV := η hlv
  rw [hlv] at RK
  have ix := fun W => RMM.out.run_at (P := Tryz.prog) el_rm.under el_rm.size .i64 (j : Int) (by omega) (by omega) W
  obtain ⟨c0, c1, c2, c3, c4, c5⟩ := rm_cells RMM.out hx
  simp only [Int.toNat_natCast] at ix
  rw [hlv] at c4
  have HSL : Hid ((ln : Int) = (x.T.slots.length : Int)) := η (by have := hLN.out; omega)
  clear hf hx hxm hmv hlv c1 c2 c3 c5
  go_enter Tryz.func147, Tryz.ntmps147
  go_wp2_with fail
  refine (rtab_may base tb S j _ ks w HT.out HK.out).mono ?_
  rintro e w1 ⟨rfl, rfl⟩
  rw [HX.out]
  cases hh : x.T.hash with
  | false =>
   have HH := η hh
   rw [hh] at c0
   clear hh
   go_wp2_with fail
   refine (rtab_minus 22 _ (by decide) (by decide)).mono ?_
   rintro e w3 ⟨rfl, rfl⟩
   go_wp2_with fail
   go_returns
   exact rdrop_same HT.out (Ext.rfl' _) (by simp only [rdrop, rview, HX.out, HH.out, if_true])
  | true =>
   have HH := η hh
   rw [hh] at c0
   clear hh
   have HSB : Hid (∀ u, Ext w1 u → u.cell? ⟨tb, 1, none⟩ = some (.slice ma mn mc) ∧ u.cell? ⟨(elt (.slice ma mn mc) (j * 6)).block, (elt (.slice ma mn mc) (j * 6)).off + 4, none⟩ = some (.slice la ln lc)) := η fun u k => ⟨k.cellOf hb1, k.cellOf c4⟩
   go_wp2_with fail
   go_loopw [9, 8] (fun q v wr => ∃ (k : Nat), k ≤ ln ∧ q = .int .i64 k ∧ (∃ a n c, v = .slice a n c) ∧ Ext w1 wr ∧ Hid (Own wr w1.heap.size 129 2 encKS v ((x.T.slots.take k).filter (neK (strOfNums ks))))) (fun q _ _ => ln - (intOf q).toNat)
   case atStart => exact ⟨0, Nat.zero_le _, rfl, ⟨_, _, _, rfl⟩, Ext.rfl' _, η (Own.nil _ _ _ _ _)⟩
   case round =>
    obtain ⟨k, hk, rfl, ⟨ra, rn, rc, rfl⟩, hwr, HO⟩ := hrel
    obtain ⟨d1, d4⟩ := HSB.out _ hwr
    by_cases hlt : (k : Int) < ln
    ·obtain ⟨p, hp⟩ := at_of_lt (xs := x.T.slots) (k := k) (by have := HSL.out; omega)
     have iy := fun W => RK.out.run_at (P := Tryz.prog) el_rk.under el_rk.size .i64 (k : Int) (by omega) (by omega) W
     simp only [Int.toNat_natCast] at iy
     obtain ⟨z0, z1⟩ := ks_cells (RK.out.ext hwr) hp
     have st := fun n => ((HK.out.ext hwr).ext ((Ext.rfl' _).drewN' n)).run_str (P := Tryz.prog) Tryz.underlying23 Tryz.underlying5 Tryz.underlying9
     have HFT := η (filter_take (strOfNums ks) hp)
     have hfl : ((x.T.slots.take k).filter (neK (strOfNums ks))).length ≤ 1000 := Nat.le_trans (List.length_filter_le _ _) (by simp; omega)
     clear hp
     by_cases he : p.1 = strOfNums ks
     ·have hn : neK (strOfNums ks) p = false := by simp [neK, he]
      have HO2 := η (show (x.T.slots.take (k + 1)).filter (neK (strOfNums ks)) = (x.T.slots.take k).filter (neK (strOfNums ks)) by rw [HFT.out, hn]; simp)
      rw [he] at z0
      clear he hn
      have HKS2 := HO2
      go_wp2_with fail
      generalize hsk : strOfNums ks = sk at st z0
      clear hsk
      go_quiet (fail)
      go_wp2_with fail
      go_roundw
      case rel => exact ⟨k + 1, by omega, by go_num, ⟨_, _, _, rfl⟩, hwr.drewN' _, η (by rw [HO2.out]; exact HO.out.ext ((Ext.rfl' _).drewN' _))⟩
      case measure => simp [intOf]; omega
     ·have hn : neK (strOfNums ks) p = true := by simp [neK, he]
      have HO2 := η (show (x.T.slots.take (k + 1)).filter (neK (strOfNums ks)) = (x.T.slots.take k).filter (neK (strOfNums ks)) ++ [p] by rw [HFT.out, hn]; simp)
      have hb : (p.1.toList == (strOfNums ks).toList) = false := by rw [← beq_toListBytes]; exact ba_ne he
      clear he hn
      go_wp2_with fail
      generalize hsk : strOfNums ks = sk at st hb
      clear hsk
      go_quiet (fail)
      have z0' := ((Ext.rfl' wr).drewN' nq).cellOf z0
      have z1' := ((Ext.rfl' wr).drewN' nq).cellOf z1
      go_wp2_with (at_builtin; refine app_own el_rk enc_ks rfl _ _ rfl rfl ((HO.out.ext ((Ext.rfl' _).drewN' nq)).alloc _) rfl (ys := [p]) ?r2 ?r3 ?r4 ?r5)
      case r2 => exact key_lit (wr.drewN nq) p.1 p.2 _ rfl
      case r3 => first | omega | (simp; omega)
      case r4 => have := hwr.size; first | exact this | (simp; omega)
      intro v7 w7 hown7 hg7 hb7
      have hE7 : Ext w1 w7 := hb7 _ _ ((hwr.drewN' _).alloc' _) (Nat.le_refl _)
      obtain ⟨qa, qn, qc, rfl, hqn, -⟩ := (hown7.rd enc_ks).val
      have HO7 := η hown7
      clear hown7 hg7 hb7
      go_wp2_with fail
      go_roundw
      case rel => exact ⟨k + 1, by omega, by go_num, ⟨_, _, _, rfl⟩, hE7, η (by rw [HO2.out]; exact HO7.out)⟩
      case measure => simp [intOf]; omega
    ·have hall : x.T.slots.take k = x.T.slots := List.take_of_length_le (by have := HSL.out; omega)
     rw [hall] at HO
     obtain ⟨ra', rn', rc', hrv, hrn, HRN⟩ := (HO.out.rd enc_ks).val
     injection hrv with e1 e2 e3
     subst e1 e2 e3
     have HE := η hwr
     have HTw := η (HT.out.ext hwr)
     by_cases hlen : rn = ln
     ·have HLEN : Hid ((x.T.slots.filter (neK (strOfNums ks))).length = x.T.slots.length) := η (by have := HRN.out; have := HSL.out; omega)
      have d0 : ((rn : Int) == (ln : Int)) = true := beq_iff_eq.2 (by omega)
      clear hlen hall hk
      go_wp2_with fail
      refine (rtab_minus 2 _ (by decide) (by decide)).mono ?_
      rintro e w3 ⟨rfl, rfl⟩
      go_wp2_with fail
      go_returns
      exact rdrop_same HT.out HE.out (by simp only [rdrop, rview, HX.out, HH.out, Bool.true_eq_false, if_false]; rw [if_pos HLEN.out])
     ·have HLEN : Hid (¬ (x.T.slots.filter (neK (strOfNums ks))).length = x.T.slots.length) := η (by have := HRN.out; have := HSL.out; omega)
      have d0 : ((rn : Int) == (ln : Int)) = false := by simp; omega
      obtain ⟨p1, p2, p3, p4, p5⟩ := rm_field HTw.out.maps HXI.out 4 (by decide) (by decide)
      rw [HMV.out] at p1 p2
      rw [show (RM.enc x)[4]? = some x.lv from rfl, HLV.out] at p1
      have HP5 := η p5
      have P3 := η p3
      have P4 := η p4
      clear hlen hall hk p3 p4 p5
      go_wp2_with fail
      go_returns
      have hE : elt S.mv (j * 6) = elt (.slice ma mn mc) (j * 6) := by rw [HMV.out]
      have hlv2 : RM.lv ⟨ra, rc, { x.T with slots := x.T.slots.filter (neK (strOfNums ks)) }⟩ = .slice ra rn rc := by simp only [RM.lv]; rw [HRN.out]
      have p5 := HP5.out ⟨ra, rc, { x.T with slots := x.T.slots.filter (neK (strOfNums ks)) }⟩ (.slice ra rn rc) (by simp only [RM.enc]; rw [hlv2]; rfl)
      have hk2 : Keep S.mv.ownBlock.toList w1 (wr.setCell ⟨(elt S.mv (j * 6)).block, (elt S.mv (j * 6)).off + 4, none⟩ (.slice ra rn rc)) := (Keep.of_ext HE.out).setCell (by rw [P3.out]; simp) _
      have hlow : (elt S.mv (j * 6)).block < w1.heap.size := (HT.out.maps.lt P3.out).2
      have hkeys2 := HO.out.other (a := ⟨(elt S.mv (j * 6)).block, (elt S.mv (j * 6)).off + 4, none⟩) hlow (.slice ra rn rc)
      have h2 := HT.out.set (y := ⟨ra, rc, { x.T with slots := x.T.slots.filter (neK (strOfNums ks)) }⟩) HXI.out hk2 p5 (by rw [hlv2]; exact hkeys2.mono hbase) (fun q hq => .inr (by
       rw [hlv2] at hq
       exact (hkeys2.lt hq).1)) ⟨HMD.out.1, fun p hp => HMD.out.2 p (List.mem_filter.1 hp).1⟩
      rw [hE] at h2 hk2
      have hmvf : ∀ q ∈ S.mv.ownBlock.toList, q ∈ rtfoot tb S := fun q hq => by simp only [rtfoot, List.mem_cons, List.mem_append]; exact .inr (.inl hq)
      have hr : rdrop (rview S).2 j ks = ((rview S).2.set j { x.T with slots := x.T.slots.filter (neK (strOfNums ks)) }, 0, 0) := by
       simp only [rdrop, rview, HX.out, HH.out, Bool.true_eq_false, if_false]
       rw [if_neg HLEN.out, Int.toNat_natCast]
      refine ⟨by rw [hr]; rfl, hk2.mono fun q hq => .inl (hmvf q hq), _, h2.1, ?_, h2.2, rfl⟩
      rw [hr]
      simp only [rview, List.map_set]
def ritems (V : Areas × List TM) (i : Int) : List (ByteArray × List Int) :=
 match pick V.2 i with
 | none => []
 | some t => t.slots.map fun p => (p.1, (marea V.1 (tarea i (p.2 : Nat))).1)
def itemObj (y : IT) : Obj := .cells (([y] : List IT).flatMap IT.enc).toArray 36
theorem bytes_fun (k : ByteArray) (hk : k.size ≤ 1000000) : ∃ (cf : World → Nat) (wf : World → World), (∀ w, (convert 9 23 (.string k)).run Tryz.prog w = .ok (.slice (some ⟨w.heap.size, 0, none⟩) (numsK k).length (cf w)) (wf w)) ∧
  ∀ w, Ext w (wf w) ∧ Sl (wf w) .u8 (.slice (some ⟨w.heap.size, 0, none⟩) (numsK k).length (cf w)) (numsK k) ∧ w.heap.size < (wf w).heap.size := by
 have hl : (numsK k).length = k.size := by unfold numsK; rw [List.length_map, Array.length_toList]; rfl
 rw [hl]
 exact ⟨fun w => (run_bytes_own k hk w).choose, fun w => (run_bytes_own k hk w).choose_spec.choose, fun w => (run_bytes_own k hk w).choose_spec.choose_spec.1, fun w => (run_bytes_own k hk w).choose_spec.choose_spec.2⟩
theorem item_lit (w : World) (y : IT) (q : Nat) (hq : q = w.heap.size) : Rd (w.alloc (itemObj y)) 2 IT.enc (.slice (some ⟨q, 0, none⟩) 1 1) [y] :=
 (Own.lit enc_it (base := 0) (w := w) (e := 36) [y] hq rfl (Nat.zero_le _) (by simp [maxLen])).rd enc_it
theorem key_blk {wr W0 W1 w6 : World} (h1 : Ext wr W0) (h2 : W0.heap.size < W1.heap.size) (h3 : Ext W1 w6) {q m c' : Nat} (hq : q = W0.heap.size) : ∀ a n c, Value.slice (some ⟨q, 0, none⟩) m c' = .slice (some a) n c → wr.heap.size ≤ a.block ∧ a.block < w6.heap.size := by
 intro a n c e
 injection e with e
 injection e with e
 subst e
 have := h1.size
 have := h3.size
 simp only
 omega
theorem key_keep {W0 W1 W w8 : World} {r n0 c0 c : Nat} {kk : List Int} (hg : W.grownBy w8 (Value.slice (some ⟨r, 0, none⟩) n0 c0).ownBlock) (h : Sl W1 .u8 (.slice (some ⟨W0.heap.size, 0, none⟩) kk.length c) kk) (hE : Ext W1 W) (hr : r ≠ W0.heap.size) {q : Nat} (hq : q = W0.heap.size) :
  Sl w8 .u8 (.slice (some ⟨q, 0, none⟩) kk.length c) kk := by
 subst hq
 exact (h.ext hE).keep (grown_keep hg) (fun a n c e => by
  injection e with e
  injection e with e
  subst e
  simp [Value.ownBlock]
  exact fun h => hr h.symm)
theorem key_blk8 {wr wc W1 W w8 : World} {row : Option Nat} {q : Nat} (hg : W.grownBy w8 row) (h0 : Ext wr wc) (hE : Ext W1 W) (h1 : wc.heap.size ≤ q) (h2 : q < W1.heap.size) : wr.heap.size ≤ q ∧ q < w8.heap.size := by
 have := h0.size; have := hE.size; have := hg.size
 omega
theorem blk_of {wr w8 w6 : World} {q m c' : Nat} (h : wr.heap.size ≤ q ∧ q < w8.heap.size) (hE : Ext w8 w6) : ∀ a n c, Value.slice (some ⟨q, 0, none⟩) m c' = .slice (some a) n c → wr.heap.size ≤ a.block ∧ a.block < w6.heap.size := by
 intro a n c e
 injection e with e
 injection e with e
 subst e
 have := hE.size
 simp only
 omega
theorem own_blk {α : Type} {wr w8 w6 : World} {base : Nat} {e : TypeId} {sz : Nat} {enc : α → List Value} {v : Value} {xs : List α} (h : Own w8 base e sz enc v xs) (h1 : wr.heap.size ≤ base) (h3 : Ext w8 w6) : ∀ a n c, v = .slice (some a) n c → wr.heap.size ≤ a.block ∧ a.block < w6.heap.size := by
 intro a n c e
 have hl := h.lt (k := a.block) (by rw [e]; rfl)
 have := h3.size
 omega
theorem marea_len {w : World} {base b : Nat} {lv : Value} {L : List RR} (h : RefAt w base b lv L) (n : Int) : (marea (viewR L) n).1.length ≤ 1000000 := by
 simp only [marea]
 cases hl : (viewR L).lookup n with
 | none => simp
 | some A =>
  simp only
  have hm : ∃ x ∈ L, x.A = A := by
   have hok := h.ok
   clear h hok
   induction L with
   | nil => simp [viewR] at hl
   | cons x L ih =>
    simp only [viewR, List.map_cons, List.lookup] at hl
    split at hl
    ·injection hl with hl; exact ⟨x, List.mem_cons_self, hl⟩
    ·obtain ⟨y, hy, e⟩ := ih hl; exact ⟨y, List.mem_cons_of_mem _ hy, e⟩
  obtain ⟨x, hx, rfl⟩ := hm
  have := (h.ok x hx).2.1
  omega
structure Ins where
 op : Int
 dst : Int
 src : Int
 off : Int
 imm : Int
def Ins.enc (x : Ins) : List Value := [.int .u8 x.op, .int .u8 x.dst, .int .u8 x.src, .int .i16 x.off, .int .i32 x.imm]
@[reducible] def Ins.agg (x : Ins) : Value := .agg #[.int .u8 x.op, .int .u8 x.dst, .int .u8 x.src, .int .i16 x.off, .int .i32 x.imm]
structure Ins.Ok (x : Ins) : Prop where
 op : 0 ≤ x.op ∧ x.op ≤ 255
 dst : 0 ≤ x.dst ∧ x.dst ≤ 255
 src : 0 ≤ x.src ∧ x.src ≤ 255
 off : -32768 ≤ x.off ∧ x.off ≤ 32767
 imm : -2147483648 ≤ x.imm ∧ x.imm ≤ 2147483647
theorem enc_ins : Enc 5 Ins.enc := ⟨fun _ => rfl, fun x u hu => by
 simp only [Ins.enc, List.mem_cons, List.not_mem_nil, or_false] at hu
 rcases hu with rfl | rfl | rfl | rfl | rfl <;> rfl⟩
theorem el_ins : El Tryz.prog 22 58 5 12 (.agg #[.int .u8 0, .int .u8 0, .int .u8 0, .int .i16 0, .int .i32 0]) := ⟨Tryz.underlying22, by kernel_rfl, rfl, by decide, fun _ => by kernel_rfl⟩
structure Wh where
 kind : Int
 op : Int
 wide : Bool
 reg : Bool
 signed : Bool
 size : Int
@[reducible] def Wh.agg (x : Wh) : Value := .agg #[.int .u8 x.kind, .int .u8 x.op, .bool x.wide, .bool x.reg, .bool x.signed, .int .i64 x.size]
@[reducible] def Wh.zero : Wh := ⟨0, 0, false, false, false, 0⟩
def WhA (o : Option Wh) (w : World) (e : Ending) (w' : World) : Prop :=
 ∃ (x : Wh) (b : Bool), e = .returned (.tuple #[x.agg, .bool b]) ∧ o = (if b then some x else none) ∧ Ext w w'
abbrev insObj (x : Ins) : Obj := .cells #[.int .u8 x.op, .int .u8 x.dst, .int .u8 x.src, .int .i16 x.off, .int .i32 x.imm] 58 (0, 0)
abbrev whObj (x : Wh) : Obj := .cells #[.int .u8 x.kind, .int .u8 x.op, .bool x.wide, .bool x.reg, .bool x.signed, .int .i64 x.size] 60 (0, 0)
theorem set6 {w0 w : World} {B : Nat} {y0 : Wh} (h : w.heap[B]? = some (whObj y0)) (he : Ext w0 w) (hb : w0.heap.size ≤ B) (k o : Int) (a b c : Bool) (n : Int) :
  ((((((w.setCell ⟨B, 0, none⟩ (.int .u8 k)).setCell ⟨B, 1, none⟩ (.int .u8 o)).setCell ⟨B, 2, none⟩ (.bool a)).setCell ⟨B, 3, none⟩ (.bool b)).setCell ⟨B, 4, none⟩ (.bool c)).setCell ⟨B, 5, none⟩ (.int .i64 n)).heap[B]? = some (whObj ⟨k, o, a, b, c, n⟩) ∧
  Ext w0 ((((((w.setCell ⟨B, 0, none⟩ (.int .u8 k)).setCell ⟨B, 1, none⟩ (.int .u8 o)).setCell ⟨B, 2, none⟩ (.bool a)).setCell ⟨B, 3, none⟩ (.bool b)).setCell ⟨B, 4, none⟩ (.bool c)).setCell ⟨B, 5, none⟩ (.int .i64 n)) := by
 refine ⟨?_, (((((he.setCell hb _).setCell hb _).setCell hb _).setCell hb _).setCell hb _).setCell hb _⟩
 have h1 := heap_setCell_same w B 0 _ _ (.int .u8 k) h
 have h2 := heap_setCell_same _ B 1 _ _ (.int .u8 o) h1
 have h3 := heap_setCell_same _ B 2 _ _ (.bool a) h2
 have h4 := heap_setCell_same _ B 3 _ _ (.bool b) h3
 have h5 := heap_setCell_same _ B 4 _ _ (.bool c) h4
 have h6 := heap_setCell_same _ B 5 _ _ (.int .i64 n) h5
 simpa using h6
def zerosS (x : Ins) (s o i : Bool) : Bool := !((s && x.src != 0) || (o && x.off != 0) || (i && x.imm != 0))
def arithS (x : Ins) (h : Int) (wd rg : Bool) : Option Wh :=
 if x.dst = 10 then none else if zerosS x (!rg) false rg = false then none else
 if h = 0 ∨ h = 16 ∨ h = 32 ∨ h = 64 ∨ h = 80 ∨ h = 160 ∨ h = 96 ∨ h = 112 ∨ h = 192 then (if x.off = 0 then some ⟨1, h, wd, rg, false, 0⟩ else none)
 else if h = 48 ∨ h = 144 then (if x.off = 0 ∨ x.off = 1 then some ⟨1, h, wd, rg, false, 0⟩ else none)
 else if h = 128 then (if rg = false ∧ zerosS x true true true = true then some ⟨1, h, wd, rg, false, 0⟩ else none)
 else if h = 176 then (if x.off = 0 ∨ (rg = true ∧ (x.off = 8 ∨ x.off = 16 ∨ (x.off = 32 ∧ wd = true))) then some ⟨1, h, wd, rg, false, 0⟩ else none)
 else none
theorem byte_all (P : Int → Prop) (h : ∀ n : Fin 256, P (n.val : Int)) (x : Int) (hx : 0 ≤ x ∧ x ≤ 255) : P x := by
 have := h ⟨x.toNat, by omega⟩
 simpa [Int.toNat_of_nonneg hx.1] using this
set_option maxHeartbeats 1000000 in
theorem p_class (x : Ins) (w : World) (h : 0 ≤ x.op ∧ x.op ≤ 255) : Calls Tryz.prog 116 #[x.agg] w fun e w' => e = .returned (.int .u8 (x.op % 8)) ∧ w' = w.alloc (.cells #[.int .u8 x.op, .int .u8 x.dst, .int .u8 x.src, .int .i16 x.off, .int .i32 x.imm] 58) := by
 have e : bits .and .u8 x.op 7 = x.op % 8 := byte_all (fun x => bits .and .u8 x 7 = x % 8) (by decide +kernel) x.op h
 go_enter Tryz.func116, Tryz.ntmps116
 go_wp2_with fail
 go_returns
 exact ⟨rfl, rfl⟩
set_option maxHeartbeats 1000000 in
theorem p_zeros (x : Ins) (s o i : Bool) (w : World) : Calls Tryz.prog 155 #[x.agg, .bool s, .bool o, .bool i] w fun e w' => e = .returned (.bool (zerosS x s o i)) ∧ w' = w.alloc (.cells #[.int .u8 x.op, .int .u8 x.dst, .int .u8 x.src, .int .i16 x.off, .int .i32 x.imm] 58) := by
 obtain ⟨a, ha⟩ : ∃ a, (x.src != 0) = a := ⟨_, rfl⟩
 obtain ⟨b, hb⟩ : ∃ b, (x.off != 0) = b := ⟨_, rfl⟩
 obtain ⟨c, hc⟩ : ∃ c, (x.imm != 0) = c := ⟨_, rfl⟩
 have HS : Hid (zerosS x s o i = !((s && a) || (o && b) || (i && c))) := η (by rw [zerosS, ha, hb, hc])
 cases s <;> cases o <;> cases i <;> cases a <;> cases b
 all_goals
  go_enter Tryz.func155, Tryz.ntmps155
  go_wp2_with fail
  go_returns
  exact ⟨by rw [HS.out]; simp, rfl⟩
theorem p_zerosE (x : Ins) (s o i z : Bool) (w : World) (hz : zerosS x s o i = z) : Calls Tryz.prog 155 #[x.agg, .bool s, .bool o, .bool i] w fun e w' => e = .returned (.bool z) ∧ w' = w.alloc (.cells #[.int .u8 x.op, .int .u8 x.dst, .int .u8 x.src, .int .i16 x.off, .int .i32 x.imm] 58) := hz ▸ p_zeros x s o i w
def wid (n : Int) : Prop := n = 8 ∨ n = 16 ∨ n = 32 ∨ n = 64
def cutN (a n : Int) : Int := if n = 64 then a else a % (2 ^ n.toNat)
def halfN (n : Int) : Int := 2 ^ (n - 1).toNat
def signN (a n : Int) : Int := if cutN a n / halfN n = 0 ∨ n = 64 then cutN a n else cutN a n - 2 ^ n.toNat + 18446744073709551616
def negN (x n : Int) : Bool := x / halfN n == 1
def minusN (x : Int) : Int := (-x) % 18446744073709551616
def sizeN (x n : Int) : Int := if negN x n then cutN (minusN x) n else x
def quoN (x y n : Int) (s : Bool) : Int := if y = 0 then 0 else if s = false then x / y else if negN x n = negN y n then sizeN x n / sizeN y n else cutN (minusN (sizeN x n / sizeN y n)) n
def remN (x y n : Int) (s : Bool) : Int := if y = 0 then x else if s = false then x % y else if negN x n then cutN (minusN (sizeN x n % sizeN y n)) n else sizeN x n % sizeN y n
def revN : Nat → Int → Int → Int
 | 0, _, out => out
 | k + 1, x, out => revN k (x / 256) ((out * 256 + x % 256) % 18446744073709551616)
def swapN (turn : Bool) (n a : Int) : Int := if turn then revN (n / 8).toNat (cutN a n) 0 else cutN a n
theorem cutN_le {a n : Int} (h : 0 ≤ a) (h1 : a ≤ 18446744073709551615) (hn : wid n) : 0 ≤ cutN a n ∧ cutN a n ≤ 18446744073709551615 ∧ cutN a n ≤ a ∧ (n = 8 → cutN a n < 256) ∧ (n = 16 → cutN a n < 65536) ∧ (n = 32 → cutN a n < 4294967296) := by
 rcases hn with rfl | rfl | rfl | rfl
 all_goals simp [cutN]; try omega
theorem emod_le' {p q : Int} (h : 0 ≤ p) (h1 : 0 ≤ q) : p % q ≤ p := by
 have := Int.emod_add_mul_ediv p q
 have := Int.mul_nonneg h1 (Int.ediv_nonneg h h1)
 omega
theorem cut_lt {a n : Int} (hn : wid n) (h : 0 ≤ a) (h1 : a ≤ 18446744073709551615) : 0 ≤ cutN a n ∧ cutN a n ≤ 18446744073709551615 := ⟨(cutN_le h h1 hn).1, (cutN_le h h1 hn).2.1⟩
theorem minus_lt (a : Int) : 0 ≤ minusN a ∧ minusN a ≤ 18446744073709551615 := by unfold minusN; omega
theorem size_lt {a n : Int} (hn : wid n) (h : 0 ≤ a) (h1 : a ≤ 18446744073709551615) : 0 ≤ sizeN a n ∧ sizeN a n ≤ 18446744073709551615 := by
 unfold sizeN
 split
 ·exact cut_lt hn (minus_lt a).1 (minus_lt a).2
 ·exact ⟨h, h1⟩
def doOk (op : Int) (wide : Bool) (off : Int) : Prop := (off = 0 ∧ (op = 176 ∨ op = 0 ∨ op = 16 ∨ op = 32 ∨ op = 64 ∨ op = 80 ∨ op = 96 ∨ op = 112 ∨ op = 128 ∨ op = 160)) ∨ (off = 0 ∧ op = 192) ∨ ((off = 0 ∨ off = 1) ∧ (op = 48 ∨ op = 144)) ∨ (op = 176 ∧ (off = 8 ∨ off = 16 ∨ off = 32 ∧ wide = true))
def wideN (wide : Bool) : Int := if wide then 64 else 32
theorem wide_wid (b : Bool) : wid (wideN b) := by cases b <;> simp [wideN, wid]
def rawN (op : Int) (n x y : Int) : Int :=
 if op = 0 then IntKind.u64.wrap (x + y) else if op = 16 then IntKind.u64.wrap (x - y) else if op = 32 then IntKind.u64.wrap (x * y)
 else if op = 64 then bits .or .u64 x y else if op = 80 then bits .and .u64 x y else if op = 160 then bits .xor .u64 x y
 else if op = 128 then IntKind.u64.wrap (-x) else if op = 96 then IntKind.u64.wrap (x * 2 ^ (y % n).toNat) else if op = 112 then x / 2 ^ (y % n).toNat
 else if op = 192 then (if negN x n then IntKind.u64.wrap (IntKind.u64.wrap (cutN 18446744073709551615 n - cutN 18446744073709551615 n / 2 ^ (y % n).toNat) + x / 2 ^ (y % n).toNat) else x / 2 ^ (y % n).toNat)
 else y
def aluN (op : Int) (wide : Bool) (off a b : Int) : Int :=
 if op = 176 ∧ off ≠ 0 then cutN (signN (cutN b (wideN wide)) off) (wideN wide)
 else if op = 48 then quoN (cutN a (wideN wide)) (cutN b (wideN wide)) (wideN wide) (off == 1)
 else if op = 144 then remN (cutN a (wideN wide)) (cutN b (wideN wide)) (wideN wide) (off == 1)
 else cutN (rawN op (wideN wide) (cutN a (wideN wide)) (cutN b (wideN wide))) (wideN wide)
theorem wrap_rng (n : Int) : 0 ≤ IntKind.u64.wrap n ∧ IntKind.u64.wrap n ≤ 18446744073709551615 := by rw [IntKind.wrap_u64]; omega
theorem bits_rng (op : BinOp) (x y : Int) (h : op = .or ∨ op = .and ∨ op = .xor) : 0 ≤ bits op .u64 x y ∧ bits op .u64 x y ≤ 18446744073709551615 := by
 rcases h with rfl | rfl | rfl
 all_goals
  simp only [bits]
  exact wrap_rng _
theorem shr_rng {x : Int} (h : 0 ≤ x) (h1 : x ≤ 18446744073709551615) (k : Nat) : 0 ≤ x / 2 ^ k ∧ x / 2 ^ k ≤ 18446744073709551615 :=
 ⟨Int.ediv_nonneg h (Int.le_of_lt (Int.pow_pos (by decide))), Int.le_trans (Int.ediv_le_self _ h) h1⟩
theorem raw_rng {op n x y : Int} (hx : 0 ≤ x ∧ x ≤ 18446744073709551615) (hy : 0 ≤ y ∧ y ≤ 18446744073709551615) : 0 ≤ rawN op n x y ∧ rawN op n x y ≤ 18446744073709551615 := by
 unfold rawN
 repeat' split
 all_goals first | exact wrap_rng _ | exact bits_rng _ _ _ (by simp) | exact shr_rng hx.1 hx.2 _ | exact hy
theorem sign_rng {a n : Int} (hn : wid n) (h : 0 ≤ a) (h1 : a ≤ 18446744073709551615) : 0 ≤ signN a n ∧ signN a n ≤ 18446744073709551615 := by
 have hc := cutN_le h h1 hn
 unfold signN
 rcases hn with rfl | rfl | rfl | rfl
 all_goals
  simp [halfN] at hc ⊢
  try (split <;> omega)
 exact ⟨hc.1, hc.2.1⟩
theorem rem_rng {x y n : Int} {s : Bool} (hn : wid n) (hx : 0 ≤ x ∧ x ≤ 18446744073709551615) (hy : 0 ≤ y ∧ y ≤ 18446744073709551615) : 0 ≤ remN x y n s ∧ remN x y n s ≤ 18446744073709551615 := by
 have hp := size_lt hn hx.1 hx.2
 have hq := size_lt hn hy.1 hy.2
 unfold remN
 split
 ·exact hx
 ·split
  ·exact ⟨Int.emod_nonneg _ (by assumption), Int.le_trans (emod_le' hx.1 hy.1) hx.2⟩
  ·split
   ·exact cut_lt hn (minus_lt _).1 (minus_lt _).2
   ·refine ⟨?_, Int.le_trans (emod_le' hp.1 hq.1) hp.2⟩
    by_cases h0 : sizeN y n = 0
    ·rw [h0, Int.emod_zero]; exact hp.1
    ·exact Int.emod_nonneg _ h0
theorem quo_rng {x y n : Int} {s : Bool} (hn : wid n) (hx : 0 ≤ x ∧ x ≤ 18446744073709551615) (hy : 0 ≤ y ∧ y ≤ 18446744073709551615) : 0 ≤ quoN x y n s ∧ quoN x y n s ≤ 18446744073709551615 := by
 have hp := size_lt hn hx.1 hx.2
 have hq := size_lt hn hy.1 hy.2
 unfold quoN
 split
 ·omega
 ·split
  ·exact ⟨Int.ediv_nonneg hx.1 hy.1, Int.le_trans (Int.ediv_le_self _ hx.1) hx.2⟩
  ·split
   ·exact ⟨Int.ediv_nonneg hp.1 hq.1, Int.le_trans (Int.ediv_le_self _ hp.1) hp.2⟩
   ·exact cut_lt hn (minus_lt _).1 (minus_lt _).2
theorem alu_rng {op : Int} {wide : Bool} {off a b : Int} (h : doOk op wide off) (ha : 0 ≤ a ∧ a ≤ 18446744073709551615) (hb : 0 ≤ b ∧ b ≤ 18446744073709551615) : 0 ≤ aluN op wide off a b ∧ aluN op wide off a b ≤ 18446744073709551615 := by
 have hw := wide_wid wide
 have hx := cut_lt hw ha.1 ha.2
 have hy := cut_lt hw hb.1 hb.2
 unfold aluN
 split
 ·rename_i h1
  have : wid off := by
   rcases h with ⟨h, _⟩ | ⟨h, _⟩ | ⟨_, h | h⟩ | ⟨_, h | h | h⟩
   ·exact absurd h h1.2
   ·exact absurd h h1.2
   ·have := h1.1; omega
   ·have := h1.1; omega
   ·exact .inl h
   ·exact .inr (.inl h)
   ·exact .inr (.inr (.inl h.1))
  have := sign_rng this hy.1 hy.2
  exact cut_lt hw this.1 this.2
 ·split
  ·exact quo_rng hw hx hy
  ·split
   ·exact rem_rng hw hx hy
   ·have := raw_rng (op := op) (n := wideN wide) hx hy
    exact cut_lt hw this.1 this.2
def condOk (op : Int) : Prop := op = 16 ∨ op = 80 ∨ op = 32 ∨ op = 48 ∨ op = 160 ∨ op = 176 ∨ op = 96 ∨ op = 112 ∨ op = 192 ∨ op = 208 ∨ op = 64
def topN (x n : Int) : Int := IntKind.u64.wrap (signN x n + 9223372036854775808)
def isN (op n x y : Int) : Bool :=
 if op = 16 then x == y else if op = 80 then x != y else if op = 32 then decide (x > y) else if op = 48 then decide (x ≥ y) else if op = 160 then decide (x < y) else if op = 176 then decide (x ≤ y)
 else if op = 96 then decide (topN x n > topN y n) else if op = 112 then decide (topN x n ≥ topN y n) else if op = 192 then decide (topN x n < topN y n) else if op = 208 then decide (topN x n ≤ topN y n)
 else bits .and .u64 x y != 0
def condN (op : Int) (wide : Bool) (a b : Int) : Bool := isN op (wideN wide) (if wide then a else a % 4294967296) (if wide then b else b % 4294967296)
structure Cl where
 id : Int
 map : Int
 key : List Int
 val : List Int
 n : List Int
 ret : Int
structure CB where
 c : Cl
 ka : Option Addr
 kc : Nat
 va : Option Addr
 vc : Nat
 na : Option Addr
 nc : Nat
def CB.kv (x : CB) : Value := .slice x.ka x.c.key.length x.kc
def CB.vv (x : CB) : Value := .slice x.va x.c.val.length x.vc
def CB.nv (x : CB) : Value := .slice x.na x.c.n.length x.nc
def CB.enc (x : CB) : List Value := [.int .i64 x.c.id, .int .i64 x.c.map, x.kv, x.vv, x.nv, .int .u64 x.c.ret]
theorem enc_cb : Enc 6 CB.enc := ⟨fun _ => rfl, fun x u hu => by
 simp only [CB.enc, List.mem_cons, List.not_mem_nil, or_false] at hu
 rcases hu with rfl | rfl | rfl | rfl | rfl | rfl <;> rfl⟩
theorem el_called : El Tryz.prog 43 76 6 96 (.agg #[.int .i64 0, .int .i64 0, .slice none 0 0, .slice none 0 0, .slice none 0 0, .int .u64 0]) := ⟨Tryz.underlying43, by kernel_rfl, rfl, by decide, fun _ => by kernel_rfl⟩
structure RS where
 L : List Ins
 R : Nat → Int
 S : Nat → Bool
 V : Areas × List TM
 D : List TDef
 dr : List Int
 place : Int
 over : Bool
 code : Int
 steps : Int
 calls : List Cl
structure RLay where
 lv : Value
 tb : Nat
 T : RTabs
 dv : Value
 drv : Value
 cv : Value
 cs : List CB
def vblk : Value → List Nat
 | .slice (some a) _ _ => [a.block]
 | _ => []
def rCells (σ : RS) (l : RLay) : List Value := [l.lv, .int .u64 (σ.R 0), .int .u64 (σ.R 1), .int .u64 (σ.R 2), .int .u64 (σ.R 3), .int .u64 (σ.R 4), .int .u64 (σ.R 5), .int .u64 (σ.R 6), .int .u64 (σ.R 7), .int .u64 (σ.R 8), .int .u64 (σ.R 9), .int .u64 (σ.R 10),
 .bool (σ.S 0), .bool (σ.S 1), .bool (σ.S 2), .bool (σ.S 3), .bool (σ.S 4), .bool (σ.S 5), .bool (σ.S 6), .bool (σ.S 7), .bool (σ.S 8), .bool (σ.S 9), .bool (σ.S 10),
 .pointer (some ⟨l.T.rb, 0, none⟩), .pointer (some ⟨l.tb, 0, none⟩), l.dv, l.drv, .int .i64 σ.place, .bool σ.over, .int .i64 σ.code, .int .i64 σ.steps, l.cv]
def fblk : Value → List Nat
 | .slice (some a) (_ + 1) _ => [a.block]
 | _ => []
theorem Rd.keepF {α : Type} {F : List Nat} {w w' : World} {sz : Nat} {enc : α → List Value} {v : Value} {xs : List α} (h : Rd w sz enc v xs) (k : Keep F w w') (hF : ∀ j ∈ fblk v, j ∉ F) : Rd w' sz enc v xs := by
 cases xs with
 | nil =>
  obtain ⟨a, c, rfl, h2, h3, h4, h5⟩ := h
  exact ⟨a, c, rfl, h2, h3, h4, fun i x hx => by simp at hx⟩
 | cons x xs =>
  refine h.keep k (fun a n c e => ?_)
  obtain ⟨a', c', e', _⟩ := h
  rw [e'] at e
  injection e with e1 e2 e3
  subst e1
  exact hF a.block (by rw [e']; simp [fblk])
def mfoot (mb : Nat) (l : RLay) : List Nat := mb :: (l.cv.ownBlock.toList ++ rtfoot l.tb l.T)
def mfrz (l : RLay) : List Nat := fblk l.lv ++ (fblk l.dv ++ (vblk l.drv ++ l.cs.flatMap fun c => vblk c.kv ++ (vblk c.vv ++ vblk c.nv)))
structure MAt (w : World) (base mb : Nat) (σ : RS) (l : RLay) : Prop where
 head : w.heap[mb]? = some (.cells (rCells σ l).toArray 50 (0, 0))
 low : base ≤ mb
 tab : RTabAt w base l.tb l.T
 view : rview l.T = σ.V
 calls : Own w base 76 6 CB.enc l.cv l.cs
 cls : l.cs.map (·.c) = σ.calls
 callS : ∀ c ∈ l.cs, Sl w .u8 c.kv c.c.key ∧ Sl w .u8 c.vv c.c.val ∧ Sl w .u64 c.nv c.c.n
 code : Rd w 5 Ins.enc l.lv σ.L
 defs : Rd w 4 TDef.enc l.dv σ.D
 draws : Sl w .u64 l.drv σ.dr
 apart : (mfoot mb l).Nodup
 frz : ∀ j ∈ mfrz l, j ∉ mfoot mb l ∧ j < w.heap.size
theorem vblk_not {v : Value} {F : List Nat} (h : ∀ j ∈ vblk v, j ∉ F) : ∀ a n c, v = .slice (some a) n c → a.block ∉ F := by
 rintro a n c rfl
 exact h _ (by simp [vblk])
section
variable {w w' : World} {base mb : Nat} {σ : RS} {l : RLay} {F : List Nat}
theorem mem_kv {l : RLay} {c : CB} (hc : c ∈ l.cs) {j : Nat} (hj : j ∈ vblk c.kv ++ (vblk c.vv ++ vblk c.nv)) : j ∈ mfrz l := by
 simp only [mfrz, List.mem_append, List.mem_flatMap]
 exact .inr (.inr (.inr ⟨c, hc, by simpa using hj⟩))
theorem MAt.keep (h : MAt w base mb σ l) (k : Keep F w w') (hF : ∀ j ∈ mfoot mb l, j ∉ F) (hZ : ∀ j ∈ mfrz l, j ∉ F) : MAt w' base mb σ l := by
 have hz : ∀ {v : Value}, (∀ j ∈ vblk v, j ∈ mfrz l) → ∀ a n c, v = .slice (some a) n c → a.block ∉ F := fun hv => vblk_not fun j hj => hZ j (hv j hj)
 refine ⟨k.obj h.head (hF _ (by simp [mfoot])), h.low, h.tab.keep k (fun j hj => hF j (by simp [mfoot, hj])), h.view, h.calls.keep k (fun j hj => hF j (by simp [mfoot, hj])), h.cls, fun c hc => ⟨?_, ?_, ?_⟩, ?_, ?_, ?_, h.apart, fun j hj => ⟨(h.frz j hj).1, Nat.lt_of_lt_of_le (h.frz j hj).2 k.size⟩⟩
 ·exact (h.callS c hc).1.keep k (hz fun j hj => mem_kv hc (by simp [hj]))
 ·exact (h.callS c hc).2.1.keep k (hz fun j hj => mem_kv hc (by simp [hj]))
 ·exact (h.callS c hc).2.2.keep k (hz fun j hj => mem_kv hc (by simp [hj]))
 ·exact h.code.keepF k (fun j hj => hZ j (by simp [mfrz, hj]))
 ·exact h.defs.keepF k (fun j hj => hZ j (by simp [mfrz, hj]))
 ·exact h.draws.keep k (hz fun j hj => by simp [mfrz, hj])
theorem MAt.ext (h : MAt w base mb σ l) (k : Ext w w') : MAt w' base mb σ l := h.keep (F := []) (Keep.of_ext k) (fun _ _ => by simp) (fun _ _ => by simp)
theorem MAt.cells (h : MAt w base mb σ l) {σ' : RS} (k : Keep [mb] w w') (hc : w'.heap[mb]? = some (.cells (rCells σ' l).toArray 50 (0, 0))) (hV : σ'.V = σ.V) (hL : σ'.L = σ.L) (hD : σ'.D = σ.D) (hd : σ'.dr = σ.dr) (hcl : σ'.calls = σ.calls) : MAt w' base mb σ' l := by
 have ha := List.nodup_cons.1 h.apart
 have hm : ∀ {j : Nat}, j ∈ l.cv.ownBlock.toList ++ rtfoot l.tb l.T → j ∉ [mb] := fun hj e => ha.1 (by rw [List.mem_singleton] at e; rwa [← e])
 have hx : ∀ j ∈ mfrz l, j ∉ [mb] := fun j hj e => (h.frz j hj).1 (by rw [List.mem_singleton] at e; subst e; simp [mfoot])
 have hz : ∀ {v : Value}, (∀ j ∈ vblk v, j ∈ mfrz l) → ∀ a n c, v = .slice (some a) n c → a.block ∉ [mb] := fun hv => vblk_not fun j hj => hx j (hv j hj)
 refine ⟨hc, h.low, h.tab.keep k (fun j hj => hm (by simp [hj])), by rw [hV]; exact h.view, h.calls.keep k (fun j hj => hm (by simp [hj])), by rw [hcl]; exact h.cls, fun c hc => ⟨?_, ?_, ?_⟩, ?_, ?_, ?_, h.apart, fun j hj => ⟨(h.frz j hj).1, Nat.lt_of_lt_of_le (h.frz j hj).2 k.size⟩⟩
 ·exact (h.callS c hc).1.keep k (hz fun j hj => mem_kv hc (by simp [hj]))
 ·exact (h.callS c hc).2.1.keep k (hz fun j hj => mem_kv hc (by simp [hj]))
 ·exact (h.callS c hc).2.2.keep k (hz fun j hj => mem_kv hc (by simp [hj]))
 ·rw [hL]; exact h.code.keepF k (fun j hj => hx j (by simp [mfrz, hj]))
 ·rw [hD]; exact h.defs.keepF k (fun j hj => hx j (by simp [mfrz, hj]))
 ·rw [hd]; exact h.draws.keep k (hz fun j hj => by simp [mfrz, hj])
theorem MAt.cell (h : MAt w base mb σ l) (i : Nat) {v : Value} (hv : (rCells σ l)[i]? = some v) : w.cell? ⟨mb, i, none⟩ = some v := by
 rw [cO h.head]
 simpa using hv
theorem ten {d : Nat} (h : d ≤ 10) : d = 0 ∨ d = 1 ∨ d = 2 ∨ d = 3 ∨ d = 4 ∨ d = 5 ∨ d = 6 ∨ d = 7 ∨ d = 8 ∨ d = 9 ∨ d = 10 := by omega
def updN {α : Type} (f : Nat → α) (d : Nat) (x : α) : Nat → α := fun j => if j = d then x else f j
theorem rset_R (σ : RS) (l : RLay) {d : Nat} (hd : d ≤ 10) (n : Int) : (rCells σ l).set (1 + d) (.int .u64 n) = rCells { σ with R := updN σ.R d n } l := by
 rcases ten hd with rfl | rfl | rfl | rfl | rfl | rfl | rfl | rfl | rfl | rfl | rfl <;> simp [rCells, updN]
theorem rset_S (σ : RS) (l : RLay) {d : Nat} (hd : d ≤ 10) (n : Bool) : (rCells σ l).set (12 + d) (.bool n) = rCells { σ with S := updN σ.S d n } l := by
 rcases ten hd with rfl | rfl | rfl | rfl | rfl | rfl | rfl | rfl | rfl | rfl | rfl <;> simp [rCells, updN]
end
structure MRel (F0 Z0 : List Nat) (wf : World) (base : Nat) (w : World) (mb : Nat) (σ : RS) : Prop where
 keep : Keep F0 wf w
 low : base ≤ wf.heap.size
 lay : ∃ l, MAt w base mb σ l ∧ (∀ j ∈ mfoot mb l, j ∈ F0 ∨ wf.heap.size ≤ j) ∧ ∀ j ∈ mfrz l, j ∈ Z0 ∨ wf.heap.size ≤ j
section
variable {F0 Z0 : List Nat} {wf w w' : World} {base mb : Nat} {σ : RS}
theorem MRel.go (h : MRel F0 Z0 wf base w mb σ) (k : Ext w w') : MRel F0 Z0 wf base w' mb σ := by
 obtain ⟨h0, hl, l, h1, h2, h3⟩ := h
 exact ⟨h0.through (F := []) (Keep.of_ext k) (fun _ hj => by cases hj), hl, l, h1.ext k, h2, h3⟩
theorem MRel.turn (h : MRel F0 Z0 wf base w mb σ) {σ' : RS} (k : Keep [mb] w w') (hc : ∀ l, MAt w base mb σ l → w'.heap[mb]? = some (.cells (rCells σ' l).toArray 50 (0, 0))) (hV : σ'.V = σ.V := by rfl) (hL : σ'.L = σ.L := by rfl) (hD : σ'.D = σ.D := by rfl) (hd : σ'.dr = σ.dr := by rfl) (hcl : σ'.calls = σ.calls := by rfl) : MRel F0 Z0 wf base w' mb σ' := by
 obtain ⟨h0, hl, l, h1, h2, h3⟩ := h
 exact ⟨h0.through k (fun j hj => by rw [List.mem_singleton] at hj; subst hj; exact h2 _ (by simp [mfoot])), hl, l, h1.cells k (hc l h1) hV hL hD hd hcl, h2, h3⟩
theorem MRel.lt (h : MRel F0 Z0 wf base w mb σ) : mb < w.heap.size := by
 obtain ⟨h0, hl, l, h1, h2, h3⟩ := h
 exact heap_lt h1.head
end
end Go.Proofs.YtppefchjoodgnaaGreat
