/- What the claim leans on: Tail · CoA. -/
import Derived.Test.YtppefchjoodgnaaGreatPN01
import Derived.StillTail
import Derived.Test.YtppefchjoodgnaaGreatPN13
import Derived.BigRegion
import Derived.Deep.RegionHeld3
namespace Go.Proofs.YtppefchjoodgnaaGreat
open Go.RowKit
set_option linter.unusedVariables false
set_option linter.unusedSimpArgs false
section
variable {P : Program} {ops : Array Oper} {md : Region.Mode} {C : World → Prop}
def headQ (P : Program) (md : Region.Mode) (ops : Array Oper) (C : World → Prop) (n : Nat) (L : Array Bool → Act → Prop) : Nat → Array Bool → Act → Prop
 | 0, listed, a => L listed a
 | f + 1, listed, a =>
  Region.ready md ops listed ≠ [] ∧ ∀ i ∈ Region.ready md ops listed, i < n ∧ qOp P ops C i (headQ P md ops C n L f (listed.setIfInBounds i true)) a
theorem any_of_headQ {n g : Nat} {L : Array Bool → Act → Prop} {Q' : Exit → Act → World → Prop} (hL : ∀ listed a w, C w → L listed a → wpAny P md ops Q' g listed a w) :
  ∀ (f : Nat) (listed : Array Bool) (a : Act) (w : World), C w → headQ P md ops C n L f listed a → wpAny P md ops Q' (f + g) listed a w
 | 0, listed, a, w, hw, h => by rw [Nat.zero_add]; exact hL _ _ _ hw h
 | f + 1, listed, a, w, hw, h => by
  rw [show f + 1 + g = (f + g) + 1 by omega]
  exact ⟨fun h0 => absurd h0 h.1, fun i hi => wpOp_of_qOp hw (fun a' w' hw' h' => any_of_headQ hL f _ a' w' hw' h') (h.2 i hi).2⟩
theorem headQ_first {n i : Nat} {oi : Oper} {v : Value} {L : Array Bool → Act → Prop} (hi : ops[i]? = some oi) (hsel : ∀ (j : Nat) (o : Oper) cs b, ops[j]? = some o → o.op ≠ .select cs b)
  (hs : Region.sinkB md ops n = true) (hc : Region.chainB md ops n = true) (hn : n < ops.size) (hin : i < n)
  (hdone : ∀ listed a, L listed a → ∀ j ∈ Region.ready md ops listed, n ≤ j) :
  ∀ (f : Nat) (listed : Array Bool) (a : Act), HeadInv md ops n listed →
   (∀ j oj, ops[j]? = some oj → j ≠ i → listed.getD j true = false → (∀ e ∈ oj.after, Region.binds md e = true → e.on ≠ i) → oi.apart ops oj = true) →
   i ∈ Region.ready md ops listed → YieldsIn P ops C oi v a →
   headQ P md ops C n L f (listed.setIfInBounds i true) (a.put oi.dst v) → headQ P md ops C n L (f + 1) listed a := by
 intro f
 induction f with
 | zero =>
  intro listed a inv _ hr hy H
  have hun := (mem_ready.1 hr).1
  refine ⟨fun h => (by rw [h] at hr; cases hr), fun j hj => ?_⟩
  have hjn : j < n := by
   rcases Nat.lt_or_ge j n with h | h
   ·exact h
   ·exact absurd hj (tail_waits hs hc hn inv _ i rfl hin hun j h)
  refine ⟨hjn, ?_⟩
  by_cases hji : j = i
  ·subst hji; exact hy.qOp hi H
  ·have := hdone _ _ H j (ready_mono hj hji)
   omega
 | succ f ih =>
  intro listed a inv hfree hr hy H
  have hun := (mem_ready.1 hr).1
  refine ⟨fun h => (by rw [h] at hr; cases hr), fun j hj => ?_⟩
  have hjn : j < n := by
   rcases Nat.lt_or_ge j n with h | h
   ·exact h
   ·exact absurd hj (tail_waits hs hc hn inv _ i rfl hin hun j h)
  refine ⟨hjn, ?_⟩
  by_cases hji : j = i
  ·subst hji; exact hy.qOp hi H
  ·have h1 := (H.2 j (ready_mono hj hji)).2
   obtain ⟨hjun, oj, hoj, hall⟩ := mem_ready.1 hj
   have hnot : ∀ e ∈ oj.after, Region.binds md e = true → e.on ≠ i := fun e he hb heq => by
    have h1 := hall e he hb
    rw [heq, getD_both hun] at h1
    cases h1
   have h2 := qOp_put hoj (hfree j oj hoj hji hjun hnot) (fun cs b => hsel i oi cs b hi) (fun cs b => hsel j oj cs b hoj) hy h1
   have hfree' : ∀ k ok, ops[k]? = some ok → k ≠ i → (listed.setIfInBounds j true).getD k true = false →
     (∀ e ∈ ok.after, Region.binds md e = true → e.on ≠ i) → oi.apart ops ok = true := fun k ok hk hki hun hno => by
    refine hfree k ok hk hki ?_ hno
    by_cases hjk : j = k
    ·subst hjk; exact hjun
    ·rw [getD_set_ne true hjk] at hun; exact hun
   refine qOp_mono (fun a' h3 => ih (listed.setIfInBounds j true) a' (inv.set hj hjn) hfree' (ready_mono hr (Ne.symm hji)) h3.1 ?_) h2
   rw [Array.setIfInBounds_comm _ _ hji]
   exact h3.2
theorem headQ_lex {n g : Nat} {Lq : Act → Prop} (hsel : Region.noSelect ops = true) (hs : Region.sinkB md ops n = true) (hc : Region.chainB md ops n = true) (hn : n < ops.size) :
  ∀ (l : List Oper) (k : Nat) (listed : Array Bool) (a : Act), (∀ j, j < l.length → l[j]? = ops[k + j]?) → k + l.length = n → HeadInv md ops n listed →
  Region.lexHead md ops g l.length k listed = true → wpQuiet P ops C Lq l a →
  headQ P md ops C n (fun listed' a' => Region.seqB md ops g n listed' = true ∧ Lq a') l.length listed a
 | [], k, listed, a, _, hk, _, hB, h => by
  have : k = n := by simpa using hk
  subst this
  exact ⟨by simpa [Region.lexHead] using hB, h⟩
 | o :: l, k, listed, a, hl, hk, inv, hB, h => by
  have h0 : ops[k]? = some o := by simpa using (hl 0 (by simp)).symm
  simp only [List.length_cons, Region.lexHead, Bool.and_eq_true] at hB
  obtain ⟨⟨hr, hf⟩, hB'⟩ := hB
  have hkn : k < n := by simp only [List.length_cons] at hk; omega
  have hr' : k ∈ Region.ready md ops listed := by simpa using hr
  have hst : qOp P ops C k (wpQuiet P ops C Lq l) a := by unfold qOp; simp only [h0]; exact h
  obtain ⟨v, hy, hK⟩ := yieldsIn_of_qOp h0 hst
  exact headQ_first h0 (Region.noSelect_spec hsel) hs hc hn hkn (fun listed' a' hL => seqB_ready hL.1) l.length listed a inv (Region.free_spec h0 hf) hr' hy
   (headQ_lex hsel hs hc hn l (k + 1) _ _ (fun j hj => by have := hl (j + 1) (by simp; omega); simpa [Nat.add_assoc, Nat.add_comm 1 j] using this) (by simp only [List.length_cons] at hk; omega) (inv.set hr' hkn) hB' hK)
theorem wp_region_class_tail {id : Nat} {Q : Exit → Act → World → Prop} {a : Act} {w : World} {l : List Oper} (n : Nat) (hm : P.follows .mixedOrders = true) (hB : Region.lexTailB .any l.toArray n = true) (hC : C { w with drawn := w.drawn + 1 })
  (h : wpQuiet P l.toArray C (fun a' => ∀ w', C w' → wpList P l.toArray Q (l.drop n) a' w') (l.take n) a) : (Code.region id l.toArray true).wp P Q a w := by
 simp only [Region.lexTailB, Bool.and_eq_true, decide_eq_true_eq] at hB
 obtain ⟨⟨⟨⟨hsel, hn⟩, hs⟩, hc⟩, hlex⟩ := hB
 have hn' : n < l.length := by simpa using hn
 have htl : (l.take n).length = n := by simp; omega
 have hdl : (l.drop n).length = l.toArray.size - n := by simp
 have inv0 : HeadInv .any l.toArray n (Array.replicate l.toArray.size false) :=
  ⟨by simp, fun j oj _ hl => (by rw [getD_replicate_false] at hl; cases hl), fun t _ ht => getD_in (by simpa using ht) (getD_replicate_false _ _)⟩
 have H := headQ_lex (md := .any) (g := l.toArray.size - n) (C := C) hsel hs hc hn (l.take n) 0 _ a (fun j hj => by
  have hj' : j < n := by rw [htl] at hj; exact hj
  simp [hj']) (by simpa using htl) inv0 (by rw [htl]; exact hlex) h
 refine wp_region_any hm ?_
 have := any_of_headQ (Q' := Q) (g := l.toArray.size - n) (fun listed a' w' hw' hL => by
  have := wpAny_of_seq (md := .any) (Q' := Q) (l.drop n) n listed a' w' (fun j => by simp [List.getElem?_drop]) (by rw [hdl]; exact hL.1) (hL.2 w' hw')
  rwa [hdl] at this) _ _ _ _ hC H
 rw [htl, show n + (l.toArray.size - n) = l.toArray.size by omega] at this
 exact this
end
structure Grow (W : World) where
 val : World
 ext : Ext W val
instance (W : World) : Nonempty (Grow W) := ⟨⟨W, Ext.rfl' W⟩⟩
theorem Grow.cell {W : World} {a : Addr} {v : Value} (h : W.cell? a = some v) : ∀ n : Grow W, n.val.cell? a = some v := fun n => n.ext.cellOf h
theorem Calls.grow {P : Program} {f : FuncId} {args : Array Value} {W : World} {n : Grow W} {v : Value} (h : Calls P f args n.val fun e w' => e = .returned v ∧ Ext n.val w') :
  Calls P f args n.val fun e w'' => e = .returned v ∧ ∃ m : Grow W, w'' = m.val :=
 h.mono fun _ w' ⟨he, hE⟩ => ⟨he, ⟨w', n.ext.trans' hE⟩, rfl⟩
theorem Calls.grow1 {P : Program} {f : FuncId} {args : Array Value} {W : World} {n : Grow W} {v : Value} {o : Obj} (h : Calls P f args n.val fun e w' => e = .returned v ∧ w' = n.val.alloc o) :
  Calls P f args n.val fun e w'' => e = .returned v ∧ ∃ m : Grow W, w'' = m.val :=
 h.mono fun _ w' ⟨he, hE⟩ => ⟨he, ⟨w', by subst hE; exact n.ext.alloc' o⟩, rfl⟩
theorem wp_region_ext_tail {P : Program} {id : Nat} {Q : Exit → Act → World → Prop} {a : Act} {w : World} {l : List Oper} (n : Nat) (hm : P.follows .mixedOrders = true) (hB : Region.lexTailB .any l.toArray n = true)
  (h : wpQuiet P l.toArray (fun w' => ∃ n : Grow w, w' = n.val) (fun a' => ∀ w', (∃ n : Grow w, w' = n.val) → wpList P l.toArray Q (l.drop n) a' w') (l.take n) a) : (Code.region id l.toArray true).wp P Q a w :=
 wp_region_class_tail (C := fun w' => ∃ n : Grow w, w' = n.val) n hm hB ⟨⟨_, Ext.drew' (Ext.rfl' w)⟩, rfl⟩ h
theorem wp_region_grow {P : Program} {id : Nat} {Q : Exit → Act → World → Prop} {a : Act} {w : World} {l : List Oper} (hm : P.follows .mixedOrders = true) (hB : Region.lexB .any l.toArray = true)
  (h : wpQuiet P l.toArray (fun w' => ∃ n : Grow w, w' = n.val) (fun a' => ∀ w', (∃ n : Grow w, w' = n.val) → Q .normal a' w') l a) : (Code.region id l.toArray true).wp P Q a w :=
 wp_region_quiet (C := fun w' => ∃ n : Grow w, w' = n.val) hm hB ⟨⟨_, Ext.drew' (Ext.rfl' w)⟩, rfl⟩ (by simpa using h)
def g9 (h : Int) : Bool := h == 0 || (h == 16 || (h == 32 || (h == 64 || (h == 80 || (h == 160 || (h == 96 || (h == 112 || h == 192)))))))
def g2 (h : Int) : Bool := h == 48 || h == 144
def arithT (x : Ins) (h : Int) (wd rg : Bool) : Option Wh :=
 if g9 h = true then (if x.off = 0 then some ⟨1, h, wd, rg, false, 0⟩ else none)
 else if g2 h = true then (if x.off = 0 ∨ x.off = 1 then some ⟨1, h, wd, rg, false, 0⟩ else none)
 else if h = 128 then (if rg = false ∧ zerosS x true true true = true then some ⟨1, h, wd, rg, false, 0⟩ else none)
 else if h = 176 then (if x.off = 0 ∨ (rg = true ∧ (x.off = 8 ∨ x.off = 16 ∨ (x.off = 32 ∧ wd = true))) then some ⟨1, h, wd, rg, false, 0⟩ else none)
 else none
theorem arith_ok (x : Ins) (h : Int) (wd rg ok : Bool) (hok : ok = ((x.dst != 10) && zerosS x (!rg) false rg)) : arithS x h wd rg = if ok = true then arithT x h wd rg else none := by
 unfold arithS arithT g9 g2
 simp only [Bool.or_eq_true, beq_iff_eq]
 subst hok
 by_cases h1 : x.dst = 10
 ·rw [if_pos h1]; simp [h1]
 ·rw [if_neg h1]
  cases h2 : zerosS x (!rg) false rg <;> simp [h1]
theorem arith_mv (x : Ins) (wd : Bool) : (x.off == 8 || (x.off == 16 || (x.off == 32 && wd))) = true ↔ (x.off = 8 ∨ x.off = 16 ∨ (x.off = 32 ∧ wd = true)) := by
 simp only [Bool.or_eq_true, Bool.and_eq_true, beq_iff_eq]
set_option maxRecDepth 20000 in
set_option maxHeartbeats 4000000 in
theorem p_arith (x : Ins) (w : World) (hx : x.Ok) : Calls Tryz.prog 117 #[x.agg] w (WhA (arithS x (x.op / 16 * 16) (x.op % 8 == 7) (x.op / 8 % 2 == 1)) w) := by
 have e1 : bits .and .u8 x.op 240 = x.op / 16 * 16 := byte_all (fun x => bits .and .u8 x 240 = x / 16 * 16) (by decide +kernel) x.op hx.op
 have e2 : bits .and .u8 x.op 8 = x.op / 8 % 2 * 8 := byte_all (fun x => bits .and .u8 x 8 = x / 8 % 2 * 8) (by decide +kernel) x.op hx.op
 have e3 : (x.op / 8 % 2 * 8 != 0) = (x.op / 8 % 2 == 1) := byte_all (fun x => (x / 8 % 2 * 8 != 0) = (x / 8 % 2 == 1)) (by decide +kernel) x.op hx.op
 have HOP := η hx.op
 obtain ⟨h, hh⟩ : ∃ h, x.op / 16 * 16 = h := ⟨_, rfl⟩
 obtain ⟨r, hr⟩ : ∃ r, x.op / 8 % 2 * 8 = r := ⟨_, rfl⟩
 obtain ⟨rg, hrg⟩ : ∃ rg, (x.op / 8 % 2 == 1) = rg := ⟨_, rfl⟩
 obtain ⟨c, hc⟩ : ∃ c, x.op % 8 = c := ⟨_, rfl⟩
 obtain ⟨wd, hwd⟩ : ∃ wd, (c == 7) = wd := ⟨_, rfl⟩
 have HC := η hc
 rw [hh] at e1
 rw [hr] at e2
 rw [hr, hrg] at e3
 rw [hh, hrg, hc, hwd]
 have h16 : h = 0 ∨ h = 16 ∨ h = 32 ∨ h = 48 ∨ h = 64 ∨ h = 80 ∨ h = 96 ∨ h = 112 ∨ h = 128 ∨ h = 144 ∨ h = 160 ∨ h = 176 ∨ h = 192 ∨ h = 208 ∨ h = 224 ∨ h = 240 := by have := hx.op; omega
 have H16 := η h16
 clear hh hr hrg hc h16
 go_enter Tryz.func117, Tryz.ntmps117
 go_wp2_with fail
 go_cut [4] (fun v wx => ∃ q, v = .pointer (some ⟨q, 0, none⟩) ∧ Hid (Ext w wx ∧ wx.heap[w.heap.size]? = some (insObj x) ∧ wx.heap[w.heap.size + 1]? = some (whObj Wh.zero) ∧ wx.heap[q]? = some (whObj ⟨1, h, wd, rg, false, 0⟩) ∧ w.heap.size + 1 < q))
 case first =>
  go_region_held3 (fun w' => w'.cell? ⟨w.heap.size, 0, none⟩ = some (.int .u8 x.op) ∧ w'.cell? ⟨w.heap.size, 1, none⟩ = some (.int .u8 x.dst) ∧ w'.cell? ⟨w.heap.size, 2, none⟩ = some (.int .u8 x.src) ∧ w'.cell? ⟨w.heap.size, 3, none⟩ = some (.int .i16 x.off) ∧ w'.cell? ⟨w.heap.size, 4, none⟩ = some (.int .i32 x.imm))
   (go_keep)
   ((go_at_call 116; refine (p_class x _ HOP.out).mono ?_; rw [HC.out]; rintro e w5 ⟨rfl, rfl⟩))
  all_goals
   go_wp2_with fail
   go_meet
   refine ⟨_, rfl, η ⟨by (repeat (first|exact xE0 _|assumption|refine xE1 ?_ _|refine xE2 ?_|refine xE3 ?_ _|refine xE4 ?_ (by assumption))), ?_, ?_, ?_, ?_⟩⟩
   ·(repeat (first | (refine obj_top _ _ ?_; simp; done) | refine obj_old _ ?_))
   ·(repeat (first | (refine obj_top _ _ ?_; simp; done) | refine obj_old _ ?_))
   ·(repeat (first | (refine obj_top _ _ ?_; simp; done) | refine obj_old _ ?_))
   ·omega
 case rest =>
  obtain ⟨q, rfl, HW⟩ := hcut
  go_upto_region 2 with fail
  go_cut [5] (fun v wx => ∃ ok : Bool, v = .bool ok ∧ Hid (Ext wc wx ∧ ok = ((x.dst != 10) && zerosS x (!rg) false rg)))
  case first =>
   obtain ⟨hE, o1, o2, o3, hq⟩ := HW.out
   have l0 := heap_lt o1
   have a0 := cO (i := 0) o1
   have a1 := cO (i := 1) o1
   have a2 := cO (i := 2) o1
   have a3 := cO (i := 3) o1
   have a4 := cO (i := 4) o1
   have q3 := cO (i := 3) o3
   simp only [gA, gB, gC] at a0 a1 a2 a3 a4 q3
   clear o1 o2 o3 hE
   by_cases hd : x.dst = 10
   ·have d10 : (x.dst != 10) = false := by simpa using hd
    clear hd
    go_wp2_with fail
    go_meet
    exact ⟨false, rfl, η ⟨Ext.rfl' _, by rw [d10]; rfl⟩⟩
   ·have d10 : (x.dst != 10) = true := by simpa using hd
    clear hd
    go_wp2_with fail
    refine (p_zeros x (!rg) false rg _).mono ?_
    rintro e w5 ⟨rfl, rfl⟩
    go_wp2_with fail
    go_meet
    exact ⟨_, rfl, η ⟨by (repeat (first|exact xE0 _|assumption|refine xE1 ?_ _|refine xE2 ?_|refine xE3 ?_ _|refine xE4 ?_ (by assumption))), by rw [d10, Bool.true_and]⟩⟩
  case rest =>
   obtain ⟨ok, rfl, HOK⟩ := hcut
   obtain ⟨hE, o1, o2, o3, hq⟩ := HW.out
   replace o1 := HOK.out.1.obj o1
   replace o2 := HOK.out.1.obj o2
   replace o3 := HOK.out.1.obj o3
   have HE := η (hE.trans' HOK.out.1)
   have HAR := η (arith_ok x h wd rg ok HOK.out.2)
   have HO1 := η o1
   have HO2 := η o2
   have HO3 := η o3
   have HSF := η (set6 o2 HE.out (Nat.le_succ _) 1 h wd rg false 0)
   have q1 := cO (i := 1) o3
   simp only [gA, gB, gC] at q1
   clear o1 o2 o3 hE HOK hq
   go_upto_if 32 with fail
   go_cut [32] (fun v wx => v = .bool (g9 h) ∧ wx = wc)
   case first =>
    go_wp2_with fail
    all_goals
     go_meet
     exact ⟨by simp only [g9, *, Bool.or_false, Bool.false_or, Bool.true_or, Bool.or_true], rfl⟩
   case rest =>
    obtain ⟨rfl, rfl⟩ := hcut
    clear q1
    obtain ⟨z, hz⟩ : ∃ z, (x.off == 0) = z := ⟨_, rfl⟩
    cases hg : g9 h with
    | true =>
     have HG := η hg
     clear hg
     (have o1 := HO1.out; have o2 := HO2.out; have o3 := HO3.out; have a0 := cO (i := 0) o1; have a1 := cO (i := 1) o1; have a2 := cO (i := 2) o1; have a3 := cO (i := 3) o1; have a4 := cO (i := 4) o1; have b0 := cO (i := 0) o2; have b1 := cO (i := 1) o2; have b2 := cO (i := 2) o2; have b3 := cO (i := 3) o2; have b4 := cO (i := 4) o2; have b5 := cO (i := 5) o2; have bf := fun i => frozen_obj (i := i) o2; have q0 := cO (i := 0) o3; have q1 := cO (i := 1) o3; have q2 := cO (i := 2) o3; have q3 := cO (i := 3) o3; have q4 := cO (i := 4) o3; have q5 := cO (i := 5) o3; simp only [gA, gB, gC] at a0 a1 a2 a3 a4 b0 b1 b2 b3 b4 b5 q0 q1 q2 q3 q4 q5; clear o1 o2 o3)
     cases ok with
     | false =>
      have HA : Hid (arithS x h wd rg = none) := η (by rw [HAR.out]; rfl)
      go_wp2_with fail
      go_region
      all_goals
       (have hsf := HSF.out; generalize hF : (World.setCell (World.setCell (World.setCell (World.setCell (World.setCell (World.setCell wc ⟨w.heap.size + 1, 0, none⟩ (.int .u8 1)) ⟨w.heap.size + 1, 1, none⟩ (.int .u8 h)) ⟨w.heap.size + 1, 2, none⟩ (.bool wd)) ⟨w.heap.size + 1, 3, none⟩ (.bool rg)) ⟨w.heap.size + 1, 4, none⟩ (.bool false)) ⟨w.heap.size + 1, 5, none⟩ (.int .i64 0)) = wF at hsf ⊢; obtain ⟨hs, he⟩ := hsf; clear hF; (try simp only [Exit.then]); (repeat (first | go_skip | go_step)); have r0 := cO (i := 0) hs; have r1 := cO (i := 1) hs; have r2 := cO (i := 2) hs; have r3 := cO (i := 3) hs; have r4 := cO (i := 4) hs; have r5 := cO (i := 5) hs; simp only [gA, gB, gC] at r0 r1 r2 r3 r4 r5; refine bodyPost_ret (by simp [results, Tryz.results117, go_sem, r0, r1, r2, r3, r4, r5]; try rfl) rfl ?_)
       exact ⟨⟨1, h, wd, rg, false, 0⟩, false, rfl, HA.out, by (repeat (first|exact xE0 _|assumption|refine xE1 ?_ _|refine xE2 ?_|refine xE3 ?_ _|refine xE4 ?_ (by assumption)))⟩
     | true =>
      have HA : Hid (arithS x h wd rg = if z then some ⟨1, h, wd, rg, false, 0⟩ else none) := η (by rw [HAR.out, if_pos rfl, arithT, if_pos HG.out, ← hz]; simp only [beq_iff_eq])
      go_wp2_with fail
      go_region
      all_goals
       (have hsf := HSF.out; generalize hF : (World.setCell (World.setCell (World.setCell (World.setCell (World.setCell (World.setCell wc ⟨w.heap.size + 1, 0, none⟩ (.int .u8 1)) ⟨w.heap.size + 1, 1, none⟩ (.int .u8 h)) ⟨w.heap.size + 1, 2, none⟩ (.bool wd)) ⟨w.heap.size + 1, 3, none⟩ (.bool rg)) ⟨w.heap.size + 1, 4, none⟩ (.bool false)) ⟨w.heap.size + 1, 5, none⟩ (.int .i64 0)) = wF at hsf ⊢; obtain ⟨hs, he⟩ := hsf; clear hF; (try simp only [Exit.then]); (repeat (first | go_skip | go_step)); have r0 := cO (i := 0) hs; have r1 := cO (i := 1) hs; have r2 := cO (i := 2) hs; have r3 := cO (i := 3) hs; have r4 := cO (i := 4) hs; have r5 := cO (i := 5) hs; simp only [gA, gB, gC] at r0 r1 r2 r3 r4 r5; refine bodyPost_ret (by simp [results, Tryz.results117, go_sem, r0, r1, r2, r3, r4, r5]; try rfl) rfl ?_)
       exact ⟨⟨1, h, wd, rg, false, 0⟩, z, rfl, HA.out, by (repeat (first|exact xE0 _|assumption|refine xE1 ?_ _|refine xE2 ?_|refine xE3 ?_ _|refine xE4 ?_ (by assumption)))⟩
    | false =>
     have HG := η hg
     clear hg
     have q1 := cO (i := 1) HO3.out
     simp only [gA, gB, gC] at q1
     go_upto_if 49 with fail
     go_cut [49] (fun v wx => v = .bool (g2 h) ∧ wx = wc)
     case first =>
      go_wp2_with fail
      all_goals
       go_meet
       exact ⟨by simp only [g2, *, Bool.or_false, Bool.false_or, Bool.true_or, Bool.or_true], rfl⟩
     case rest =>
      obtain ⟨rfl, rfl⟩ := hcut
      cases hg : g2 h with
      | true =>
       have HG2 := η hg
       clear hg q1
       (have o1 := HO1.out; have o2 := HO2.out; have o3 := HO3.out; have a0 := cO (i := 0) o1; have a1 := cO (i := 1) o1; have a2 := cO (i := 2) o1; have a3 := cO (i := 3) o1; have a4 := cO (i := 4) o1; have b0 := cO (i := 0) o2; have b1 := cO (i := 1) o2; have b2 := cO (i := 2) o2; have b3 := cO (i := 3) o2; have b4 := cO (i := 4) o2; have b5 := cO (i := 5) o2; have bf := fun i => frozen_obj (i := i) o2; have q0 := cO (i := 0) o3; have q1 := cO (i := 1) o3; have q2 := cO (i := 2) o3; have q3 := cO (i := 3) o3; have q4 := cO (i := 4) o3; have q5 := cO (i := 5) o3; simp only [gA, gB, gC] at a0 a1 a2 a3 a4 b0 b1 b2 b3 b4 b5 q0 q1 q2 q3 q4 q5; clear o1 o2 o3)
       obtain ⟨z1, hz1⟩ : ∃ z, (x.off == 1) = z := ⟨_, rfl⟩
       cases ok with
       | false =>
        have HA : Hid (arithS x h wd rg = none) := η (by rw [HAR.out]; rfl)
        go_wp2_with fail
        go_region
        all_goals
         (have hsf := HSF.out; generalize hF : (World.setCell (World.setCell (World.setCell (World.setCell (World.setCell (World.setCell wc ⟨w.heap.size + 1, 0, none⟩ (.int .u8 1)) ⟨w.heap.size + 1, 1, none⟩ (.int .u8 h)) ⟨w.heap.size + 1, 2, none⟩ (.bool wd)) ⟨w.heap.size + 1, 3, none⟩ (.bool rg)) ⟨w.heap.size + 1, 4, none⟩ (.bool false)) ⟨w.heap.size + 1, 5, none⟩ (.int .i64 0)) = wF at hsf ⊢; obtain ⟨hs, he⟩ := hsf; clear hF; (try simp only [Exit.then]); (repeat (first | go_skip | go_step)); have r0 := cO (i := 0) hs; have r1 := cO (i := 1) hs; have r2 := cO (i := 2) hs; have r3 := cO (i := 3) hs; have r4 := cO (i := 4) hs; have r5 := cO (i := 5) hs; simp only [gA, gB, gC] at r0 r1 r2 r3 r4 r5; refine bodyPost_ret (by simp [results, Tryz.results117, go_sem, r0, r1, r2, r3, r4, r5]; try rfl) rfl ?_)
         exact ⟨⟨1, h, wd, rg, false, 0⟩, false, rfl, HA.out, by (repeat (first|exact xE0 _|assumption|refine xE1 ?_ _|refine xE2 ?_|refine xE3 ?_ _|refine xE4 ?_ (by assumption)))⟩
       | true =>
        have HA : Hid (arithS x h wd rg = if (z || z1) then some ⟨1, h, wd, rg, false, 0⟩ else none) := η (by rw [HAR.out, if_pos rfl, arithT, if_neg (by rw [HG.out]; decide), if_pos HG2.out, ← hz, ← hz1]; simp only [Bool.or_eq_true, beq_iff_eq])
        cases z
        ·go_wp2_with fail
         go_region
         all_goals
          (have hsf := HSF.out; generalize hF : (World.setCell (World.setCell (World.setCell (World.setCell (World.setCell (World.setCell wc ⟨w.heap.size + 1, 0, none⟩ (.int .u8 1)) ⟨w.heap.size + 1, 1, none⟩ (.int .u8 h)) ⟨w.heap.size + 1, 2, none⟩ (.bool wd)) ⟨w.heap.size + 1, 3, none⟩ (.bool rg)) ⟨w.heap.size + 1, 4, none⟩ (.bool false)) ⟨w.heap.size + 1, 5, none⟩ (.int .i64 0)) = wF at hsf ⊢; obtain ⟨hs, he⟩ := hsf; clear hF; (try simp only [Exit.then]); (repeat (first | go_skip | go_step)); have r0 := cO (i := 0) hs; have r1 := cO (i := 1) hs; have r2 := cO (i := 2) hs; have r3 := cO (i := 3) hs; have r4 := cO (i := 4) hs; have r5 := cO (i := 5) hs; simp only [gA, gB, gC] at r0 r1 r2 r3 r4 r5; refine bodyPost_ret (by simp [results, Tryz.results117, go_sem, r0, r1, r2, r3, r4, r5]; try rfl) rfl ?_)
          exact ⟨⟨1, h, wd, rg, false, 0⟩, _, rfl, HA.out, by (repeat (first|exact xE0 _|assumption|refine xE1 ?_ _|refine xE2 ?_|refine xE3 ?_ _|refine xE4 ?_ (by assumption)))⟩
        ·go_wp2_with fail
         go_region
         all_goals
          (have hsf := HSF.out; generalize hF : (World.setCell (World.setCell (World.setCell (World.setCell (World.setCell (World.setCell wc ⟨w.heap.size + 1, 0, none⟩ (.int .u8 1)) ⟨w.heap.size + 1, 1, none⟩ (.int .u8 h)) ⟨w.heap.size + 1, 2, none⟩ (.bool wd)) ⟨w.heap.size + 1, 3, none⟩ (.bool rg)) ⟨w.heap.size + 1, 4, none⟩ (.bool false)) ⟨w.heap.size + 1, 5, none⟩ (.int .i64 0)) = wF at hsf ⊢; obtain ⟨hs, he⟩ := hsf; clear hF; (try simp only [Exit.then]); (repeat (first | go_skip | go_step)); have r0 := cO (i := 0) hs; have r1 := cO (i := 1) hs; have r2 := cO (i := 2) hs; have r3 := cO (i := 3) hs; have r4 := cO (i := 4) hs; have r5 := cO (i := 5) hs; simp only [gA, gB, gC] at r0 r1 r2 r3 r4 r5; refine bodyPost_ret (by simp [results, Tryz.results117, go_sem, r0, r1, r2, r3, r4, r5]; try rfl) rfl ?_)
          exact ⟨⟨1, h, wd, rg, false, 0⟩, _, rfl, HA.out, by (repeat (first|exact xE0 _|assumption|refine xE1 ?_ _|refine xE2 ?_|refine xE3 ?_ _|refine xE4 ?_ (by assumption)))⟩
      | false =>
       have HG2 := η hg
       clear hg
       have q1 := cO (i := 1) HO3.out
       simp only [gA, gB, gC] at q1
       obtain ⟨k1, hk1⟩ : ∃ z, (h == 128) = z := ⟨_, rfl⟩
       obtain ⟨k2, hk2⟩ : ∃ z, (h == 176) = z := ⟨_, rfl⟩
       cases k1 with
       | true =>
        have K1 := η hk1
        (have o1 := HO1.out; have o2 := HO2.out; have o3 := HO3.out; have a0 := cO (i := 0) o1; have a1 := cO (i := 1) o1; have a2 := cO (i := 2) o1; have a3 := cO (i := 3) o1; have a4 := cO (i := 4) o1; have b0 := cO (i := 0) o2; have b1 := cO (i := 1) o2; have b2 := cO (i := 2) o2; have b3 := cO (i := 3) o2; have b4 := cO (i := 4) o2; have b5 := cO (i := 5) o2; have bf := fun i => frozen_obj (i := i) o2; have q0 := cO (i := 0) o3; have q1 := cO (i := 1) o3; have q2 := cO (i := 2) o3; have q3 := cO (i := 3) o3; have q4 := cO (i := 4) o3; have q5 := cO (i := 5) o3; simp only [gA, gB, gC] at a0 a1 a2 a3 a4 b0 b1 b2 b3 b4 b5 q0 q1 q2 q3 q4 q5; clear o1 o2 o3)
        cases ok with
        | false =>
         have HA : Hid (arithS x h wd rg = none) := η (by rw [HAR.out]; rfl)
         go_wp2_with fail
         go_region
         all_goals
          (have hsf := HSF.out; generalize hF : (World.setCell (World.setCell (World.setCell (World.setCell (World.setCell (World.setCell wc ⟨w.heap.size + 1, 0, none⟩ (.int .u8 1)) ⟨w.heap.size + 1, 1, none⟩ (.int .u8 h)) ⟨w.heap.size + 1, 2, none⟩ (.bool wd)) ⟨w.heap.size + 1, 3, none⟩ (.bool rg)) ⟨w.heap.size + 1, 4, none⟩ (.bool false)) ⟨w.heap.size + 1, 5, none⟩ (.int .i64 0)) = wF at hsf ⊢; obtain ⟨hs, he⟩ := hsf; clear hF; (try simp only [Exit.then]); (repeat (first | go_skip | go_step)); have r0 := cO (i := 0) hs; have r1 := cO (i := 1) hs; have r2 := cO (i := 2) hs; have r3 := cO (i := 3) hs; have r4 := cO (i := 4) hs; have r5 := cO (i := 5) hs; simp only [gA, gB, gC] at r0 r1 r2 r3 r4 r5; refine bodyPost_ret (by simp [results, Tryz.results117, go_sem, r0, r1, r2, r3, r4, r5]; try rfl) rfl ?_)
          exact ⟨⟨1, h, wd, rg, false, 0⟩, false, rfl, HA.out, by (repeat (first|exact xE0 _|assumption|refine xE1 ?_ _|refine xE2 ?_|refine xE3 ?_ _|refine xE4 ?_ (by assumption)))⟩
        | true =>
         cases rg with
         | true =>
          have HA : Hid (arithS x h wd true = none) := η (by rw [HAR.out, if_pos rfl, arithT, if_neg (by rw [HG.out]; decide), if_neg (by rw [HG2.out]; decide), if_pos (by simpa using K1.out)]; rfl)
          go_wp2_with fail
          go_region
          all_goals
           (have hsf := HSF.out; generalize hF : (World.setCell (World.setCell (World.setCell (World.setCell (World.setCell (World.setCell wc ⟨w.heap.size + 1, 0, none⟩ (.int .u8 1)) ⟨w.heap.size + 1, 1, none⟩ (.int .u8 h)) ⟨w.heap.size + 1, 2, none⟩ (.bool wd)) ⟨w.heap.size + 1, 3, none⟩ (.bool true)) ⟨w.heap.size + 1, 4, none⟩ (.bool false)) ⟨w.heap.size + 1, 5, none⟩ (.int .i64 0)) = wF at hsf ⊢; obtain ⟨hs, he⟩ := hsf; clear hF; (try simp only [Exit.then]); (repeat (first | go_skip | go_step)); have r0 := cO (i := 0) hs; have r1 := cO (i := 1) hs; have r2 := cO (i := 2) hs; have r3 := cO (i := 3) hs; have r4 := cO (i := 4) hs; have r5 := cO (i := 5) hs; simp only [gA, gB, gC] at r0 r1 r2 r3 r4 r5; refine bodyPost_ret (by simp [results, Tryz.results117, go_sem, r0, r1, r2, r3, r4, r5]; try rfl) rfl ?_)
           exact ⟨⟨1, h, wd, true, false, 0⟩, false, rfl, HA.out, by (repeat (first|exact xE0 _|assumption|refine xE1 ?_ _|refine xE2 ?_|refine xE3 ?_ _|refine xE4 ?_ (by assumption)))⟩
         | false =>
          obtain ⟨zs, hzs⟩ : ∃ z, zerosS x true true true = z := ⟨_, rfl⟩
          have HA : Hid (arithS x h wd false = if zs then some ⟨1, h, wd, false, false, 0⟩ else none) := η (by rw [HAR.out, if_pos rfl, arithT, if_neg (by rw [HG.out]; decide), if_neg (by rw [HG2.out]; decide), if_pos (by simpa using K1.out), hzs]; simp)
          (have o1 := fun o => obj_old o HO1.out; have o2 := fun o => obj_old o HO2.out; have o3 := fun o => obj_old o HO3.out; have a0o := fun o => cO (i := 0) (o1 o); have a1o := fun o => cO (i := 1) (o1 o); have a2o := fun o => cO (i := 2) (o1 o); have a3o := fun o => cO (i := 3) (o1 o); have a4o := fun o => cO (i := 4) (o1 o); have b0o := fun o => cO (i := 0) (o2 o); have b1o := fun o => cO (i := 1) (o2 o); have b2o := fun o => cO (i := 2) (o2 o); have b3o := fun o => cO (i := 3) (o2 o); have b4o := fun o => cO (i := 4) (o2 o); have b5o := fun o => cO (i := 5) (o2 o); have bfo := fun o i => frozen_obj (i := i) (o2 o); have q0o := fun o => cO (i := 0) (o3 o); have q1o := fun o => cO (i := 1) (o3 o); have q2o := fun o => cO (i := 2) (o3 o); have q3o := fun o => cO (i := 3) (o3 o); have q4o := fun o => cO (i := 4) (o3 o); have q5o := fun o => cO (i := 5) (o3 o); simp only [gA, gB, gC] at a0o a1o a2o a3o a4o b0o b1o b2o b3o b4o b5o q0o q1o q2o q3o q4o q5o; clear o1 o2 o3)
          have HSF0 := HSF
          have HSF := η (set6 (obj_old (.cells #[.int .u8 x.op, .int .u8 x.dst, .int .u8 x.src, .int .i16 x.off, .int .i32 x.imm] 58) HO2.out) (HE.out.alloc' _) (Nat.le_succ _) 1 h wd false false 0)
          go_wp2_with fail
          go_region_law ((go_simp; go_at_call 155; refine (p_zerosE x true true true zs _ hzs).mono ?_; rintro e w5 ⟨rfl, rfl⟩))
          all_goals
           (have hsf := HSF.out; generalize hF : (World.setCell (World.setCell (World.setCell (World.setCell (World.setCell (World.setCell (World.alloc wc (.cells #[.int .u8 x.op, .int .u8 x.dst, .int .u8 x.src, .int .i16 x.off, .int .i32 x.imm] 58)) ⟨w.heap.size + 1, 0, none⟩ (.int .u8 1)) ⟨w.heap.size + 1, 1, none⟩ (.int .u8 h)) ⟨w.heap.size + 1, 2, none⟩ (.bool wd)) ⟨w.heap.size + 1, 3, none⟩ (.bool false)) ⟨w.heap.size + 1, 4, none⟩ (.bool false)) ⟨w.heap.size + 1, 5, none⟩ (.int .i64 0)) = wF at hsf ⊢; obtain ⟨hs, he⟩ := hsf; clear hF; (try simp only [Exit.then]); (repeat (first | go_skip | go_step)); have r0 := cO (i := 0) hs; have r1 := cO (i := 1) hs; have r2 := cO (i := 2) hs; have r3 := cO (i := 3) hs; have r4 := cO (i := 4) hs; have r5 := cO (i := 5) hs; simp only [gA, gB, gC] at r0 r1 r2 r3 r4 r5; refine bodyPost_ret (by simp [results, Tryz.results117, go_sem, r0, r1, r2, r3, r4, r5]; try rfl) rfl ?_)
           exact ⟨⟨1, h, wd, false, false, 0⟩, zs, rfl, HA.out, by (repeat (first|exact xE0 _|assumption|refine xE1 ?_ _|refine xE2 ?_|refine xE3 ?_ _|refine xE4 ?_ (by assumption)))⟩
       | false =>
        cases k2 with
        | true =>
         go_upto_region 20 with fail
         go_cut [6] (fun v wx => v = .bool (x.off == 8 || (x.off == 16 || (x.off == 32 && wd))) ∧ wx = wc)
         case first =>
          (have o1 := HO1.out; have o2 := HO2.out; have o3 := HO3.out; have a0 := cO (i := 0) o1; have a1 := cO (i := 1) o1; have a2 := cO (i := 2) o1; have a3 := cO (i := 3) o1; have a4 := cO (i := 4) o1; have b0 := cO (i := 0) o2; have b1 := cO (i := 1) o2; have b2 := cO (i := 2) o2; have b3 := cO (i := 3) o2; have b4 := cO (i := 4) o2; have b5 := cO (i := 5) o2; have bf := fun i => frozen_obj (i := i) o2; have q0 := cO (i := 0) o3; have q1 := cO (i := 1) o3; have q2 := cO (i := 2) o3; have q3 := cO (i := 3) o3; have q4 := cO (i := 4) o3; have q5 := cO (i := 5) o3; simp only [gA, gB, gC] at a0 a1 a2 a3 a4 b0 b1 b2 b3 b4 b5 q0 q1 q2 q3 q4 q5; clear o1 o2 o3)
          obtain ⟨z8, hz8⟩ : ∃ z, (x.off == 8) = z := ⟨_, rfl⟩
          obtain ⟨z6, hz6⟩ : ∃ z, (x.off == 16) = z := ⟨_, rfl⟩
          obtain ⟨z2, hz2⟩ : ∃ z, (x.off == 32) = z := ⟨_, rfl⟩
          cases z8 <;> cases z6 <;> cases z2
          all_goals
           go_wp2_with fail
           go_meet
           exact ⟨by simp only [*, Bool.or_false, Bool.false_or, Bool.true_or, Bool.or_true, Bool.true_and, Bool.false_and], rfl⟩
         case rest =>
          obtain ⟨rfl, rfl⟩ := hcut
          have K1 := η hk1
          have K2 := η hk2
          have HM := η (arith_mv x wd)
          generalize (x.off == 8 || (x.off == 16 || (x.off == 32 && wd))) = mv at HM ⊢
          clear q1
          (have o1 := HO1.out; have o2 := HO2.out; have o3 := HO3.out; have a0 := cO (i := 0) o1; have a1 := cO (i := 1) o1; have a2 := cO (i := 2) o1; have a3 := cO (i := 3) o1; have a4 := cO (i := 4) o1; have b0 := cO (i := 0) o2; have b1 := cO (i := 1) o2; have b2 := cO (i := 2) o2; have b3 := cO (i := 3) o2; have b4 := cO (i := 4) o2; have b5 := cO (i := 5) o2; have bf := fun i => frozen_obj (i := i) o2; have q0 := cO (i := 0) o3; have q1 := cO (i := 1) o3; have q2 := cO (i := 2) o3; have q3 := cO (i := 3) o3; have q4 := cO (i := 4) o3; have q5 := cO (i := 5) o3; simp only [gA, gB, gC] at a0 a1 a2 a3 a4 b0 b1 b2 b3 b4 b5 q0 q1 q2 q3 q4 q5; clear o1 o2 o3)
          cases ok with
          | false =>
           have HA : Hid (arithS x h wd rg = none) := η (by rw [HAR.out]; rfl)
           go_wp2_with fail
           all_goals
            (have hsf := HSF.out; generalize hF : (World.setCell (World.setCell (World.setCell (World.setCell (World.setCell (World.setCell wc ⟨w.heap.size + 1, 0, none⟩ (.int .u8 1)) ⟨w.heap.size + 1, 1, none⟩ (.int .u8 h)) ⟨w.heap.size + 1, 2, none⟩ (.bool wd)) ⟨w.heap.size + 1, 3, none⟩ (.bool rg)) ⟨w.heap.size + 1, 4, none⟩ (.bool false)) ⟨w.heap.size + 1, 5, none⟩ (.int .i64 0)) = wF at hsf ⊢; obtain ⟨hs, he⟩ := hsf; clear hF; (try simp only [Exit.then]); (repeat (first | go_skip | go_step)); have r0 := cO (i := 0) hs; have r1 := cO (i := 1) hs; have r2 := cO (i := 2) hs; have r3 := cO (i := 3) hs; have r4 := cO (i := 4) hs; have r5 := cO (i := 5) hs; simp only [gA, gB, gC] at r0 r1 r2 r3 r4 r5; refine bodyPost_ret (by simp [results, Tryz.results117, go_sem, r0, r1, r2, r3, r4, r5]; try rfl) rfl ?_)
            exact ⟨⟨1, h, wd, rg, false, 0⟩, false, rfl, HA.out, by (repeat (first|exact xE0 _|assumption|refine xE1 ?_ _|refine xE2 ?_|refine xE3 ?_ _|refine xE4 ?_ (by assumption)))⟩
          | true =>
           have HA : Hid (arithS x h wd rg = if (z || (rg && mv)) then some ⟨1, h, wd, rg, false, 0⟩ else none) := η (by rw [HAR.out, if_pos rfl, arithT, if_neg (by rw [HG.out]; decide), if_neg (by rw [HG2.out]; decide), if_neg (by have := K1.out; simpa using this), if_pos (by have := K2.out; simpa using this), ← hz]; simp only [Bool.or_eq_true, Bool.and_eq_true, beq_iff_eq, HM.out])
           cases z
           ·cases rg
            ·go_wp2_with fail
             all_goals
              (have hsf := HSF.out; generalize hF : (World.setCell (World.setCell (World.setCell (World.setCell (World.setCell (World.setCell wc ⟨w.heap.size + 1, 0, none⟩ (.int .u8 1)) ⟨w.heap.size + 1, 1, none⟩ (.int .u8 h)) ⟨w.heap.size + 1, 2, none⟩ (.bool wd)) ⟨w.heap.size + 1, 3, none⟩ (.bool false)) ⟨w.heap.size + 1, 4, none⟩ (.bool false)) ⟨w.heap.size + 1, 5, none⟩ (.int .i64 0)) = wF at hsf ⊢; obtain ⟨hs, he⟩ := hsf; clear hF; (try simp only [Exit.then]); (repeat (first | go_skip | go_step)); have r0 := cO (i := 0) hs; have r1 := cO (i := 1) hs; have r2 := cO (i := 2) hs; have r3 := cO (i := 3) hs; have r4 := cO (i := 4) hs; have r5 := cO (i := 5) hs; simp only [gA, gB, gC] at r0 r1 r2 r3 r4 r5; refine bodyPost_ret (by simp [results, Tryz.results117, go_sem, r0, r1, r2, r3, r4, r5]; try rfl) rfl ?_)
              exact ⟨⟨1, h, wd, false, false, 0⟩, _, rfl, HA.out, by (repeat (first|exact xE0 _|assumption|refine xE1 ?_ _|refine xE2 ?_|refine xE3 ?_ _|refine xE4 ?_ (by assumption)))⟩
            ·go_wp2_with fail
             all_goals
              (have hsf := HSF.out; generalize hF : (World.setCell (World.setCell (World.setCell (World.setCell (World.setCell (World.setCell wc ⟨w.heap.size + 1, 0, none⟩ (.int .u8 1)) ⟨w.heap.size + 1, 1, none⟩ (.int .u8 h)) ⟨w.heap.size + 1, 2, none⟩ (.bool wd)) ⟨w.heap.size + 1, 3, none⟩ (.bool true)) ⟨w.heap.size + 1, 4, none⟩ (.bool false)) ⟨w.heap.size + 1, 5, none⟩ (.int .i64 0)) = wF at hsf ⊢; obtain ⟨hs, he⟩ := hsf; clear hF; (try simp only [Exit.then]); (repeat (first | go_skip | go_step)); have r0 := cO (i := 0) hs; have r1 := cO (i := 1) hs; have r2 := cO (i := 2) hs; have r3 := cO (i := 3) hs; have r4 := cO (i := 4) hs; have r5 := cO (i := 5) hs; simp only [gA, gB, gC] at r0 r1 r2 r3 r4 r5; refine bodyPost_ret (by simp [results, Tryz.results117, go_sem, r0, r1, r2, r3, r4, r5]; try rfl) rfl ?_)
              exact ⟨⟨1, h, wd, true, false, 0⟩, _, rfl, HA.out, by (repeat (first|exact xE0 _|assumption|refine xE1 ?_ _|refine xE2 ?_|refine xE3 ?_ _|refine xE4 ?_ (by assumption)))⟩
           ·go_wp2_with fail
            all_goals
             (have hsf := HSF.out; generalize hF : (World.setCell (World.setCell (World.setCell (World.setCell (World.setCell (World.setCell wc ⟨w.heap.size + 1, 0, none⟩ (.int .u8 1)) ⟨w.heap.size + 1, 1, none⟩ (.int .u8 h)) ⟨w.heap.size + 1, 2, none⟩ (.bool wd)) ⟨w.heap.size + 1, 3, none⟩ (.bool rg)) ⟨w.heap.size + 1, 4, none⟩ (.bool false)) ⟨w.heap.size + 1, 5, none⟩ (.int .i64 0)) = wF at hsf ⊢; obtain ⟨hs, he⟩ := hsf; clear hF; (try simp only [Exit.then]); (repeat (first | go_skip | go_step)); have r0 := cO (i := 0) hs; have r1 := cO (i := 1) hs; have r2 := cO (i := 2) hs; have r3 := cO (i := 3) hs; have r4 := cO (i := 4) hs; have r5 := cO (i := 5) hs; simp only [gA, gB, gC] at r0 r1 r2 r3 r4 r5; refine bodyPost_ret (by simp [results, Tryz.results117, go_sem, r0, r1, r2, r3, r4, r5]; try rfl) rfl ?_)
             exact ⟨⟨1, h, wd, rg, false, 0⟩, _, rfl, HA.out, by (repeat (first|exact xE0 _|assumption|refine xE1 ?_ _|refine xE2 ?_|refine xE3 ?_ _|refine xE4 ?_ (by assumption)))⟩
        | false =>
         have HA : Hid (arithS x h wd rg = none) := η (by rw [HAR.out]; cases ok with | false => rfl | true => rw [if_pos rfl, arithT, if_neg (by rw [HG.out]; decide), if_neg (by rw [HG2.out]; decide), if_neg (by simpa using hk1), if_neg (by simpa using hk2)])
         (have o1 := HO1.out; have o2 := HO2.out; have o3 := HO3.out; have a0 := cO (i := 0) o1; have a1 := cO (i := 1) o1; have a2 := cO (i := 2) o1; have a3 := cO (i := 3) o1; have a4 := cO (i := 4) o1; have b0 := cO (i := 0) o2; have b1 := cO (i := 1) o2; have b2 := cO (i := 2) o2; have b3 := cO (i := 3) o2; have b4 := cO (i := 4) o2; have b5 := cO (i := 5) o2; have bf := fun i => frozen_obj (i := i) o2; have q0 := cO (i := 0) o3; have q1 := cO (i := 1) o3; have q2 := cO (i := 2) o3; have q3 := cO (i := 3) o3; have q4 := cO (i := 4) o3; have q5 := cO (i := 5) o3; simp only [gA, gB, gC] at a0 a1 a2 a3 a4 b0 b1 b2 b3 b4 b5 q0 q1 q2 q3 q4 q5; clear o1 o2 o3)
         go_wp2_with fail
         all_goals
          (have hsf := HSF.out; generalize hF : (World.setCell (World.setCell (World.setCell (World.setCell (World.setCell (World.setCell wc ⟨w.heap.size + 1, 0, none⟩ (.int .u8 1)) ⟨w.heap.size + 1, 1, none⟩ (.int .u8 h)) ⟨w.heap.size + 1, 2, none⟩ (.bool wd)) ⟨w.heap.size + 1, 3, none⟩ (.bool rg)) ⟨w.heap.size + 1, 4, none⟩ (.bool false)) ⟨w.heap.size + 1, 5, none⟩ (.int .i64 0)) = wF at hsf ⊢; obtain ⟨hs, he⟩ := hsf; clear hF; (try simp only [Exit.then]); (repeat (first | go_skip | go_step)); have r0 := cO (i := 0) hs; have r1 := cO (i := 1) hs; have r2 := cO (i := 2) hs; have r3 := cO (i := 3) hs; have r4 := cO (i := 4) hs; have r5 := cO (i := 5) hs; simp only [gA, gB, gC] at r0 r1 r2 r3 r4 r5; refine bodyPost_ret (by simp [results, Tryz.results117, go_sem, r0, r1, r2, r3, r4, r5]; try rfl) rfl ?_)
          exact ⟨⟨1, h, wd, rg, false, 0⟩, false, rfl, HA.out, by (repeat (first|exact xE0 _|assumption|refine xE1 ?_ _|refine xE2 ?_|refine xE3 ?_ _|refine xE4 ?_ (by assumption)))⟩
end Go.Proofs.YtppefchjoodgnaaGreat
