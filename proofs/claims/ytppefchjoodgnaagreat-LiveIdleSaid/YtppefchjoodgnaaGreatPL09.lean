/- What the claim leans on: Ms · Tail. -/
import Derived.Test.YtppefchjoodgnaaGreatPL07
import Derived.Test.YtppefchjoodgnaaGreatPL08
import Derived.Test.YtppefchjoodgnaaGreatPL01
import Derived.StillTail
namespace Go.Proofs.YtppefchjoodgnaaGreat
open Go.RowKit
set_option linter.unusedVariables false
set_option linter.unusedSimpArgs false
structure Cl where
 id : Int
 map : Int
 key : List Int
 val : List Int
 n : List Int
 ret : Int
structure CB where
 c : Cl
 ka : Option Addr
 kc : Nat
 va : Option Addr
 vc : Nat
 na : Option Addr
 nc : Nat
def CB.kv (x : CB) : Value := .slice x.ka x.c.key.length x.kc
def CB.vv (x : CB) : Value := .slice x.va x.c.val.length x.vc
def CB.nv (x : CB) : Value := .slice x.na x.c.n.length x.nc
def CB.enc (x : CB) : List Value := [.int .i64 x.c.id, .int .i64 x.c.map, x.kv, x.vv, x.nv, .int .u64 x.c.ret]
theorem enc_cb : Enc 6 CB.enc := ⟨fun _ => rfl, fun x u hu => by
 simp only [CB.enc, List.mem_cons, List.not_mem_nil, or_false] at hu
 rcases hu with rfl | rfl | rfl | rfl | rfl | rfl <;> rfl⟩
theorem el_called : El Tryz.prog 43 76 6 96 (.agg #[.int .i64 0, .int .i64 0, .slice none 0 0, .slice none 0 0, .slice none 0 0, .int .u64 0]) := ⟨Tryz.underlying43, by kernel_rfl, rfl, by decide, fun _ => by kernel_rfl⟩
structure RS where
 L : List Ins
 R : Nat → Int
 S : Nat → Bool
 V : Areas × List TM
 D : List TDef
 dr : List Int
 place : Int
 over : Bool
 code : Int
 steps : Int
 calls : List Cl
structure RLay where
 lv : Value
 tb : Nat
 T : RTabs
 dv : Value
 drv : Value
 cv : Value
 cs : List CB
def vblk : Value → List Nat
 | .slice (some a) _ _ => [a.block]
 | _ => []
def rCells (σ : RS) (l : RLay) : List Value := [l.lv, .int .u64 (σ.R 0), .int .u64 (σ.R 1), .int .u64 (σ.R 2), .int .u64 (σ.R 3), .int .u64 (σ.R 4), .int .u64 (σ.R 5), .int .u64 (σ.R 6), .int .u64 (σ.R 7), .int .u64 (σ.R 8), .int .u64 (σ.R 9), .int .u64 (σ.R 10),
 .bool (σ.S 0), .bool (σ.S 1), .bool (σ.S 2), .bool (σ.S 3), .bool (σ.S 4), .bool (σ.S 5), .bool (σ.S 6), .bool (σ.S 7), .bool (σ.S 8), .bool (σ.S 9), .bool (σ.S 10),
 .pointer (some ⟨l.T.rb, 0, none⟩), .pointer (some ⟨l.tb, 0, none⟩), l.dv, l.drv, .int .i64 σ.place, .bool σ.over, .int .i64 σ.code, .int .i64 σ.steps, l.cv]
def fblk : Value → List Nat
 | .slice (some a) (_ + 1) _ => [a.block]
 | _ => []
theorem Rd.keepF {α : Type} {F : List Nat} {w w' : World} {sz : Nat} {enc : α → List Value} {v : Value} {xs : List α} (h : Rd w sz enc v xs) (k : Keep F w w') (hF : ∀ j ∈ fblk v, j ∉ F) : Rd w' sz enc v xs := by
 cases xs with
 | nil =>
  obtain ⟨a, c, rfl, h2, h3, h4, h5⟩ := h
  exact ⟨a, c, rfl, h2, h3, h4, fun i x hx => by simp at hx⟩
 | cons x xs =>
  refine h.keep k (fun a n c e => ?_)
  obtain ⟨a', c', e', _⟩ := h
  rw [e'] at e
  injection e with e1 e2 e3
  subst e1
  exact hF a.block (by rw [e']; simp [fblk])
theorem Rd.fblk_lt {α : Type} {w : World} {sz : Nat} {enc : α → List Value} {v : Value} {xs : List α} (h : Rd w sz enc v xs) (h0 : ∀ x, ∃ u, (enc x)[0]? = some u) : ∀ j ∈ fblk v, j < w.heap.size := by
 obtain ⟨a, c, rfl, h2, h3, h4, h5⟩ := h
 cases xs with
 | nil => intro j hj; cases a <;> simp [fblk] at hj
 | cons x xs =>
  cases a with
  | none => intro j hj; simp [fblk] at hj
  | some a =>
   intro j hj
   simp only [List.length_cons, fblk, List.mem_singleton] at hj
   subst hj
   obtain ⟨u, hu⟩ := h0 x
   have := h5 0 x rfl 0 u hu
   have e1 : (elt (.slice (some a) (x :: xs).length c) (0 * sz + 0)).block = a.block := by simp only [elt, Addr.add]; split <;> rfl
   rw [← e1]
   unfold World.cell? at this
   cases hb : w.heap[(elt (.slice (some a) (x :: xs).length c) (0 * sz + 0)).block]? with
   | none => rw [hb] at this; cases this
   | some o => exact heap_lt hb
def mfoot (mb : Nat) (l : RLay) : List Nat := mb :: (l.cv.ownBlock.toList ++ rtfoot l.tb l.T)
def mfrz (l : RLay) : List Nat := fblk l.lv ++ (fblk l.dv ++ (vblk l.drv ++ l.cs.flatMap fun c => vblk c.kv ++ (vblk c.vv ++ vblk c.nv)))
structure MAt (w : World) (base mb : Nat) (σ : RS) (l : RLay) : Prop where
 head : w.heap[mb]? = some (.cells (rCells σ l).toArray 50 (0, 0))
 low : base ≤ mb
 tab : RTabAt w base l.tb l.T
 view : rview l.T = σ.V
 calls : Own w base 76 6 CB.enc l.cv l.cs
 cls : l.cs.map (·.c) = σ.calls
 callS : ∀ c ∈ l.cs, Sl w .u8 c.kv c.c.key ∧ Sl w .u8 c.vv c.c.val ∧ Sl w .u64 c.nv c.c.n
 code : Rd w 5 Ins.enc l.lv σ.L
 defs : Rd w 4 TDef.enc l.dv σ.D
 draws : Sl w .u64 l.drv σ.dr
 apart : (mfoot mb l).Nodup
 frz : ∀ j ∈ mfrz l, j ∉ mfoot mb l ∧ j < w.heap.size
theorem vblk_not {v : Value} {F : List Nat} (h : ∀ j ∈ vblk v, j ∉ F) : ∀ a n c, v = .slice (some a) n c → a.block ∉ F := by
 rintro a n c rfl
 exact h _ (by simp [vblk])
section
variable {w w' : World} {base mb : Nat} {σ : RS} {l : RLay} {F : List Nat}
theorem mem_kv {l : RLay} {c : CB} (hc : c ∈ l.cs) {j : Nat} (hj : j ∈ vblk c.kv ++ (vblk c.vv ++ vblk c.nv)) : j ∈ mfrz l := by
 simp only [mfrz, List.mem_append, List.mem_flatMap]
 exact .inr (.inr (.inr ⟨c, hc, by simpa using hj⟩))
theorem MAt.keep (h : MAt w base mb σ l) (k : Keep F w w') (hF : ∀ j ∈ mfoot mb l, j ∉ F) (hZ : ∀ j ∈ mfrz l, j ∉ F) : MAt w' base mb σ l := by
 have hz : ∀ {v : Value}, (∀ j ∈ vblk v, j ∈ mfrz l) → ∀ a n c, v = .slice (some a) n c → a.block ∉ F := fun hv => vblk_not fun j hj => hZ j (hv j hj)
 refine ⟨k.obj h.head (hF _ (by simp [mfoot])), h.low, h.tab.keep k (fun j hj => hF j (by simp [mfoot, hj])), h.view, h.calls.keep k (fun j hj => hF j (by simp [mfoot, hj])), h.cls, fun c hc => ⟨?_, ?_, ?_⟩, ?_, ?_, ?_, h.apart, fun j hj => ⟨(h.frz j hj).1, Nat.lt_of_lt_of_le (h.frz j hj).2 k.size⟩⟩
 ·exact (h.callS c hc).1.keep k (hz fun j hj => mem_kv hc (by simp [hj]))
 ·exact (h.callS c hc).2.1.keep k (hz fun j hj => mem_kv hc (by simp [hj]))
 ·exact (h.callS c hc).2.2.keep k (hz fun j hj => mem_kv hc (by simp [hj]))
 ·exact h.code.keepF k (fun j hj => hZ j (by simp [mfrz, hj]))
 ·exact h.defs.keepF k (fun j hj => hZ j (by simp [mfrz, hj]))
 ·exact h.draws.keep k (hz fun j hj => by simp [mfrz, hj])
theorem MAt.ext (h : MAt w base mb σ l) (k : Ext w w') : MAt w' base mb σ l := h.keep (F := []) (Keep.of_ext k) (fun _ _ => by simp) (fun _ _ => by simp)
theorem MAt.cells (h : MAt w base mb σ l) {σ' : RS} (k : Keep [mb] w w') (hc : w'.heap[mb]? = some (.cells (rCells σ' l).toArray 50 (0, 0))) (hV : σ'.V = σ.V) (hL : σ'.L = σ.L) (hD : σ'.D = σ.D) (hd : σ'.dr = σ.dr) (hcl : σ'.calls = σ.calls) : MAt w' base mb σ' l := by
 have ha := List.nodup_cons.1 h.apart
 have hm : ∀ {j : Nat}, j ∈ l.cv.ownBlock.toList ++ rtfoot l.tb l.T → j ∉ [mb] := fun hj e => ha.1 (by rw [List.mem_singleton] at e; rwa [← e])
 have hx : ∀ j ∈ mfrz l, j ∉ [mb] := fun j hj e => (h.frz j hj).1 (by rw [List.mem_singleton] at e; subst e; simp [mfoot])
 have hz : ∀ {v : Value}, (∀ j ∈ vblk v, j ∈ mfrz l) → ∀ a n c, v = .slice (some a) n c → a.block ∉ [mb] := fun hv => vblk_not fun j hj => hx j (hv j hj)
 refine ⟨hc, h.low, h.tab.keep k (fun j hj => hm (by simp [hj])), by rw [hV]; exact h.view, h.calls.keep k (fun j hj => hm (by simp [hj])), by rw [hcl]; exact h.cls, fun c hc => ⟨?_, ?_, ?_⟩, ?_, ?_, ?_, h.apart, fun j hj => ⟨(h.frz j hj).1, Nat.lt_of_lt_of_le (h.frz j hj).2 k.size⟩⟩
 ·exact (h.callS c hc).1.keep k (hz fun j hj => mem_kv hc (by simp [hj]))
 ·exact (h.callS c hc).2.1.keep k (hz fun j hj => mem_kv hc (by simp [hj]))
 ·exact (h.callS c hc).2.2.keep k (hz fun j hj => mem_kv hc (by simp [hj]))
 ·rw [hL]; exact h.code.keepF k (fun j hj => hx j (by simp [mfrz, hj]))
 ·rw [hD]; exact h.defs.keepF k (fun j hj => hx j (by simp [mfrz, hj]))
 ·rw [hd]; exact h.draws.keep k (hz fun j hj => by simp [mfrz, hj])
theorem MAt.cell (h : MAt w base mb σ l) (i : Nat) {v : Value} (hv : (rCells σ l)[i]? = some v) : w.cell? ⟨mb, i, none⟩ = some v := by
 rw [cO h.head]
 simpa using hv
theorem ten {d : Nat} (h : d ≤ 10) : d = 0 ∨ d = 1 ∨ d = 2 ∨ d = 3 ∨ d = 4 ∨ d = 5 ∨ d = 6 ∨ d = 7 ∨ d = 8 ∨ d = 9 ∨ d = 10 := by omega
theorem rcell_R (σ : RS) (l : RLay) {d : Nat} (hd : d ≤ 10) : (rCells σ l)[1 + d]? = some (.int .u64 (σ.R d)) := by
 rcases ten hd with rfl | rfl | rfl | rfl | rfl | rfl | rfl | rfl | rfl | rfl | rfl <;> rfl
theorem rcell_S (σ : RS) (l : RLay) {d : Nat} (hd : d ≤ 10) : (rCells σ l)[12 + d]? = some (.bool (σ.S d)) := by
 rcases ten hd with rfl | rfl | rfl | rfl | rfl | rfl | rfl | rfl | rfl | rfl | rfl <;> rfl
def updN {α : Type} (f : Nat → α) (d : Nat) (x : α) : Nat → α := fun j => if j = d then x else f j
theorem rset_R (σ : RS) (l : RLay) {d : Nat} (hd : d ≤ 10) (n : Int) : (rCells σ l).set (1 + d) (.int .u64 n) = rCells { σ with R := updN σ.R d n } l := by
 rcases ten hd with rfl | rfl | rfl | rfl | rfl | rfl | rfl | rfl | rfl | rfl | rfl <;> simp [rCells, updN]
theorem rset_S (σ : RS) (l : RLay) {d : Nat} (hd : d ≤ 10) (n : Bool) : (rCells σ l).set (12 + d) (.bool n) = rCells { σ with S := updN σ.S d n } l := by
 rcases ten hd with rfl | rfl | rfl | rfl | rfl | rfl | rfl | rfl | rfl | rfl | rfl <;> simp [rCells, updN]
end
structure MRel (F0 Z0 : List Nat) (wf : World) (base : Nat) (w : World) (mb : Nat) (σ : RS) : Prop where
 keep : Keep F0 wf w
 low : base ≤ wf.heap.size
 lay : ∃ l, MAt w base mb σ l ∧ (∀ j ∈ mfoot mb l, j ∈ F0 ∨ wf.heap.size ≤ j) ∧ ∀ j ∈ mfrz l, j ∈ Z0 ∨ wf.heap.size ≤ j
section
variable {F0 Z0 : List Nat} {wf w w' : World} {base mb : Nat} {σ : RS}
theorem MRel.go (h : MRel F0 Z0 wf base w mb σ) (k : Ext w w') : MRel F0 Z0 wf base w' mb σ := by
 obtain ⟨h0, hl, l, h1, h2, h3⟩ := h
 exact ⟨h0.through (F := []) (Keep.of_ext k) (fun _ hj => by cases hj), hl, l, h1.ext k, h2, h3⟩
theorem MRel.turn (h : MRel F0 Z0 wf base w mb σ) {σ' : RS} (k : Keep [mb] w w') (hc : ∀ l, MAt w base mb σ l → w'.heap[mb]? = some (.cells (rCells σ' l).toArray 50 (0, 0))) (hV : σ'.V = σ.V := by rfl) (hL : σ'.L = σ.L := by rfl) (hD : σ'.D = σ.D := by rfl) (hd : σ'.dr = σ.dr := by rfl) (hcl : σ'.calls = σ.calls := by rfl) : MRel F0 Z0 wf base w' mb σ' := by
 obtain ⟨h0, hl, l, h1, h2, h3⟩ := h
 exact ⟨h0.through k (fun j hj => by rw [List.mem_singleton] at hj; subst hj; exact h2 _ (by simp [mfoot])), hl, l, h1.cells k (hc l h1) hV hL hD hd hcl, h2, h3⟩
theorem MRel.lt (h : MRel F0 Z0 wf base w mb σ) : mb < w.heap.size := by
 obtain ⟨h0, hl, l, h1, h2, h3⟩ := h
 exact heap_lt h1.head
end
section
variable {P : Program} {ops : Array Oper} {md : Region.Mode} {C : World → Prop}
def headQ (P : Program) (md : Region.Mode) (ops : Array Oper) (C : World → Prop) (n : Nat) (L : Array Bool → Act → Prop) : Nat → Array Bool → Act → Prop
 | 0, listed, a => L listed a
 | f + 1, listed, a =>
  Region.ready md ops listed ≠ [] ∧ ∀ i ∈ Region.ready md ops listed, i < n ∧ qOp P ops C i (headQ P md ops C n L f (listed.setIfInBounds i true)) a
theorem any_of_headQ {n g : Nat} {L : Array Bool → Act → Prop} {Q' : Exit → Act → World → Prop} (hL : ∀ listed a w, C w → L listed a → wpAny P md ops Q' g listed a w) :
  ∀ (f : Nat) (listed : Array Bool) (a : Act) (w : World), C w → headQ P md ops C n L f listed a → wpAny P md ops Q' (f + g) listed a w
 | 0, listed, a, w, hw, h => by rw [Nat.zero_add]; exact hL _ _ _ hw h
 | f + 1, listed, a, w, hw, h => by
  rw [show f + 1 + g = (f + g) + 1 by omega]
  exact ⟨fun h0 => absurd h0 h.1, fun i hi => wpOp_of_qOp hw (fun a' w' hw' h' => any_of_headQ hL f _ a' w' hw' h') (h.2 i hi).2⟩
theorem headQ_first {n i : Nat} {oi : Oper} {v : Value} {L : Array Bool → Act → Prop} (hi : ops[i]? = some oi) (hsel : ∀ (j : Nat) (o : Oper) cs b, ops[j]? = some o → o.op ≠ .select cs b)
  (hs : Region.sinkB md ops n = true) (hc : Region.chainB md ops n = true) (hn : n < ops.size) (hin : i < n)
  (hdone : ∀ listed a, L listed a → ∀ j ∈ Region.ready md ops listed, n ≤ j) :
  ∀ (f : Nat) (listed : Array Bool) (a : Act), HeadInv md ops n listed →
   (∀ j oj, ops[j]? = some oj → j ≠ i → listed.getD j true = false → (∀ e ∈ oj.after, Region.binds md e = true → e.on ≠ i) → oi.apart ops oj = true) →
   i ∈ Region.ready md ops listed → YieldsIn P ops C oi v a →
   headQ P md ops C n L f (listed.setIfInBounds i true) (a.put oi.dst v) → headQ P md ops C n L (f + 1) listed a := by
 intro f
 induction f with
 | zero =>
  intro listed a inv _ hr hy H
  have hun := (mem_ready.1 hr).1
  refine ⟨fun h => (by rw [h] at hr; cases hr), fun j hj => ?_⟩
  have hjn : j < n := by
   rcases Nat.lt_or_ge j n with h | h
   ·exact h
   ·exact absurd hj (tail_waits hs hc hn inv _ i rfl hin hun j h)
  refine ⟨hjn, ?_⟩
  by_cases hji : j = i
  ·subst hji; exact hy.qOp hi H
  ·have := hdone _ _ H j (ready_mono hj hji)
   omega
 | succ f ih =>
  intro listed a inv hfree hr hy H
  have hun := (mem_ready.1 hr).1
  refine ⟨fun h => (by rw [h] at hr; cases hr), fun j hj => ?_⟩
  have hjn : j < n := by
   rcases Nat.lt_or_ge j n with h | h
   ·exact h
   ·exact absurd hj (tail_waits hs hc hn inv _ i rfl hin hun j h)
  refine ⟨hjn, ?_⟩
  by_cases hji : j = i
  ·subst hji; exact hy.qOp hi H
  ·have h1 := (H.2 j (ready_mono hj hji)).2
   obtain ⟨hjun, oj, hoj, hall⟩ := mem_ready.1 hj
   have hnot : ∀ e ∈ oj.after, Region.binds md e = true → e.on ≠ i := fun e he hb heq => by
    have h1 := hall e he hb
    rw [heq, getD_both hun] at h1
    cases h1
   have h2 := qOp_put hoj (hfree j oj hoj hji hjun hnot) (fun cs b => hsel i oi cs b hi) (fun cs b => hsel j oj cs b hoj) hy h1
   have hfree' : ∀ k ok, ops[k]? = some ok → k ≠ i → (listed.setIfInBounds j true).getD k true = false →
     (∀ e ∈ ok.after, Region.binds md e = true → e.on ≠ i) → oi.apart ops ok = true := fun k ok hk hki hun hno => by
    refine hfree k ok hk hki ?_ hno
    by_cases hjk : j = k
    ·subst hjk; exact hjun
    ·rw [getD_set_ne true hjk] at hun; exact hun
   refine qOp_mono (fun a' h3 => ih (listed.setIfInBounds j true) a' (inv.set hj hjn) hfree' (ready_mono hr (Ne.symm hji)) h3.1 ?_) h2
   rw [Array.setIfInBounds_comm _ _ hji]
   exact h3.2
theorem headQ_lex {n g : Nat} {Lq : Act → Prop} (hsel : Region.noSelect ops = true) (hs : Region.sinkB md ops n = true) (hc : Region.chainB md ops n = true) (hn : n < ops.size) :
  ∀ (l : List Oper) (k : Nat) (listed : Array Bool) (a : Act), (∀ j, j < l.length → l[j]? = ops[k + j]?) → k + l.length = n → HeadInv md ops n listed →
  Region.lexHead md ops g l.length k listed = true → wpQuiet P ops C Lq l a →
  headQ P md ops C n (fun listed' a' => Region.seqB md ops g n listed' = true ∧ Lq a') l.length listed a
 | [], k, listed, a, _, hk, _, hB, h => by
  have : k = n := by simpa using hk
  subst this
  exact ⟨by simpa [Region.lexHead] using hB, h⟩
 | o :: l, k, listed, a, hl, hk, inv, hB, h => by
  have h0 : ops[k]? = some o := by simpa using (hl 0 (by simp)).symm
  simp only [List.length_cons, Region.lexHead, Bool.and_eq_true] at hB
  obtain ⟨⟨hr, hf⟩, hB'⟩ := hB
  have hkn : k < n := by simp only [List.length_cons] at hk; omega
  have hr' : k ∈ Region.ready md ops listed := by simpa using hr
  have hst : qOp P ops C k (wpQuiet P ops C Lq l) a := by unfold qOp; simp only [h0]; exact h
  obtain ⟨v, hy, hK⟩ := yieldsIn_of_qOp h0 hst
  exact headQ_first h0 (Region.noSelect_spec hsel) hs hc hn hkn (fun listed' a' hL => seqB_ready hL.1) l.length listed a inv (Region.free_spec h0 hf) hr' hy
   (headQ_lex hsel hs hc hn l (k + 1) _ _ (fun j hj => by have := hl (j + 1) (by simp; omega); simpa [Nat.add_assoc, Nat.add_comm 1 j] using this) (by simp only [List.length_cons] at hk; omega) (inv.set hr' hkn) hB' hK)
theorem wp_region_class_tail {id : Nat} {Q : Exit → Act → World → Prop} {a : Act} {w : World} {l : List Oper} (n : Nat) (hm : P.follows .mixedOrders = true) (hB : Region.lexTailB .any l.toArray n = true) (hC : C { w with drawn := w.drawn + 1 })
  (h : wpQuiet P l.toArray C (fun a' => ∀ w', C w' → wpList P l.toArray Q (l.drop n) a' w') (l.take n) a) : (Code.region id l.toArray true).wp P Q a w := by
 simp only [Region.lexTailB, Bool.and_eq_true, decide_eq_true_eq] at hB
 obtain ⟨⟨⟨⟨hsel, hn⟩, hs⟩, hc⟩, hlex⟩ := hB
 have hn' : n < l.length := by simpa using hn
 have htl : (l.take n).length = n := by simp; omega
 have hdl : (l.drop n).length = l.toArray.size - n := by simp
 have inv0 : HeadInv .any l.toArray n (Array.replicate l.toArray.size false) :=
  ⟨by simp, fun j oj _ hl => (by rw [getD_replicate_false] at hl; cases hl), fun t _ ht => getD_in (by simpa using ht) (getD_replicate_false _ _)⟩
 have H := headQ_lex (md := .any) (g := l.toArray.size - n) (C := C) hsel hs hc hn (l.take n) 0 _ a (fun j hj => by
  have hj' : j < n := by rw [htl] at hj; exact hj
  simp [hj']) (by simpa using htl) inv0 (by rw [htl]; exact hlex) h
 refine wp_region_any hm ?_
 have := any_of_headQ (Q' := Q) (g := l.toArray.size - n) (fun listed a' w' hw' hL => by
  have := wpAny_of_seq (md := .any) (Q' := Q) (l.drop n) n listed a' w' (fun j => by simp [List.getElem?_drop]) (by rw [hdl]; exact hL.1) (hL.2 w' hw')
  rwa [hdl] at this) _ _ _ _ hC H
 rw [htl, show n + (l.toArray.size - n) = l.toArray.size by omega] at this
 exact this
end
structure Grow (W : World) where
 val : World
 ext : Ext W val
instance (W : World) : Nonempty (Grow W) := ⟨⟨W, Ext.rfl' W⟩⟩
theorem Grow.cell {W : World} {a : Addr} {v : Value} (h : W.cell? a = some v) : ∀ n : Grow W, n.val.cell? a = some v := fun n => n.ext.cellOf h
theorem Calls.grow {P : Program} {f : FuncId} {args : Array Value} {W : World} {n : Grow W} {v : Value} (h : Calls P f args n.val fun e w' => e = .returned v ∧ Ext n.val w') :
  Calls P f args n.val fun e w'' => e = .returned v ∧ ∃ m : Grow W, w'' = m.val :=
 h.mono fun _ w' ⟨he, hE⟩ => ⟨he, ⟨w', n.ext.trans' hE⟩, rfl⟩
theorem Calls.grow1 {P : Program} {f : FuncId} {args : Array Value} {W : World} {n : Grow W} {v : Value} {o : Obj} (h : Calls P f args n.val fun e w' => e = .returned v ∧ w' = n.val.alloc o) :
  Calls P f args n.val fun e w'' => e = .returned v ∧ ∃ m : Grow W, w'' = m.val :=
 h.mono fun _ w' ⟨he, hE⟩ => ⟨he, ⟨w', by subst hE; exact n.ext.alloc' o⟩, rfl⟩
theorem wp_region_ext_tail {P : Program} {id : Nat} {Q : Exit → Act → World → Prop} {a : Act} {w : World} {l : List Oper} (n : Nat) (hm : P.follows .mixedOrders = true) (hB : Region.lexTailB .any l.toArray n = true)
  (h : wpQuiet P l.toArray (fun w' => ∃ n : Grow w, w' = n.val) (fun a' => ∀ w', (∃ n : Grow w, w' = n.val) → wpList P l.toArray Q (l.drop n) a' w') (l.take n) a) : (Code.region id l.toArray true).wp P Q a w :=
 wp_region_class_tail (C := fun w' => ∃ n : Grow w, w' = n.val) n hm hB ⟨⟨_, Ext.drew' (Ext.rfl' w)⟩, rfl⟩ h
theorem wp_region_grow {P : Program} {id : Nat} {Q : Exit → Act → World → Prop} {a : Act} {w : World} {l : List Oper} (hm : P.follows .mixedOrders = true) (hB : Region.lexB .any l.toArray = true)
  (h : wpQuiet P l.toArray (fun w' => ∃ n : Grow w, w' = n.val) (fun a' => ∀ w', (∃ n : Grow w, w' = n.val) → Q .normal a' w') l a) : (Code.region id l.toArray true).wp P Q a w :=
 wp_region_quiet (C := fun w' => ∃ n : Grow w, w' = n.val) hm hB ⟨⟨_, Ext.drew' (Ext.rfl' w)⟩, rfl⟩ (by simpa using h)
end Go.Proofs.YtppefchjoodgnaaGreat
