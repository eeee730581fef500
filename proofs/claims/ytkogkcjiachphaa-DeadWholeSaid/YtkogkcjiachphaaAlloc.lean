/- A region that draws its order: operations that read, or call what only grows the world, ONE that makes memory (number s) and those that wait for it (from number m on), guards that may be false; then the tail, walked in whatever world has grown. Over any program. -/
import Derived.Test.YtkogkcjiachphaaStore
import Derived.StillTail
namespace Go.Proofs.Ytkogkcjiachphaa
open Go.RowKit
set_option linter.unusedVariables false
set_option linter.unusedSimpArgs false

section
variable {P : Program} {ops : Array Oper} {md : Region.Mode} {D : Bool → World → Prop} {s m : Nat}
def goesTo (C : World → Prop) (v : Value) : Result Next → Prop
  | .ok (.value u) w' => u = v ∧ C w'
  | _ => False
/-- Operation i (number s makes memory) yields v. -/
def YA (P : Program) (ops : Array Oper) (D : Bool → World → Prop) (s m i : Nat) (o : Oper) (v : Value) (a : Act) : Prop :=
  if i = s then Region.wanted o (yielded ops a.tmps) = true ∧ ∀ w, D false w → goesTo (D true) v ((execOp a.eval o).run P w)
  else ∀ b, (m ≤ i → b = true) → YieldsIn P ops (D b) o v a
theorem YA.of_same {i : Nat} {o : Oper} {v : Value} {a a' : Act} (hy : YA P ops D s m i o v a) (he : execOp a'.eval o = execOp a.eval o)
    (hw : Region.wanted o (yielded ops a'.tmps) = Region.wanted o (yielded ops a.tmps)) : YA P ops D s m i o v a' := by
  unfold YA at *
  split
  · rename_i h; rw [if_pos h] at hy; rw [he, hw]; exact hy
  · rename_i h; rw [if_neg h] at hy; exact fun b hb => (hy b hb).of_same he hw
def aOp (P : Program) (ops : Array Oper) (D : Bool → World → Prop) (s m i : Nat) (K : Act → Prop) (a : Act) : Prop := ∃ o v, ops[i]? = some o ∧ YA P ops D s m i o v a ∧ K (a.put o.dst v)
theorem aOp_mono {i : Nat} {a : Act} {K K' : Act → Prop} (h : ∀ a, K a → K' a) : aOp P ops D s m i K a → aOp P ops D s m i K' a := fun ⟨o, v, h1, h2, h3⟩ => ⟨o, v, h1, h2, h _ h3⟩
theorem aOp_put {i j : Nat} {oi oj : Oper} {v : Value} (hj : ops[j]? = some oj) (hap : oi.apart ops oj = true)
    (hsi : ∀ cs b, oi.op ≠ .select cs b) (hsj : ∀ cs b, oj.op ≠ .select cs b) {K : Act → Prop} {a : Act}
    (hy : YA P ops D s m i oi v a) (h : aOp P ops D s m j K (a.put oi.dst v)) : aOp P ops D s m j (fun a' => YA P ops D s m i oi v a' ∧ K (a'.put oi.dst v)) a := by
  obtain ⟨h1, h2, h3⟩ := Oper.apart_spec hap
  obtain ⟨o, u, ho, hu, hK⟩ := h
  have : o = oj := Option.some.inj (ho.symm.trans hj)
  subst this
  refine ⟨o, u, ho, hu.of_same (execOp_put o hsj a oi.dst v h1).symm (wanted_put o a oi.dst v h1).symm, hy.of_same (execOp_put oi hsi a o.dst u h3) (wanted_put oi a o.dst u h3), ?_⟩
  rw [← Act.put_comm a v u h2]
  exact hK
theorem wpOp_of_aOp {i : Nat} {a : Act} {K : Act → Prop} {K' : Act → World → Prop} {Q' : Exit → Act → World → Prop} {w : World} {listed : Array Bool} (hun : listed.getD i true = false) (hD : D (listed.getD s false) w) (hdp : m ≤ i → listed.getD s false = true)
    (h : ∀ a w', D ((listed.setIfInBounds i true).getD s false) w' → K a → K' a w') (hh : aOp P ops D s m i K a) : wpOp P ops Q' i K' a w := by
  obtain ⟨o, v, ho, hy, hK⟩ := hh
  unfold YA at hy
  by_cases his : i = s
  · rw [if_pos his] at hy
    obtain ⟨hw, hst⟩ := hy
    subst his
    have hi : i < listed.size := by
      rcases Nat.lt_or_ge i listed.size with h' | h'
      · exact h'
      · simp [Array.getElem?_eq_none h'] at hun
    rw [getD_both hun] at hD
    have h1 := hst w hD
    have h2 : (listed.setIfInBounds i true).getD i false = true := by simp [hi]
    rw [h2] at h
    unfold wpOp
    simp only [ho, hw, if_true]
    left
    unfold Oper.wp
    generalize (execOp a.eval o).run P w = r at *
    cases r with
    | ok n w' =>
      cases n with
      | value u =>
        simp only [goesTo] at h1
        obtain ⟨rfl, h1⟩ := h1
        simp only [Oper.upon]
        exact h _ _ h1 hK
      | _ => simp only [goesTo] at h1
    | halt x w' => simp only [goesTo] at h1
  · rw [if_neg his] at hy
    have h2 : (listed.setIfInBounds i true).getD s false = listed.getD s false := getD_set_ne false his
    rw [h2] at h
    exact wpOp_of_qOp hD (fun a' w' hw' hk => h a' w' hw' hk) ((hy _ hdp).qOp ho hK)
/-- From number m on each operation waits for number s, or for one of these ahead of it. -/
def waitsB (md : Region.Mode) (ops : Array Oper) (s m n : Nat) : Bool :=
  (List.range n).all fun i => decide (i < m) || (match ops[i]? with | some o => o.after.any (fun e => Region.binds md e && (e.on == s || (decide (m ≤ e.on) && decide (e.on < i)))) | none => false)
theorem waits_listed {n : Nat} {listed : Array Bool} (hB : waitsB md ops s m n = true) (inv : HeadInv md ops n listed) : ∀ i, i < n → m ≤ i → (listed.getD i false = true ∨ i ∈ Region.ready md ops listed) → listed.getD s false = true := by
  intro i
  induction i using Nat.strongRecOn with
  | _ i ih =>
    intro hin hmi hl
    unfold waitsB at hB
    rw [List.all_eq_true] at hB
    have h1 := hB i (by simpa using hin)
    simp only [Bool.or_eq_true, decide_eq_true_eq] at h1
    rcases h1 with h1 | h1
    · omega
    · cases ho : ops[i]? with
      | none => rw [ho] at h1; cases h1
      | some o =>
        rw [ho] at h1
        simp only [Array.any_eq_true'] at h1
        obtain ⟨e, he, h2⟩ := h1
        simp only [Bool.and_eq_true, Bool.or_eq_true, beq_iff_eq, decide_eq_true_eq] at h2
        obtain ⟨hb, h2⟩ := h2
        have hon : listed.getD e.on false = true := by
          rcases hl with hl | hl
          · exact inv.closed i o ho hl e he hb
          · obtain ⟨_, o', ho', hall⟩ := mem_ready.1 hl
            rw [ho] at ho'
            injection ho' with ho'
            subst ho'
            exact hall e he hb
        rcases h2 with h2 | ⟨h2, h3⟩
        · rw [← h2]; exact hon
        · exact ih e.on h3 (by omega) h2 (.inl hon)
def headA (P : Program) (md : Region.Mode) (ops : Array Oper) (D : Bool → World → Prop) (s m n : Nat) (L : Array Bool → Act → Prop) : Nat → Array Bool → Act → Prop
  | 0, listed, a => L listed a
  | f + 1, listed, a =>
    Region.ready md ops listed ≠ [] ∧ ∀ i ∈ Region.ready md ops listed, i < n ∧ aOp P ops D s m i (headA P md ops D s m n L f (listed.setIfInBounds i true)) a
theorem any_of_headA {n g : Nat} {L : Array Bool → Act → Prop} {Q' : Exit → Act → World → Prop} (hB : waitsB md ops s m n = true) (hL : ∀ listed a w, D (listed.getD s false) w → L listed a → wpAny P md ops Q' g listed a w) :
    ∀ (f : Nat) (listed : Array Bool) (a : Act) (w : World), HeadInv md ops n listed → D (listed.getD s false) w → headA P md ops D s m n L f listed a → wpAny P md ops Q' (f + g) listed a w
  | 0, listed, a, w, _, hw, h => by rw [Nat.zero_add]; exact hL _ _ _ hw h
  | f + 1, listed, a, w, inv, hw, h => by
    rw [show f + 1 + g = (f + g) + 1 by omega]
    exact ⟨fun h0 => absurd h0 h.1, fun i hi => wpOp_of_aOp (mem_ready.1 hi).1 hw (fun hm => waits_listed hB inv i (h.2 i hi).1 hm (.inr hi)) (fun a' w' hw' h' => any_of_headA hB hL f _ a' w' (inv.set hi (h.2 i hi).1) hw' h') (h.2 i hi).2⟩
theorem headA_first {n i : Nat} {oi : Oper} {v : Value} {L : Array Bool → Act → Prop} (hi : ops[i]? = some oi) (hsel : ∀ (j : Nat) (o : Oper) cs b, ops[j]? = some o → o.op ≠ .select cs b)
    (hs : Region.sinkB md ops n = true) (hc : Region.chainB md ops n = true) (hn : n < ops.size) (hin : i < n)
    (hdone : ∀ listed a, L listed a → ∀ j ∈ Region.ready md ops listed, n ≤ j) :
    ∀ (f : Nat) (listed : Array Bool) (a : Act), HeadInv md ops n listed →
      (∀ j oj, ops[j]? = some oj → j ≠ i → listed.getD j true = false → (∀ e ∈ oj.after, Region.binds md e = true → e.on ≠ i) → oi.apart ops oj = true) →
      i ∈ Region.ready md ops listed → YA P ops D s m i oi v a →
      headA P md ops D s m n L f (listed.setIfInBounds i true) (a.put oi.dst v) → headA P md ops D s m n L (f + 1) listed a := by
  intro f
  induction f with
  | zero =>
    intro listed a inv _ hr hy H
    have hun := (mem_ready.1 hr).1
    refine ⟨fun h => (by rw [h] at hr; cases hr), fun j hj => ?_⟩
    have hjn : j < n := by
      rcases Nat.lt_or_ge j n with h | h
      · exact h
      · exact absurd hj (tail_waits hs hc hn inv _ i rfl hin hun j h)
    refine ⟨hjn, ?_⟩
    by_cases hji : j = i
    · subst hji; exact ⟨oi, v, hi, hy, H⟩
    · have := hdone _ _ H j (ready_mono hj hji)
      omega
  | succ f ih =>
    intro listed a inv hfree hr hy H
    have hun := (mem_ready.1 hr).1
    refine ⟨fun h => (by rw [h] at hr; cases hr), fun j hj => ?_⟩
    have hjn : j < n := by
      rcases Nat.lt_or_ge j n with h | h
      · exact h
      · exact absurd hj (tail_waits hs hc hn inv _ i rfl hin hun j h)
    refine ⟨hjn, ?_⟩
    by_cases hji : j = i
    · subst hji; exact ⟨oi, v, hi, hy, H⟩
    · have h1 := (H.2 j (ready_mono hj hji)).2
      obtain ⟨hjun, oj, hoj, hall⟩ := mem_ready.1 hj
      have hnot : ∀ e ∈ oj.after, Region.binds md e = true → e.on ≠ i := fun e he hb heq => by
        have h1 := hall e he hb
        rw [heq, getD_both hun] at h1
        cases h1
      have h2 := aOp_put hoj (hfree j oj hoj hji hjun hnot) (fun cs b => hsel i oi cs b hi) (fun cs b => hsel j oj cs b hoj) hy h1
      have hfree' : ∀ k ok, ops[k]? = some ok → k ≠ i → (listed.setIfInBounds j true).getD k true = false →
          (∀ e ∈ ok.after, Region.binds md e = true → e.on ≠ i) → oi.apart ops ok = true := fun k ok hk hki hun hno => by
        refine hfree k ok hk hki ?_ hno
        by_cases hjk : j = k
        · subst hjk; exact hjun
        · rw [getD_set_ne true hjk] at hun; exact hun
      refine aOp_mono (fun a' h3 => ih (listed.setIfInBounds j true) a' (inv.set hj hjn) hfree' (ready_mono hr (Ne.symm hji)) h3.1 ?_) h2
      rw [Array.setIfInBounds_comm _ _ hji]
      exact h3.2
def walkA (P : Program) (ops : Array Oper) (D : Bool → World → Prop) (s m : Nat) (Lq : Act → Prop) : List Oper → Nat → Act → Prop
  | [], _, a => Lq a
  | o :: l, k, a => ∃ v, YA P ops D s m k o v a ∧ walkA P ops D s m Lq l (k + 1) (a.put o.dst v)
theorem headA_lex {n g : Nat} {Lq : Act → Prop} (hsel : Region.noSelect ops = true) (hs : Region.sinkB md ops n = true) (hc : Region.chainB md ops n = true) (hn : n < ops.size) (hsn : s < n) :
    ∀ (l : List Oper) (k : Nat) (listed : Array Bool) (a : Act), (∀ j, j < l.length → l[j]? = ops[k + j]?) → k + l.length = n → (s < k → listed.getD s false = true) → HeadInv md ops n listed →
    Region.lexHead md ops g l.length k listed = true → walkA P ops D s m Lq l k a →
    headA P md ops D s m n (fun listed' a' => Region.seqB md ops g n listed' = true ∧ listed'.getD s false = true ∧ Lq a') l.length listed a
  | [], k, listed, a, _, hk, hls, _, hB, h => by
    have : k = n := by simpa using hk
    subst this
    exact ⟨by simpa [Region.lexHead] using hB, hls hsn, h⟩
  | o :: l, k, listed, a, hl, hk, hls, inv, hB, h => by
    have h0 : ops[k]? = some o := by simpa using (hl 0 (by simp)).symm
    simp only [List.length_cons, Region.lexHead, Bool.and_eq_true] at hB
    obtain ⟨⟨hr, hf⟩, hB'⟩ := hB
    have hkn : k < n := by simp only [List.length_cons] at hk; omega
    have hr' : k ∈ Region.ready md ops listed := by simpa using hr
    obtain ⟨v, hy, hK⟩ := h
    refine headA_first h0 (Region.noSelect_spec hsel) hs hc hn hkn (fun listed' a' hL => seqB_ready hL.1) l.length listed a inv (Region.free_spec h0 hf) hr' hy
      (headA_lex hsel hs hc hn hsn l (k + 1) _ _ (fun j hj => by have := hl (j + 1) (by simp; omega); simpa [Nat.add_assoc, Nat.add_comm 1 j] using this) (by simp only [List.length_cons] at hk; omega) (fun hlt => ?_) (inv.set hr' hkn) hB' hK)
    by_cases hsk : s = k
    · subst hsk
      have : s < listed.size := by rw [inv.size]; omega
      simp [this]
    · exact getD_set_true (hls (by omega))
theorem wp_region_alloc_tail {id : Nat} {Q : Exit → Act → World → Prop} {a : Act} {w : World} {l : List Oper} (n s m : Nat) (hm : P.follows .mixedOrders = true) (hB : Region.lexTailB .any l.toArray n = true) (hW : waitsB .any l.toArray s m n = true) (hsn : s < n) (h0 : D false { w with drawn := w.drawn + 1 })
    (h : walkA P l.toArray D s m (fun a' => ∀ w', D true w' → wpList P l.toArray Q (l.drop n) a' w') (l.take n) 0 a) : (Code.region id l.toArray true).wp P Q a w := by
  simp only [Region.lexTailB, Bool.and_eq_true, decide_eq_true_eq] at hB
  obtain ⟨⟨⟨⟨hsel, hn⟩, hs⟩, hc⟩, hlex⟩ := hB
  have hn' : n < l.length := by simpa using hn
  have htl : (l.take n).length = n := by simp; omega
  have hdl : (l.drop n).length = l.toArray.size - n := by simp
  have inv0 : HeadInv .any l.toArray n (Array.replicate l.toArray.size false) :=
    ⟨by simp, fun j oj _ hl => (by rw [getD_replicate_false] at hl; cases hl), fun t _ ht => getD_in (by simpa using ht) (getD_replicate_false _ _)⟩
  have H := headA_lex (md := .any) (g := l.toArray.size - n) (D := D) hsel hs hc hn hsn (l.take n) 0 _ a (fun j hj => by
    have hj' : j < n := by rw [htl] at hj; exact hj
    simp [hj']) (by simpa using htl) (fun h => absurd h (Nat.not_lt_zero _)) inv0 (by rw [htl]; exact hlex) h
  refine wp_region_any hm ?_
  have := any_of_headA (Q' := Q) (g := l.toArray.size - n) hW (fun listed a' w' hw' hL => by
    rw [hL.2.1] at hw'
    have := wpAny_of_seq (md := .any) (Q' := Q) (l.drop n) n listed a' w' (fun j => by simp [List.getElem?_drop]) (by rw [hdl]; exact hL.1) (hL.2.2 w' hw')
    rwa [hdl] at this) _ _ _ _ inv0 (by rw [getD_replicate_false]; exact h0) H
  rw [htl, show n + (l.toArray.size - n) = l.toArray.size by omega] at this
  exact this
theorem walkA_of_quiet {F : Act} {Lq : Act → Prop} {l2 : List Oper} (n : Nat) : ∀ (l : List Oper) (k : Nat) (a : Act), a.tmps.size = n → dstsOk n l = true → (∀ j, j < l.length → k + j ≠ s) →
    (∀ b, wpQuiet P ops (D b) (fun a' => a' = F) l a) → walkA P ops D s m Lq l2 (k + l.length) F → walkA P ops D s m Lq (l ++ l2) k a
  | [], k, a, _, _, _, h, h2 => by rw [show a = F from h true]; simpa using h2
  | o :: l, k, a, hn, hd, hks, h, h2 => by
    obtain ⟨v, hv, hv'⟩ := yields_of_wpQuiet (h true)
    obtain ⟨u, hu, hu'⟩ := yields_of_wpQuiet (h false)
    simp only [dstsOk, Bool.and_eq_true] at hd
    obtain ⟨hd1, hd2⟩ := hd
    have huv : u = v := by
      cases hd' : o.dst with
      | none => rw [hd'] at hd1; simp at hd1
      | some d =>
        rw [hd'] at hd1 hv' hu'
        simp only [Bool.and_eq_true, decide_eq_true_eq] at hd1
        have e1 := wpQuiet_keeps l _ hv' hd1.2
        have e2 := wpQuiet_keeps l _ hu' hd1.2
        have hlt : d < a.tmps.size := by rw [hn]; exact hd1.1
        simp [Act.put, hlt] at e1 e2
        rw [e1] at e2
        exact (Option.some.inj e2).symm
    subst huv
    refine ⟨u, ?_, walkA_of_quiet n l (k + 1) _ (by rw [put_size]; exact hn) hd2 (fun j hj => by have := hks (j + 1) (by simpa using hj); omega) (fun b => by cases b; exact hu'; exact hv') ?_⟩
    · have : k ≠ s := by have := hks 0 (by simp); simpa using this
      unfold YA
      rw [if_neg this]
      intro b _
      cases b
      · exact hu
      · exact hv
    · have e : k + (o :: l).length = k + 1 + l.length := by simp only [List.length_cons]; omega
      rw [← e]
      exact h2
/-- Behind number m all is at D true. -/
theorem walkA_of_later {Lq : Act → Prop} (hs : s < m) : ∀ (l : List Oper) (k : Nat) (a : Act), m ≤ k → wpQuiet P ops (D true) Lq l a → walkA P ops D s m Lq l k a
  | [], k, a, _, h => h
  | o :: l, k, a, hk, h => by
    obtain ⟨v, hv, hv'⟩ := yields_of_wpQuiet h
    refine ⟨v, ?_, walkA_of_later hs l (k + 1) _ (by omega) hv'⟩
    unfold YA
    rw [if_neg (by omega)]
    intro b hb
    rw [hb hk]
    exact hv
end
/-- The worlds with the heap of W (only draws). -/
structure Same (W : World) where
  val : World
  heap : val.heap = W.heap
  ext : Ext W val
instance (W : World) : Nonempty (Same W) := ⟨⟨W, rfl, Ext.rfl' W⟩⟩
theorem Same.alloc {W : World} (n : Same W) (o : Obj) : Ext (W.alloc o) (n.val.alloc o) := by
  have e : (n.val.alloc o).heap = (W.alloc o).heap := by
    show n.val.heap.push o = W.heap.push o
    rw [n.heap]
  exact ⟨n.ext.os, n.ext.tape, n.ext.output, by rw [e]; exact Nat.le_refl _, fun k _ => by rw [e]⟩
theorem Same.size {W : World} (n : Same W) : n.val.heap.size = W.heap.size := by rw [n.heap]
/-- One walk: up to the operation that makes memory (number s, value v, then the world W1), on to number m in either world, then in the later one, then the tail. -/
theorem wp_region_alloc {P : Program} {id : Nat} {Q : Exit → Act → World → Prop} {a : Act} {w : World} {l : List Oper} (n s m : Nat) {os : Oper} (W1 : World) (v : Value)
    (hm : P.follows .mixedOrders = true) (hB : Region.lexTailB .any l.toArray n = true) (hW : waitsB .any l.toArray s m n = true) (hsm : s < m) (hmn : m ≤ n) (hos : l[s]? = some os) (hd : (dstsOk a.tmps.size (l.take s) && dstsOk a.tmps.size ((l.take m).drop (s + 1))) = true)
    (h : ∃ F1 F2 : Act, (∀ b : Bool, wpQuiet P l.toArray (fun w' => if b then (∃ n : Grow W1, w' = n.val) else ∃ n : Same w, w' = n.val) (fun a' => a' = F1) (l.take s) a) ∧
      Region.wanted os (yielded l.toArray F1.tmps) = true ∧
      (∀ n : Same w, goesTo (fun w' => ∃ m : Grow W1, w' = m.val) v ((execOp F1.eval os).run P n.val)) ∧
      (∀ b : Bool, wpQuiet P l.toArray (fun w' => if b then (∃ n : Grow W1, w' = n.val) else ∃ n : Same w, w' = n.val) (fun a' => a' = F2) ((l.take m).drop (s + 1)) (F1.put os.dst v)) ∧
      wpQuiet P l.toArray (fun w' => ∃ n : Grow W1, w' = n.val) (fun a' => ∀ w', (∃ n : Grow W1, w' = n.val) → wpList P l.toArray Q (l.drop n) a' w') ((l.take n).drop m) F2) : (Code.region id l.toArray true).wp P Q a w := by
  obtain ⟨F1, F2, h1, hw, hst, h2, h3⟩ := h
  simp only [Bool.and_eq_true] at hd
  have hll : n < l.length := by
    simp only [Region.lexTailB, Bool.and_eq_true, decide_eq_true_eq] at hB
    simpa using hB.1.1.1.2
  have hs1 : F1.tmps.size = a.tmps.size := by
    have key : ∀ (l0 : List Oper) (a0 : Act) (C : World → Prop), wpQuiet P l.toArray C (fun a' => a' = F1) l0 a0 → F1.tmps.size = a0.tmps.size := by
      intro l0
      induction l0 with
      | nil => intro a0 C h; rw [show a0 = F1 from h]
      | cons o l0 ih =>
        intro a0 C h
        obtain ⟨v, _, hv⟩ := yields_of_wpQuiet h
        rw [ih _ C hv, put_size]
    exact key _ _ _ (h1 true)
  refine wp_region_alloc_tail (D := fun b w' => if b then (∃ n : Grow W1, w' = n.val) else ∃ n : Same w, w' = n.val) n s m hm hB hW (by omega) ⟨⟨w.drew, rfl, Ext.drew' (Ext.rfl' w)⟩, rfl⟩ ?_
  obtain ⟨hlt, hge⟩ := List.getElem?_eq_some_iff.1 hos
  have e : l.take n = l.take s ++ (os :: ((l.take m).drop (s + 1) ++ (l.take n).drop m)) := by
    have e1 : l.take n = l.take m ++ (l.take n).drop m := by
      conv => lhs; rw [← List.take_append_drop m (l.take n)]
      rw [List.take_take, Nat.min_eq_left hmn]
    have e2 : l.take m = l.take s ++ (os :: (l.take m).drop (s + 1)) := by
      conv => lhs; rw [← List.take_append_drop s (l.take m)]
      rw [List.take_take, Nat.min_eq_left (by omega)]
      congr 1
      have hlt' : s < (l.take m).length := by simp; omega
      rw [List.drop_eq_getElem_cons hlt']
      congr 1
      simp [hge]
    refine e1.trans ?_
    rw [← List.cons_append, ← List.append_assoc, ← e2]
  rw [e]
  refine walkA_of_quiet a.tmps.size (l.take s) 0 a rfl hd.1 (fun j hj => by simp at hj; omega) (fun b => h1 b) ?_
  have hl1 : (l.take s).length = s := by simp; omega
  rw [Nat.zero_add, hl1]
  refine ⟨v, ?_, ?_⟩
  · unfold YA
    rw [if_pos rfl]
    exact ⟨hw, fun w' ⟨n, hn⟩ => by subst hn; exact hst n⟩
  · refine walkA_of_quiet a.tmps.size ((l.take m).drop (s + 1)) (s + 1) _ (by rw [put_size]; exact hs1) hd.2 (fun j hj => by omega) (fun b => h2 b) ?_
    exact walkA_of_later hsm _ _ _ (by simp; omega) h3
end Go.Proofs.Ytkogkcjiachphaa
