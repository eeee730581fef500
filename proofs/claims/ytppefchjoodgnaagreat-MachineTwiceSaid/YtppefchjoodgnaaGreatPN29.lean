/- What the claim leans on: MsE · Ps · R7A · R7B · R7C · R7D · Alloc · AllocB · R7E · R7F · R7G · MsF · MsG · ContI · SortI · GrA · GrB · GrC · GrP. -/
import Derived.Test.YtppefchjoodgnaaGreatPN27
import Derived.Test.YtppefchjoodgnaaGreatPN22
import Derived.Deep.CutBlock
import Derived.Test.YtppefchjoodgnaaGreatPN18
import Derived.Test.YtppefchjoodgnaaGreatPN16
import Derived.Test.YtppefchjoodgnaaGreatPN19
import Derived.Test.YtppefchjoodgnaaGreatPN15
import Derived.StillTail
import Derived.Test.YtppefchjoodgnaaGreatPN01
import Derived.Test.YtppefchjoodgnaaGreatPN20
import Derived.Test.YtppefchjoodgnaaGreatPN17
import Derived.Shelf.Sort.Plain
import Derived.Shelf.Slices.In.SortNone
import Derived.Shelf.Slices.CompactI
import Derived.Test.YtppefchjoodgnaaGreatProg
import Derived.Lib.OwnBridge
import Derived.Sort.OwnSorted
namespace Go.Proofs.YtppefchjoodgnaaGreat
open Go.RowKit
set_option linter.unusedVariables false
set_option linter.unusedSimpArgs false
section
variable {F0 Z0 : List Nat} {wf w w' : World} {base mb : Nat} {σ : RS} {l : RLay}
theorem tell_id (c : Cl) (i : Nat) (t : Int) : (σ.tell c i t).1.id = c.id ∧ (σ.tell c i t).1.ret = c.ret := by
 unfold RS.tell
 (repeat' split) <;> exact ⟨rfl, rfl⟩
theorem tells_id : ∀ (ts : List Int) (c : Cl) (i : Nat), (σ.tells c i ts).1.id = c.id ∧ (σ.tells c i ts).1.ret = c.ret
 | [], c, i => ⟨rfl, rfl⟩
 | t :: ts, c, i => by
  unfold RS.tells
  split
  ·exact tell_id c i t
  ·have h1 := tells_id ts (σ.tell c i t).1 (i + 1)
   have h2 := tell_id (σ := σ) c i t
   exact ⟨h1.1.trans h2.1, h1.2.trans h2.2⟩
theorem told_id {id : Int} (h : (σ.told id).2 = 0) : (σ.told id).1.id = id ∧ (σ.told id).1.ret = 0 := by
 unfold RS.told at h ⊢
 split
 ·rename_i h1
  rw [if_pos h1] at h
  exact absurd h h1
 ·exact tells_id _ _ _
theorem tells_cons {c : Cl} {i : Nat} {t : Int} {ts : List Int} (h : (σ.tells c i (t :: ts)).2 = 0) : (σ.tell c i t).2 = 0 ∧ σ.tells c i (t :: ts) = σ.tells (σ.tell c i t).1 (i + 1) ts := by
 rw [RS.tells] at h ⊢
 by_cases h1 : (σ.tell c i t).2 ≠ 0
 ·rw [if_pos h1] at h; exact absurd h h1
 ·rw [if_neg h1]; exact ⟨by simpa using h1, rfl⟩
theorem tell_n {c : Cl} {i : Nat} {t : Int} (ht : t = 1 ∨ t = 2 ∨ t = 3) : (σ.tell c i t).1.n = c.n := by
 unfold RS.tell
 (repeat' split) <;> first | rfl | omega
theorem tell_n4 {c : Cl} {i : Nat} (h : (σ.tell c i 4).2 = 0) : (σ.tell c i 4).1.n = c.n ++ [σ.R (i + 1)] := by
 unfold RS.tell at h ⊢
 by_cases hs : σ.S (i + 1) = false
 ·rw [if_pos hs] at h; simp at h
 ·rw [if_neg hs]; simp
theorem told2_n (h : (σ.told 2).2 = 0) : (σ.told 2).1.n = [σ.R 4] := by
 have e : tolds 2 = [1, 2, 3, 4] := by simp [tolds]
 have h1 : (σ.tells (Cl.new 2) 0 [1, 2, 3, 4]).2 = 0 ∧ (σ.told 2).1 = (σ.tells (Cl.new 2) 0 [1, 2, 3, 4]).1 := by
  unfold RS.told at h ⊢
  by_cases hz : (σ.tells (Cl.new 2) 0 (tolds 2)).2 ≠ 0
  ·rw [if_pos hz] at h; exact absurd h hz
  ·rw [if_neg hz]; exact ⟨by rw [← e]; simpa using hz, by rw [← e]⟩
 rw [h1.2]
 have a := tells_cons h1.1
 rw [a.2]
 have b := tells_cons (by rw [← a.2]; exact h1.1)
 rw [b.2]
 have c := tells_cons (by rw [← b.2, ← a.2]; exact h1.1)
 rw [c.2]
 have d := tells_cons (by rw [← c.2, ← b.2, ← a.2]; exact h1.1)
 rw [d.2, RS.tells]
 simp only
 rw [tell_n4 d.1, tell_n (by simp), tell_n (by simp), tell_n (by simp)]
 rfl
theorem tell_val (hb : BytesOk σ.V.1) {c : Cl} {i : Nat} {t : Int} (hc : ∀ q ∈ c.val, 0 ≤ q ∧ q ≤ 255) : ∀ q ∈ (σ.tell c i t).1.val, 0 ≤ q ∧ q ≤ 255 := by
 unfold RS.tell
 (repeat' split) <;> first | exact hc | exact (mread_u8 hb _ _).1
theorem tells_val (hb : BytesOk σ.V.1) : ∀ (ts : List Int) (c : Cl) (i : Nat), (∀ q ∈ c.val, 0 ≤ q ∧ q ≤ 255) → ∀ q ∈ (σ.tells c i ts).1.val, 0 ≤ q ∧ q ≤ 255
 | [], c, i, h => h
 | t :: ts, c, i, h => by
  unfold RS.tells
  split
  ·exact tell_val hb h
  ·exact tells_val hb ts _ _ (tell_val hb h)
theorem told_val (hb : BytesOk σ.V.1) (id : Int) : ∀ q ∈ (σ.told id).1.val, 0 ≤ q ∧ q ≤ 255 := by
 unfold RS.told
 split
 ·intro q hq; cases hq
 ·exact tells_val hb _ _ _ (fun q hq => by cases hq)
theorem cell_kept {w w' : World} {a : Addr} {v : Value} (h : ∀ o, w.heap[a.block]? = some o → w'.heap[a.block]? = some o) (c : w.cell? a = some v) : w'.cell? a = some v := by
 unfold World.cell? at c ⊢
 cases hb : w.heap[a.block]? with
 | none => rw [hb] at c; cases c
 | some o => rw [h o hb]; rw [hb] at c; exact c
def clrN (σ : RS) (k : Nat) : RS := { σ with R := fun j => if 1 ≤ j ∧ j ≤ k then 0 else σ.R j, S := fun j => if 1 ≤ j ∧ j ≤ k then false else σ.S j }
structure CallAt (Q F0 Z0 : List Nat) (wf : World) (base mb : Nat) (σ : RS) (p q : Nat) (sv : Value) (id : Int) (w : World) (y : CB) : Prop where
 rel : MRelQ Q F0 Z0 wf base w mb σ
 sig : w.heap[p]? = some (sigObj sv (tells id) (draws id) (most id))
 box : w.heap[q]? = some (cbObj y)
 c : CAt w 0 y
 hp : p ∈ Q ∧ wf.heap.size ≤ p ∧ p ≠ q ∧ p ≠ mb
 hq : q ∈ Q ∧ wf.heap.size ≤ q ∧ q ≠ mb
 hy : ∀ j ∈ vblk y.kv ++ (vblk y.vv ++ vblk y.nv), j ∈ Q ∧ wf.heap.size ≤ j ∧ j ≠ q
theorem CallAt.step {Q : List Nat} {p q : Nat} {sv : Value} {id : Int} {y : CB} (h : CallAt Q F0 Z0 wf base mb σ p q sv id w y) {σ' : RS} {w5 : World} (hr : MRelQ Q F0 Z0 wf base w5 mb σ') (hk : ∀ j ∈ Q, ∀ o, w.heap[j]? = some o → w5.heap[j]? = some o) : CallAt Q F0 Z0 wf base mb σ' p q sv id w5 y := by
 have hv : ∀ {v : Value} {e : TypeId} {sz : Nat} {α : Type} {enc : α → List Value} {xs : List α}, Own w 0 e sz enc v xs → (∀ j ∈ vblk v, j ∈ Q) → Own w5 0 e sz enc v xs := fun ho hj => own_objs ho (fun j o h1 h2 => hk j (hj j (by rw [own_vblk ho]; simp [h1])) o h2)
 exact ⟨hr, hk p h.hp.1 _ h.sig, hk q h.hq.1 _ h.box, ⟨hv h.c.key (fun j hj => (h.hy j (by simp [hj])).1), hv h.c.val (fun j hj => (h.hy j (by simp [hj])).1), hv h.c.n (fun j hj => (h.hy j (by simp [hj])).1)⟩, h.hp, h.hq, h.hy⟩
theorem CallAt.ext {Q : List Nat} {p q : Nat} {sv : Value} {id : Int} {y : CB} (h : CallAt Q F0 Z0 wf base mb σ p q sv id w y) (he : Ext w w') : CallAt Q F0 Z0 wf base mb σ p q sv id w' y :=
 h.step (h.rel.go he) (fun j _ o ho => he.obj ho)
theorem CallAt.ret {Q : List Nat} {p q : Nat} {sv : Value} {id : Int} {y : CB} (h : CallAt Q F0 Z0 wf base mb σ p q sv id w y) (n : Int) : CallAt Q F0 Z0 wf base mb σ p q sv id (w.setCell ⟨q, 5, none⟩ (.int .u64 n)) { y with c := { y.c with ret := n } } := by
 have k : Keep [q] w (w.setCell ⟨q, 5, none⟩ (.int .u64 n)) := (Keep.rfl' _ _).setCell (by simp) _
 have hv : ∀ {v : Value} {e : TypeId} {sz : Nat} {α : Type} {enc : α → List Value} {xs : List α}, Own w 0 e sz enc v xs → (∀ j ∈ vblk v, j ≠ q) → Own (w.setCell ⟨q, 5, none⟩ (.int .u64 n)) 0 e sz enc v xs := fun ho hj => ho.keep k (fun j h1 h2 => by rw [List.mem_singleton] at h2; exact hj j (by rw [own_vblk ho]; simp [h1]) h2)
 refine ⟨h.rel.box h.hq.1 h.hq.2.1 5 _, (heap_setCell_other w _ _ _ (show p ≠ q from h.hp.2.2.1)).trans h.sig, ?_, ⟨hv h.c.key (fun j hj => (h.hy j (List.mem_append_left _ hj)).2.2), hv h.c.val (fun j hj => (h.hy j (List.mem_append_right _ (List.mem_append_left _ hj))).2.2), hv h.c.n (fun j hj => (h.hy j (List.mem_append_right _ (List.mem_append_right _ hj))).2.2)⟩, h.hp, h.hq, h.hy⟩
 have := heap_setCell_same w q 5 _ _ (.int .u64 n) h.box
 rw [this]
 rfl
theorem CallAt.new (h : MRel F0 Z0 wf base w mb σ) {w1 w2 w3 : World} {B p : Nat} {sv : Value} {id : Int} {y : CB} (h1 : Ext w w1) (hp : w.heap.size ≤ p) (hs : w1.heap[p]? = some (sigObj sv (tells id) (draws id) (most id))) (hb : w.heap.size ≤ B) (hc : CAt w2 B y) (h2 : Ext w1 w2) (hA : Ext w2 w3) (ho : w3.heap[w2.heap.size]? = some (cbObj y)) :
  ∃ Q, CallAt Q F0 Z0 wf base mb σ p w2.heap.size sv id w3 y := by
 have hpl := heap_lt hs
 have hsz := h2.size
 have hmb := h.lt
 have hwf := h.keep.size
 have hS := heap_lt ho
 have hvb : ∀ {v : Value} {e : TypeId} {sz : Nat} {α : Type} {enc : α → List Value} {xs : List α}, Own w2 B e sz enc v xs → ∀ j ∈ vblk v, B ≤ j ∧ j < w2.heap.size := fun ho j hj => ho.lt (by rw [own_vblk ho] at hj; simpa using hj)
 have hy : ∀ j ∈ vblk y.kv ++ (vblk y.vv ++ vblk y.nv), B ≤ j ∧ j < w2.heap.size := fun j hj => by
  rcases List.mem_append.1 hj with hj | hj
  ·exact hvb hc.key j hj
  ·rcases List.mem_append.1 hj with hj | hj
   ·exact hvb hc.val j hj
   ·exact hvb hc.n j hj
 refine ⟨p :: w2.heap.size :: (vblk y.kv ++ (vblk y.vv ++ vblk y.nv)), h.apart ((h1.trans' h2).trans' hA) (fun q hq => ?_), hA.obj (h2.obj hs), ho, (hc.ext hA).mono (Nat.zero_le _), ⟨by simp, by omega, by omega, by omega⟩, ⟨by simp, by omega, by omega⟩, fun j hj => ⟨by simp only [List.mem_cons]; exact .inr (.inr hj), by have := hy j hj; omega, by have := hy j hj; omega⟩⟩
 simp only [List.mem_cons] at hq
 rcases hq with rfl | rfl | hq
 ·omega
 ·have := h1.size; omega
 ·have := hy q hq; omega
end
def RS.vt (σ : RS) (T : List TM) : RS := { σ with V := (σ.V.1, T) }
section
variable {σ : RS} {T : List TM}
theorem vt_tell (c : Cl) (i : Nat) (t : Int) : (σ.vt T).tell c i t = σ.tell c i t := rfl
theorem vt_tells : ∀ (ts : List Int) (c : Cl) (i : Nat), (σ.vt T).tells c i ts = σ.tells c i ts
 | [], c, i => rfl
 | t :: ts, c, i => by
  unfold RS.tells
  rw [vt_tell]
  split
  ·rfl
  ·exact vt_tells ts _ _
theorem vt_told (id : Int) : (σ.vt T).told id = σ.told id := by
 unfold RS.told
 rw [vt_tells]
def vt2 {α : Type} (T : List TM) (a : RS × α) : RS × α := (a.1.vt T, a.2)
theorem vt2_ite {α : Type} {c : Prop} [Decidable c] (a b : RS × α) : vt2 T (if c then a else b) = if c then vt2 T a else vt2 T b := by split <;> rfl
theorem vt_arith (x : Ins) (k : Wh) : (σ.vt T).arith x k = vt2 T (σ.arith x k) := by
 unfold RS.arith
 rw [vt2_ite]
 rfl
theorem vt_load (x : Ins) (k : Wh) : (σ.vt T).load x k = vt2 T (σ.load x k) := by
 unfold RS.load
 rw [vt2_ite, vt2_ite]
 rfl
theorem vt_store (x : Ins) (k : Wh) : (σ.vt T).store x k = vt2 T (σ.store x k) := by
 unfold RS.store
 rw [vt2_ite, vt2_ite, vt2_ite]
 rfl
theorem vt_does (x : Ins) (k : Wh) (h11 : k.kind ≠ 11) : (σ.vt T).does x k = vt2 T (σ.does x k) := by
 unfold RS.does
 rw [if_neg (c := k.kind = 11) h11, if_neg (c := k.kind = 11) h11]
 rw [vt_arith, vt_load, vt_store]
 cases hy : σ.L[σ.place.toNat + 1]? with
 | none =>
  have hy' : (σ.vt T).L[(σ.vt T).place.toNat + 1]? = none := hy
  simp only [hy', vt2_ite]
  rfl
 | some y =>
  have hy' : (σ.vt T).L[(σ.vt T).place.toNat + 1]? = some y := hy
  simp only [hy', vt2_ite]
  rfl
theorem ite_v {c : Prop} [Decidable c] {a b : RS × Int × Int} {n : List TM} (ha : a.1.V.2 = n) (hb : b.1.V.2 = n) : (if c then a else b).1.V.2 = n := by split <;> assumption
theorem ite_v2 {c : Prop} [Decidable c] {a b : RS × Int} {n : List TM} (ha : a.1.V.2 = n) (hb : b.1.V.2 = n) : (if c then a else b).1.V.2 = n := by split <;> assumption
theorem does_v (x : Ins) (k : Wh) (h11 : k.kind ≠ 11) : (σ.does x k).1.V.2 = σ.V.2 := by
 unfold RS.does
 rw [if_neg (c := k.kind = 11) h11]
 refine ite_v (ite_v2 rfl rfl) (ite_v (ite_v rfl rfl) (ite_v ?_ (ite_v (ite_v rfl rfl) (ite_v (ite_v2 rfl (ite_v2 rfl rfl)) (ite_v (ite_v2 rfl (ite_v2 (ite_v2 rfl rfl) rfl)) (ite_v rfl (ite_v (ite_v rfl rfl) (ite_v (ite_v rfl rfl) rfl))))))))
 cases σ.L[σ.place.toNat + 1]? <;> rfl
end
def PS (F0 Z0 : List Nat) (wf : World) (base : Nat) (w : World) (mb : Nat) (σ : RS) : Prop := ∃ T, VRel (σ.V.1, T) σ.V ∧ PRel F0 Z0 wf base w mb (σ.vt T)
def PSAns (F0 Z0 : List Nat) (wf : World) (base mb : Nat) (σ : RS) (v : Value) (e : Ending) (w' : World) : Prop := e = .returned v ∧ PS F0 Z0 wf base w' mb σ
section
variable {F0 Z0 : List Nat} {wf w w' : World} {base mb : Nat} {σ : RS}
theorem PS.go (h : PS F0 Z0 wf base w mb σ) (k : Ext w w') : PS F0 Z0 wf base w' mb σ := by
 obtain ⟨T, r, h⟩ := h
 exact ⟨T, r, h.go k⟩
theorem PS.lt (h : PS F0 Z0 wf base w mb σ) : mb < w.heap.size := by
 obtain ⟨T, r, h⟩ := h
 exact h.lt
theorem PS.u8 (h : PS F0 Z0 wf base w mb σ) : BytesOk σ.V.1 := by
 obtain ⟨T, r, h⟩ := h
 exact h.u8
theorem PS.keep (h : PS F0 Z0 wf base w mb σ) : Keep F0 wf w := by
 obtain ⟨T, r, h⟩ := h
 exact h.keep
theorem PS.of {T : List TM} (r : VRel (σ.V.1, T) σ.V) {σ' : RS} (hv : σ'.V.2 = σ.V.2) (h : PRel F0 Z0 wf base w mb (σ'.vt T)) : PS F0 Z0 wf base w mb σ' := by
 refine ⟨T, ?_, h⟩
 have := r.areas σ'.V.1
 rw [← hv] at this
 exact this
end
section
variable {P : Program} {ops : Array Oper} {md : Region.Mode} {D : Bool → World → Prop} {s m : Nat}
def goesTo (C : World → Prop) (v : Value) : Result Next → Prop
 | .ok (.value u) w' => u = v ∧ C w'
 | _ => False
def YA (P : Program) (ops : Array Oper) (D : Bool → World → Prop) (s m i : Nat) (o : Oper) (v : Value) (a : Act) : Prop :=
 if i = s then Region.wanted o (yielded ops a.tmps) = true ∧ ∀ w, D false w → goesTo (D true) v ((execOp a.eval o).run P w)
 else ∀ b, (m ≤ i → b = true) → YieldsIn P ops (D b) o v a
theorem YA.of_same {i : Nat} {o : Oper} {v : Value} {a a' : Act} (hy : YA P ops D s m i o v a) (he : execOp a'.eval o = execOp a.eval o)
  (hw : Region.wanted o (yielded ops a'.tmps) = Region.wanted o (yielded ops a.tmps)) : YA P ops D s m i o v a' := by
 unfold YA at *
 split
 ·rename_i h; rw [if_pos h] at hy; rw [he, hw]; exact hy
 ·rename_i h; rw [if_neg h] at hy; exact fun b hb => (hy b hb).of_same he hw
end
structure Same (W : World) where
 val : World
 heap : val.heap = W.heap
 ext : Ext W val
instance (W : World) : Nonempty (Same W) := ⟨⟨W, rfl, Ext.rfl' W⟩⟩
theorem Same.alloc {W : World} (n : Same W) (o : Obj) : Ext (W.alloc o) (n.val.alloc o) := by
 have e : (n.val.alloc o).heap = (W.alloc o).heap := by
  show n.val.heap.push o = W.heap.push o
  rw [n.heap]
 exact ⟨n.ext.os, n.ext.tape, n.ext.output, by rw [e]; exact Nat.le_refl _, fun k _ => by rw [e]⟩
theorem Same.size {W : World} (n : Same W) : n.val.heap.size = W.heap.size := by rw [n.heap]
section
variable {P : Program} {ops : Array Oper} {md : Region.Mode} {D : Bool → Bool → World → Prop} {s t m : Nat}
def YB (P : Program) (ops : Array Oper) (D : Bool → Bool → World → Prop) (s t m i : Nat) (o : Oper) (v : Value) (a : Act) : Prop :=
 if i = s then Region.wanted o (yielded ops a.tmps) = true ∧ ∀ b w, D false b w → goesTo (D true b) v ((execOp a.eval o).run P w)
 else if i = t then o.dst = none ∧ Region.wanted o (yielded ops a.tmps) = true ∧ ∀ c w, D c false w → storesTo (D c true) ((execOp a.eval o).run P w)
 else ∀ c b, (m ≤ i → c = true) → YieldsIn P ops (D c b) o v a
theorem YB.of_same {i : Nat} {o : Oper} {v : Value} {a a' : Act} (hy : YB P ops D s t m i o v a) (he : execOp a'.eval o = execOp a.eval o)
  (hw : Region.wanted o (yielded ops a'.tmps) = Region.wanted o (yielded ops a.tmps)) : YB P ops D s t m i o v a' := by
 unfold YB at *
 split
 ·rename_i h; rw [if_pos h] at hy; rw [he, hw]; exact hy
 ·rename_i h
  rw [if_neg h] at hy
  split
  ·rename_i h2; rw [if_pos h2] at hy; rw [he, hw]; exact hy
  ·rename_i h2; rw [if_neg h2] at hy; exact fun c b hb => (hy c b hb).of_same he hw
end
structure Cls (w : World) (R : Nat) (z0 z1 lit : Obj) (c b : Bool) where
 val : World
 keep : Keep [R] w val
 res : val.heap[R]? = some (if b then z1 else z0)
 lits : if c then val.heap[w.heap.size]? = some lit else val.heap.size = w.heap.size
theorem Cls.obj {w : World} {R : Nat} {z0 z1 lit : Obj} {c b : Bool} (n : Cls w R z0 z1 lit c b) {k : Nat} {o : Obj} (ho : w.heap[k]? = some o) (hk : k ≠ R) : n.val.heap[k]? = some o := n.keep.obj ho (by simpa using hk)
theorem Calls.cls {P : Program} {f : FuncId} {args : Array Value} {w : World} {R : Nat} {z0 z1 lit : Obj} {b : Bool} {n : Cls w R z0 z1 lit true b} {v : Value} (h : Calls P f args n.val fun e w' => e = .returned v ∧ Ext n.val w') :
  Calls P f args n.val fun e w'' => e = .returned v ∧ ∃ m : Cls w R z0 z1 lit true b, w'' = m.val :=
 h.mono fun _ w' ⟨he, hE⟩ => ⟨he, ⟨w', n.keep.trans (Keep.of_ext hE), hE.obj n.res, by have := n.lits; simp only [if_true] at this ⊢; exact hE.obj this⟩, rfl⟩
theorem Cls.alloc {w : World} {R : Nat} {z0 z1 lit : Obj} {b : Bool} (n : Cls w R z0 z1 lit false b) : ∃ m : Cls w R z0 z1 lit true b, n.val.alloc lit = m.val := by
 have hz : n.val.heap.size = w.heap.size := by have := n.lits; simpa using this
 refine ⟨⟨n.val.alloc lit, n.keep.trans (Keep.of_ext (Ext.alloc' (Ext.rfl' _) _)), obj_old _ n.res, ?_⟩, rfl⟩
 simp only [if_true]
 exact obj_top _ _ hz.symm
theorem Cls.size {w : World} {R : Nat} {z0 z1 lit : Obj} {b : Bool} (n : Cls w R z0 z1 lit false b) : n.val.heap.size = w.heap.size := by have := n.lits; simpa using this
structure RS.Good (σ : RS) : Prop where
 ok : σ.Ok
 slots : SlotsOk σ.V
 dr : U64s σ.dr
 drl : σ.dr.length ≤ 1000000
 calls : σ.calls.length ≤ 1000000
 len : σ.L.length ≤ 512
 steps : 0 ≤ σ.steps ∧ σ.steps ≤ 1000000
 ins : InsOk σ.L
section
variable {F0 Z0 : List Nat} {wf w w' : World} {base mb : Nat} {σ : RS} {l : RLay}
theorem MRel.over (h : MRel F0 Z0 wf base w mb σ) (b : Bool) : MRel F0 Z0 wf base (w.setCell ⟨mb, 28, none⟩ (.bool b)) mb { σ with over := b } := h.cell1 28 _ (fun l => rfl)
end
section
variable {F0 Z0 : List Nat} {wf w w' : World} {base mb : Nat} {σ : RS} {l : RLay}
theorem ite_st {c : Prop} [Decidable c] {a b : RS × Int × Int} {n : Int} (ha : a.1.steps = n) (hb : b.1.steps = n) : (if c then a else b).1.steps = n := by split <;> assumption
theorem ite_st2 {c : Prop} [Decidable c] {a b : RS × Int} {n : Int} (ha : a.1.steps = n) (hb : b.1.steps = n) : (if c then a else b).1.steps = n := by split <;> assumption
theorem does_steps (x : Ins) (k : Wh) : (σ.does x k).1.steps = σ.steps := by
 unfold RS.does
 refine ite_st (ite_st2 rfl rfl) (ite_st (ite_st rfl rfl) (ite_st ?_ (ite_st (ite_st rfl rfl) (ite_st (ite_st2 rfl (ite_st2 rfl rfl)) (ite_st (ite_st2 rfl (ite_st2 (ite_st2 rfl rfl) rfl)) (ite_st rfl (ite_st (ite_st rfl rfl) (ite_st (ite_st2 rfl (ite_st2 rfl (ite_st2 (ite_st2 rfl rfl) (ite_st2 rfl rfl)))) (ite_st (ite_st rfl rfl) rfl)))))))))
 cases σ.L[σ.place.toNat + 1]? <;> rfl
structure RS.On (σ : RS) (p : Nat) (x : Ins) : Prop where
 place : σ.place = p
 code : σ.L[p]? = some x
 ok : x.Ok
 kind : KindOk x (whatZ x)
 long : (whatZ x).kind = 3 → ∃ y, σ.L[p + 1]? = some y
end
end Go.Proofs.YtppefchjoodgnaaGreat
namespace Go.Proofs
open Go.Shelf
end Go.Proofs
namespace Go.Proofs.YtppefchjoodgnaaGreat
open Go.RowKit
set_option linter.unusedVariables false
set_option linter.unusedSimpArgs false
abbrev encI : Int → List Value := fun x => [Value.int .i64 x]
section
open Go.Sort
end
def rawA (L : List Ins) (x : Ins) (k : Nat) : List Int := (if (whatZ x).kind ≠ 12 ∧ (whatZ x).kind ≠ 9 then [((nextI x k : Nat) : Int)] else []) ++ (targetS L x k).toList
def aheadL (L : List Ins) (x : Ins) (k : Nat) : List Int := Lib.compact ((rawA L x k).mergeSort fun x y => decide (x ≤ y))
theorem target_lt {L : List Ins} {x : Ins} {m : Nat} {t : Int} (ht : targetS L x m = some t) : 0 ≤ t ∧ t < L.length := by
 unfold targetS at ht
 cases h1 : toS x m with
 | none => rw [h1] at ht; cases ht
 | some u =>
  rw [h1] at ht
  simp only [] at ht
  split at ht
  ·injection ht with ht; omega
  ·cases ht
theorem compact1 (a : Int) : Lib.compact [a] = [a] := by
 simp [Lib.compact, Lib.compactUpTo, Lib.keeps, List.range_succ]
theorem compact2 (a b : Int) : Lib.compact [a, b] = if a = b then [a] else [a, b] := by
 by_cases h : a = b
 ·subst h
  simp [Lib.compact, Lib.compactUpTo, Lib.keeps, List.range_succ]
 ·have h' : ¬ b = a := fun e => h e.symm
  simp [Lib.compact, Lib.compactUpTo, Lib.keeps, List.range_succ, h, h']
theorem sort2 (a b : Int) : ([a, b].mergeSort fun x y => decide (x ≤ y)) = if a ≤ b then [a, b] else [b, a] := by
 by_cases h : a ≤ b
 ·have : ([a, b].mergeSort fun x y => decide (x ≤ y)) = [a, b] := List.mergeSort_of_pairwise (by simp [h])
  rw [this, if_pos h]
 ·rw [if_neg h]
  have hp : ([a, b].mergeSort fun x y => decide (x ≤ y)).Perm [a, b] := List.mergeSort_perm _ _
  have h2 : ([a, b].mergeSort fun x y => decide (x ≤ y)).Pairwise (fun x y => decide (x ≤ y) = true) := List.pairwise_mergeSort (by simp; omega) (by simp; omega) _
  generalize ([a, b].mergeSort fun x y => decide (x ≤ y)) = l at hp h2
  have hl := hp.length_eq
  match l, hl with
  | [c, d], _ =>
   have hc : c ∈ [a, b] := hp.subset (by simp)
   have hd : d ∈ [a, b] := hp.subset (by simp)
   have ha : a ∈ [c, d] := hp.symm.subset (by simp)
   have hb : b ∈ [c, d] := hp.symm.subset (by simp)
   simp at hc hd ha hb h2
   have h3 : c = b ∧ d = a := by omega
   rw [h3.1, h3.2]
def two (o : Bool) (a : Int) : Option Int → List Int
 | none => if o then [a] else []
 | some b => if o then (if a < b then [a, b] else if b < a then [b, a] else [a]) else [b]
theorem compact_sort (o : Bool) (a : Int) (p : Option Int) : Lib.compact (((if o then [a] else []) ++ p.toList).mergeSort fun x y => decide (x ≤ y)) = two o a p := by
 cases o <;> cases p
 ·simpa [two] using (show Lib.compact ([] : List Int) = [] from by simp [Lib.compact, Lib.compactUpTo])
 ·simpa [two] using compact1 _
 ·simpa [two] using compact1 _
 ·rename_i b
  simp only [if_true, Option.toList_some, List.cons_append, List.nil_append, two]
  rw [sort2]
  by_cases h1 : a < b
  ·rw [if_pos (by omega), if_pos h1, compact2, if_neg (by omega)]
  ·by_cases h2 : b < a
   ·rw [if_neg (by omega), if_neg h1, if_pos h2, compact2, if_neg (by omega)]
   ·rw [if_pos (by omega), if_neg h1, if_neg h2, compact2, if_pos (by omega)]
def goesOn (x : Ins) : Bool := (whatZ x).kind != 12 && (whatZ x).kind != 9
theorem ahead_two (L : List Ins) (x : Ins) (k : Nat) : aheadL L x k = two (goesOn x) (nextI x k : Nat) (targetS L x k) := by
 rw [← compact_sort, aheadL, rawA, goesOn]
 congr 2
 by_cases h1 : (whatZ x).kind = 12 <;> by_cases h2 : (whatZ x).kind = 9 <;> simp [h1, h2]
theorem mem_two {o : Bool} {a t : Int} {p : Option Int} : t ∈ two o a p ↔ (o = true ∧ t = a) ∨ p = some t := by
 cases o <;> cases p
 ·simp [two]
 ·rename_i b; simp [two, eq_comm]
 ·simp [two]
 ·rename_i b
  simp only [two, if_true, true_and, Option.some.injEq]
  by_cases h1 : a < b
  ·rw [if_pos h1]; simp [eq_comm]
  ·rw [if_neg h1]
   by_cases h2 : b < a
   ·rw [if_pos h2]; simp [eq_comm, or_comm]
   ·rw [if_neg h2]
    have : a = b := by omega
    subst this
    simp [eq_comm]
theorem mem_ahead {L : List Ins} {x : Ins} {k : Nat} {t : Int} : t ∈ aheadL L x k ↔ (goesOn x = true ∧ t = (nextI x k : Nat)) ∨ targetS L x k = some t := by
 rw [ahead_two, mem_two]
theorem st_at : ∀ (b : Bool) (L : List Ins) (k : Nat), (stF b L)[k]? = some true → (stF b L).drop k = stF false (L.drop k)
 | b, [], k, h => by cases b <;> simp [stF] at h
 | true, x :: xs, 0, h => by simp [stF] at h
 | true, x :: xs, k + 1, h => by
  simp only [stF, List.getElem?_cons_succ] at h
  simpa [stF] using st_at false xs k h
 | false, x :: xs, 0, h => rfl
 | false, x :: xs, k + 1, h => by
  simp only [stF, List.getElem?_cons_succ] at h
  simpa [stF] using st_at _ xs k h
theorem st_head {L : List Ins} {k : Nat} (h : stD L k) (hk : k < L.length) : (stF false L)[k]? = some true := by
 obtain ⟨y, hy⟩ := at_of_lt hk
 exact (st_step h hy).1
theorem nextI_le (x : Ins) (k : Nat) : k + 1 ≤ nextI x k ∧ nextI x k ≤ k + 2 := by unfold nextI; split <;> omega
structure ProgF (L : List Ins) : Prop where
 len : 1 ≤ L.length ∧ L.length ≤ 512
 o1 : ∀ j, j < L.length → ok1 L j = true
 o2 : ∀ j, j < L.length → ok2 L j = true
 last : endS L = true
theorem ProgF.of {L : List Ins} (h : progS L = true) : ProgF L := by
 unfold progS at h
 simp only [Bool.and_eq_true, decide_eq_true_eq, List.all_eq_true, List.mem_range] at h
 exact ⟨⟨h.1, h.2.1⟩, h.2.2.1, h.2.2.2.1, h.2.2.2.2⟩
theorem lastS_eq {L : List Ins} {k : Nat} (hk : (stF false L)[k]? = some true) : ∀ m, k < m → (∀ j, k < j → j < m → (stF false L)[j]? ≠ some true) → lastS L m = k
 | 0, h, _ => absurd h (Nat.not_lt_zero _)
 | m + 1, h, hn => by
  unfold lastS
  by_cases he : k = m
  ·subst he; rw [if_pos hk]
  ·rw [if_neg (hn m (by omega) (by omega))]
   exact lastS_eq hk m (by omega) (fun j h1 h2 => hn j h1 (by omega))
theorem ahead_start {L : List Ins} (hp : ProgF L) {k : Nat} {x : Ins} (hk : (stF false L)[k]? = some true) (hx : L[k]? = some x) {t : Int} (ht : t ∈ aheadL L x k) :
  0 ≤ t ∧ t < L.length ∧ (stF false L)[t.toNat]? = some true := by
 have hkl : k < L.length := (List.getElem?_eq_some_iff.1 hx).1
 rcases mem_ahead.1 ht with ⟨hg, rfl⟩ | ht
 ·obtain ⟨h1, h2, h3⟩ := st_step (st_at false L k hk) hx
  have hn := nextI_le x k
  have hlt : nextI x k < L.length := by
   rcases Nat.lt_or_ge (nextI x k) L.length with h | h
   ·exact h
   ·exfalso
    have hl : lastS L L.length = k := lastS_eq hk _ hkl (fun j hj1 hj2 hj3 => by
     have : x.op = 24 := by
      by_cases e : x.op = 24
      ·exact e
      ·unfold nextI at h; rw [if_neg e] at h; omega
     unfold nextI at h
     rw [if_pos this] at h
     obtain rfl : j = k + 1 := by omega
     rw [h3 this hj2] at hj3
     cases hj3)
    have he := hp.last
    unfold endS at he
    rw [hl, hx] at he
    unfold goesOn at hg
    simp only [Bool.or_eq_true, beq_iff_eq, Bool.and_eq_true, bne_iff_ne, ne_eq] at he hg
    rcases he with he | he
    ·exact hg.1 he
    ·exact hg.2 he
  exact ⟨by omega, by omega, by rw [Int.toNat_natCast]; exact st_head h2 hlt⟩
 ·obtain ⟨h0, h1⟩ := target_lt ht
  refine ⟨h0, h1, ?_⟩
  have h2 := hp.o2 k hkl
  rw [(ok1_at hk hx).2.1] at h2
  unfold targetS at ht
  cases hto : toS x k with
  | none => rw [hto] at ht; cases ht
  | some u =>
   rw [hto] at ht h2
   simp only [] at ht h2
   split at ht
   ·injection ht with ht
    subst ht
    unfold jumpOk at h2
    simp only [Bool.and_eq_true, beq_iff_eq] at h2
    exact h2.2.2
   ·cases ht
end Go.Proofs.YtppefchjoodgnaaGreat
