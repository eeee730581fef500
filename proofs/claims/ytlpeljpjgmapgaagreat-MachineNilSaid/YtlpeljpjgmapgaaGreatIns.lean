/- Instructions as plain data; what layer 7 says of one. -/
import Derived.Test.YtlpeljpjgmapgaaGreatBase2
import Derived.Test.YtlpeljpjgmapgaaGreatProg
import Derived.Deep.RegionLaw
import Derived.Deep.CutBlock
import Derived.Deep.DeepCutAuto
namespace Go.Proofs.YtlpeljpjgmapgaaGreat
open Go.RowKit
set_option linter.unusedVariables false
set_option linter.unusedSimpArgs false

theorem heap_lt {w : World} {k : Nat} {o : Obj} (h : w.heap[k]? = some o) : k < w.heap.size := (Array.getElem?_eq_some_iff.1 h).1
theorem cell_obj {w : World} {k i : Nat} {cs : Array Value} {t : TypeId} {fr : Nat × Nat} (h : w.heap[k]? = some (.cells cs t fr)) : w.cell? ⟨k, i, none⟩ = cs[i]? := by simp [World.cell?, h]
theorem frozen_obj {w : World} {k i : Nat} {cs : Array Value} {t : TypeId} (h : w.heap[k]? = some (.cells cs t (0, 0))) : w.frozen? ⟨k, i, none⟩ = false := by simp [World.frozen?, h]
theorem obj_top (w : World) (o : Obj) {k : Nat} (h : k = w.heap.size) : (w.alloc o).heap[k]? = some o := by subst h; exact heap_alloc_new w o
theorem obj_old {w : World} {k : Nat} {x : Obj} (o : Obj) (h : w.heap[k]? = some x) : (w.alloc o).heap[k]? = some x := (heap_alloc_old w o (heap_lt h)).trans h
theorem Ext.obj {w w' : World} (h : Ext w w') {k : Nat} {o : Obj} (ho : w.heap[k]? = some o) : w'.heap[k]? = some o := (h.block k (heap_lt ho)).trans ho
/-- An instruction. -/
structure Ins where
  op : Int
  dst : Int
  src : Int
  off : Int
  imm : Int
def Ins.enc (x : Ins) : List Value := [.int .u8 x.op, .int .u8 x.dst, .int .u8 x.src, .int .i16 x.off, .int .i32 x.imm]
@[reducible] def Ins.agg (x : Ins) : Value := .agg #[.int .u8 x.op, .int .u8 x.dst, .int .u8 x.src, .int .i16 x.off, .int .i32 x.imm]
structure Ins.Ok (x : Ins) : Prop where
  op : 0 ≤ x.op ∧ x.op ≤ 255
  dst : 0 ≤ x.dst ∧ x.dst ≤ 255
  src : 0 ≤ x.src ∧ x.src ≤ 255
  off : -32768 ≤ x.off ∧ x.off ≤ 32767
  imm : -2147483648 ≤ x.imm ∧ x.imm ≤ 2147483647
theorem enc_ins : Enc 5 Ins.enc := ⟨fun _ => rfl, fun x u hu => by
  simp only [Ins.enc, List.mem_cons, List.not_mem_nil, or_false] at hu
  rcases hu with rfl | rfl | rfl | rfl | rfl <;> rfl⟩
theorem el_ins : El Tryz.prog 22 64 5 12 (.agg #[.int .u8 0, .int .u8 0, .int .u8 0, .int .i16 0, .int .i32 0]) := ⟨Tryz.underlying22, by kernel_rfl, rfl, by decide, fun _ => by kernel_rfl⟩
/-- What an instruction does. -/
structure Wh where
  kind : Int
  op : Int
  wide : Bool
  reg : Bool
  signed : Bool
  size : Int
@[reducible] def Wh.agg (x : Wh) : Value := .agg #[.int .u8 x.kind, .int .u8 x.op, .bool x.wide, .bool x.reg, .bool x.signed, .int .i64 x.size]
@[reducible] def Wh.zero : Wh := ⟨0, 0, false, false, false, 0⟩
/-- What is told of what an instruction does: a thing, if there is one; else whatever with false. -/
def WhA (o : Option Wh) (w : World) (e : Ending) (w' : World) : Prop :=
  ∃ (x : Wh) (b : Bool), e = .returned (.tuple #[x.agg, .bool b]) ∧ o = (if b then some x else none) ∧ Ext w w'
abbrev insObj (x : Ins) : Obj := .cells #[.int .u8 x.op, .int .u8 x.dst, .int .u8 x.src, .int .i16 x.off, .int .i32 x.imm] 64 (0, 0)
abbrev whObj (x : Wh) : Obj := .cells #[.int .u8 x.kind, .int .u8 x.op, .bool x.wide, .bool x.reg, .bool x.signed, .int .i64 x.size] 90 (0, 0)
theorem set6 {w0 w : World} {B : Nat} {y0 : Wh} (h : w.heap[B]? = some (whObj y0)) (he : Ext w0 w) (hb : w0.heap.size ≤ B) (k o : Int) (a b c : Bool) (n : Int) :
    ((((((w.setCell ⟨B, 0, none⟩ (.int .u8 k)).setCell ⟨B, 1, none⟩ (.int .u8 o)).setCell ⟨B, 2, none⟩ (.bool a)).setCell ⟨B, 3, none⟩ (.bool b)).setCell ⟨B, 4, none⟩ (.bool c)).setCell ⟨B, 5, none⟩ (.int .i64 n)).heap[B]? = some (whObj ⟨k, o, a, b, c, n⟩) ∧
    Ext w0 ((((((w.setCell ⟨B, 0, none⟩ (.int .u8 k)).setCell ⟨B, 1, none⟩ (.int .u8 o)).setCell ⟨B, 2, none⟩ (.bool a)).setCell ⟨B, 3, none⟩ (.bool b)).setCell ⟨B, 4, none⟩ (.bool c)).setCell ⟨B, 5, none⟩ (.int .i64 n)) := by
  refine ⟨?_, (((((he.setCell hb _).setCell hb _).setCell hb _).setCell hb _).setCell hb _).setCell hb _⟩
  have h1 := heap_setCell_same w B 0 _ _ (.int .u8 k) h
  have h2 := heap_setCell_same _ B 1 _ _ (.int .u8 o) h1
  have h3 := heap_setCell_same _ B 2 _ _ (.bool a) h2
  have h4 := heap_setCell_same _ B 3 _ _ (.bool b) h3
  have h5 := heap_setCell_same _ B 4 _ _ (.bool c) h4
  have h6 := heap_setCell_same _ B 5 _ _ (.int .i64 n) h5
  simpa using h6
def zerosS (x : Ins) (s o i : Bool) : Bool := !((s && x.src != 0) || (o && x.off != 0) || (i && x.imm != 0))
def arithS (x : Ins) (h : Int) (wd rg : Bool) : Option Wh :=
  if x.dst = 10 then none else if zerosS x (!rg) false rg = false then none else
  if h = 0 ∨ h = 16 ∨ h = 32 ∨ h = 64 ∨ h = 80 ∨ h = 160 ∨ h = 96 ∨ h = 112 ∨ h = 192 then (if x.off = 0 then some ⟨1, h, wd, rg, false, 0⟩ else none)
  else if h = 48 ∨ h = 144 then (if x.off = 0 ∨ x.off = 1 then some ⟨1, h, wd, rg, false, 0⟩ else none)
  else if h = 128 then (if rg = false ∧ zerosS x true true true = true then some ⟨1, h, wd, rg, false, 0⟩ else none)
  else if h = 176 then (if x.off = 0 ∨ (rg = true ∧ (x.off = 8 ∨ x.off = 16 ∨ (x.off = 32 ∧ wd = true))) then some ⟨1, h, wd, rg, false, 0⟩ else none)
  else none
theorem byte_all (P : Int → Prop) (h : ∀ n : Fin 256, P (n.val : Int)) (x : Int) (hx : 0 ≤ x ∧ x ≤ 255) : P x := by
  have := h ⟨x.toNat, by omega⟩
  simpa [Int.toNat_of_nonneg hx.1] using this
set_option maxHeartbeats 1000000 in
theorem p_class (x : Ins) (w : World) (h : 0 ≤ x.op ∧ x.op ≤ 255) : Calls Tryz.prog 96 #[x.agg] w fun e w' => e = .returned (.int .u8 (x.op % 8)) ∧ w' = w.alloc (.cells #[.int .u8 x.op, .int .u8 x.dst, .int .u8 x.src, .int .i16 x.off, .int .i32 x.imm] 64) := by
  have e : bits .and .u8 x.op 7 = x.op % 8 := byte_all (fun x => bits .and .u8 x 7 = x % 8) (by decide +kernel) x.op h
  go_enter Tryz.func96, Tryz.ntmps96
  go_wp2_with fail
  go_returns
  exact ⟨rfl, rfl⟩
set_option maxHeartbeats 1000000 in
theorem p_zeros (x : Ins) (s o i : Bool) (w : World) : Calls Tryz.prog 140 #[x.agg, .bool s, .bool o, .bool i] w fun e w' => e = .returned (.bool (zerosS x s o i)) ∧ w' = w.alloc (.cells #[.int .u8 x.op, .int .u8 x.dst, .int .u8 x.src, .int .i16 x.off, .int .i32 x.imm] 64) := by
  obtain ⟨a, ha⟩ : ∃ a, (x.src != 0) = a := ⟨_, rfl⟩
  obtain ⟨b, hb⟩ : ∃ b, (x.off != 0) = b := ⟨_, rfl⟩
  obtain ⟨c, hc⟩ : ∃ c, (x.imm != 0) = c := ⟨_, rfl⟩
  have HS : Hid (zerosS x s o i = !((s && a) || (o && b) || (i && c))) := Lib.hid (by rw [zerosS, ha, hb, hc])
  cases s <;> cases o <;> cases i <;> cases a <;> cases b
  all_goals
    go_enter Tryz.func140, Tryz.ntmps140
    go_wp2_with fail
    go_returns
    exact ⟨by rw [HS.out]; simp, rfl⟩
theorem p_zerosE (x : Ins) (s o i z : Bool) (w : World) (hz : zerosS x s o i = z) : Calls Tryz.prog 140 #[x.agg, .bool s, .bool o, .bool i] w fun e w' => e = .returned (.bool z) ∧ w' = w.alloc (.cells #[.int .u8 x.op, .int .u8 x.dst, .int .u8 x.src, .int .i16 x.off, .int .i32 x.imm] 64) := hz ▸ p_zeros x s o i w
end Go.Proofs.YtlpeljpjgmapgaaGreat
