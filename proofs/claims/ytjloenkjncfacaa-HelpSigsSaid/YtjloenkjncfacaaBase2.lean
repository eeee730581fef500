/- More words on worlds that have only grown. -/
import Derived.Test.YtjloenkjncfacaaBase
namespace Go.Proofs.Ytjloenkjncfacaa
open Go.RowKit

/-- A block that was laid is there, cell by cell. -/
theorem Ext.row {W W' : World} {cs : Array Value} {t : TypeId} (h : Ext (W.alloc (.cells cs t)) W') : ∀ i, W'.cell? ⟨W.heap.size, i, none⟩ = cs[i]? := by
  intro i
  have hb := h.block W.heap.size (by simp)
  have h0 : (W.alloc (.cells cs t)).cell? ⟨W.heap.size, i, none⟩ = cs[i]? := World.cell?_alloc_new W cs t i
  rw [← h0]
  exact World.cell?_of_block (w := W.alloc (.cells cs t)) hb
theorem Ext.rowLater {b : Nat} {W W' : World} {cs : Array Value} (h : ∀ i, W.cell? ⟨b, i, none⟩ = cs[i]?) (hb : b < W.heap.size) (he : Ext W W') : ∀ i, W'.cell? ⟨b, i, none⟩ = cs[i]? := by
  intro i
  rw [← h i]
  exact Below.cell he hb
/-- .. in every world that comes later. -/
theorem Ext.rowAfter {b : Nat} {W : World} {cs : Array Value} (h : ∀ i, W.cell? ⟨b, i, none⟩ = cs[i]?) (hb : b < W.heap.size) : ∀ (n : After W) i, n.val.cell? ⟨b, i, none⟩ = cs[i]? := fun n i => by
  rw [← h i]
  exact Below.cell n.2 hb
theorem Ext.cellAfter {W : World} {a : Addr} {v : Value} (h : W.cell? a = some v) : ∀ n : After W, n.val.cell? a = some v := fun n => n.2.cellOf h
theorem alloc_lt {W W' : World} {o : Obj} (h : Ext (W.alloc o) W') : W.heap.size < W'.heap.size := by have := h.size; simp at this; omega
end Go.Proofs.Ytjloenkjncfacaa
