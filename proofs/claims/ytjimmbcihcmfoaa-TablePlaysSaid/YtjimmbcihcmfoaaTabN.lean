/- Maps of layer 9: New of one definition, items as laws read them. -/
import Derived.Test.YtjimmbcihcmfoaaTabJ
import Derived.Test.YtjimmbcihcmfoaaTabM
namespace Go.Proofs.Ytjimmbcihcmfoaa
open Go.RowKit
set_option linter.unusedVariables false
set_option linter.unusedSimpArgs false

def LawAns (w : World) (e : Ending) (w' : World) : Prop := e = .returned (.bool true) ∧ Ext w w'
def NewTb (W : World) (b : Nat) (V : Areas × List TM) (e : Ending) (w' : World) : Prop := ∃ tb, e = .returned (.tuple #[.pointer (some ⟨tb, 0, none⟩), .int .i64 0]) ∧ TabIn W w' b tb V []
theorem new_lit {W w1 w : World} {b : Nat} (h : MemIn W w1 b []) (k : Ext w1 w) (dv : Value) (ds : List TDef) {V : Areas × List TM} (hV : tnew [] ds = some V) (HD : Hid (FirmN W w1 w fun w' => Rd w' 4 TDef.enc dv ds)) :
    Calls Try.prog 10 #[.pointer (some ⟨b, 0, none⟩), dv] w (NewTb W b V) := by
  refine (int_new h k dv ds HD).mono ?_
  rintro e w' ⟨he, h⟩
  rw [hV] at h
  rcases h with ⟨h, -⟩ | ⟨tb, V', h1, rfl, h2⟩
  · cases h
  · injection h1 with h1; subst h1; exact ⟨tb, rfl, h2⟩
theorem new_lit1 {W w3 : World} {b : Nat} (h : MemIn W w3 b []) (ha : Bool) (x y z : Int) {V : Areas × List TM} (hV : tnew [] [⟨ha, x, y, z⟩] = some V) :
    Calls Try.prog 10 #[.pointer (some ⟨b, 0, none⟩), .slice (some ⟨w3.heap.size, 0, none⟩) 1 1] (w3.alloc (.cells #[.bool ha, .int .i64 x, .int .i64 y, .int .i64 z] 53)) (NewTb W b V) :=
  new_lit h ((Ext.rfl' _).alloc' _) _ [⟨ha, x, y, z⟩] hV (Lib.hid (FirmN.of_new (Own.lit enc_def (base := 0) [⟨ha, x, y, z⟩] rfl rfl (Nat.zero_le _) (by simp [maxLen]) |>.rd enc_def) (Nat.le_refl _)))
theorem new_lit2 {u w3 : World} {b : Nat} (ha : Bool) (x y z : Int) (h : MemIn (u.alloc (.cells #[.bool ha, .int .i64 x, .int .i64 y, .int .i64 z] 53)).drew w3 b []) {V : Areas × List TM} (hV : tnew [] [⟨ha, x, y, z⟩] = some V) :
    Calls Try.prog 10 #[.pointer (some ⟨b, 0, none⟩), .slice (some ⟨u.heap.size, 0, none⟩) 1 1] w3 (NewTb (u.alloc (.cells #[.bool ha, .int .i64 x, .int .i64 y, .int .i64 z] 53)).drew b V) := by
  have hr := (Own.lit enc_def (base := 0) (w := u) (e := 53) [⟨ha, x, y, z⟩] rfl rfl (Nat.zero_le _) (by simp [maxLen])).rd enc_def
  have hr2 := hr.ext (Ext.rfl' _).drew'
  exact new_lit h (Ext.rfl' _) _ [⟨ha, x, y, z⟩] hV (Lib.hid (FirmN.of_old hr2 h.ext))
theorem in_new0 (w : World) : Calls Try.prog 9 #[] w (NewIn w) := in_new (Ext.rfl' w)
theorem item_cells {w : World} {v : Value} {L : List IT} (R : Rd w 2 IT.enc v L) {i : Nat} {x : IT} (hx : L[i]? = some x) :
    w.cell? (elt v (i * 2)) = some x.kv ∧ w.cell? ⟨(elt v (i * 2)).block, (elt v (i * 2)).off + 1, none⟩ = some x.vv := by
  have E := R.elt_add hx
  have F : ∀ (p : Addr) (j : Nat), j ≠ 0 → (⟨p.block, p.off + j, none⟩ : Addr) = p.add j := fun p j h => by simp [Addr.add, h]
  rw [F _ 1 (by decide), E]
  exact ⟨R.cell hx (j := 0) rfl, R.cell hx (j := 1) rfl⟩
/-- Rows of items, as laws keep them. -/
theorem IsItems.ext {w w' : World} {v : Value} {l : List (ByteArray × List Int)} (h : IsItems w v l) (k : Ext w w') : IsItems w' v l := by
  obtain ⟨I, h1, h2, h3⟩ := h
  exact ⟨I, h1.ext k, fun x hx => ⟨(h2 x hx).1.ext k, (h2 x hx).2.ext k⟩, h3⟩
end Go.Proofs.Ytjimmbcihcmfoaa
