/- Maps of layer 9: a map more; what New makes. -/
import Derived.Test.YtjimmbcihcmfoaaTabE
namespace Go.Proofs.Ytjimmbcihcmfoaa
open Go.RowKit
set_option linter.unusedVariables false
set_option linter.unusedSimpArgs false

theorem opt_nodup' (o : Option Nat) : o.toList.Nodup := by cases o <;> simp
/-- A map more. -/
theorem TabAt.push {w wr w5 : World} {base tb : Nat} {S : Tabs} {lv : Value} {x : TRec} (h : TabAt w base tb S) (he : Ext w wr) (hx1 : wr.heap[x.a]? = some (.cells x.cells 79 (0, 0))) (hx2 : SMap wr x.r x.T.strs) (hfr : w.heap.size ≤ x.a ∧ w.heap.size ≤ x.r ∧ x.a ≠ x.r)
    (hmade : x.T.made ≤ 1024 ∧ ∀ p ∈ x.T.slots, p.2 ≤ 1024) (hk : Keep S.mv.ownBlock.toList wr w5) (hmv : ∀ k, lv.ownBlock = some k → S.mv.ownBlock = some k ∨ wr.heap.size ≤ k) (hl : Own w5 base 76 1 encT lv (S.R ++ [x])) (hfew : S.R.length < 8) :
    TabAt (w5.setCell ⟨tb, 1, none⟩ lv) base tb { S with mv := lv, R := S.R ++ [x] } ∧ Keep (tfoot tb S) w (w5.setCell ⟨tb, 1, none⟩ lv) ∧ ∀ j ∈ tfoot tb { S with mv := lv, R := S.R ++ [x] }, j ∈ tfoot tb S ∨ (w.heap.size ≤ j ∧ (j = x.a ∨ j = x.r ∨ wr.heap.size ≤ j)) := by
  have n0 := List.nodup_cons.1 h.apart
  have n1 := List.nodup_append.1 n0.2
  have n2 := List.nodup_append.1 n1.2.1
  have hlt := h.lt
  have hsz := he.size
  have hxa := heap_lt hx1
  have hxr := hx2.lt
  have htlt := heap_lt h.head
  have hF : ∀ j ∈ S.mv.ownBlock.toList, j ∈ tfoot tb S := fun j hj => by simp only [tfoot, List.mem_cons, List.mem_append]; exact .inr (.inl hj)
  have hFlt : ∀ j ∈ S.mv.ownBlock.toList, j < w.heap.size := fun j hj => hlt j (hF j hj)
  have htF : tb ∉ S.mv.ownBlock.toList := fun hj => n0.1 (List.mem_append_left _ hj)
  have hrec : ∀ y ∈ S.R, ∀ j ∈ TRec.blocks y, j ∉ S.mv.ownBlock.toList := fun y hy j hj hj' => n1.2.2 j hj' j (List.mem_append_left _ (List.mem_flatMap.2 ⟨y, hy, hj⟩)) rfl
  have hmem : ∀ j ∈ foot S.b S.r S.L, j ∉ S.mv.ownBlock.toList := fun j hj hj' => n1.2.2 j hj' j (List.mem_append_right _ hj) rfl
  have hrlt : ∀ y ∈ S.R, ∀ j ∈ TRec.blocks y, j < w.heap.size := fun y hy j hj => hlt j (by simp only [tfoot, List.mem_cons, List.mem_append, List.mem_flatMap]; exact .inr (.inr (.inl ⟨y, hy, hj⟩)))
  have hflt : ∀ j ∈ foot S.b S.r S.L, j < w.heap.size := h.mem.lt
  have hlv : ∀ k, lv.ownBlock = some k → k ≠ tb ∧ (∀ y ∈ S.R ++ [x], k ∉ TRec.blocks y) ∧ k ∉ foot S.b S.r S.L := by
    intro k hk'
    rcases hmv k hk' with h1 | h1
    · have hin : k ∈ S.mv.ownBlock.toList := by simpa using h1
      have hkl := hFlt k hin
      refine ⟨fun e => htF (by rw [← e]; exact hin), fun y hy hy' => ?_, fun hj => hmem k hj hin⟩
      rcases List.mem_append.1 hy with hy | hy
      · exact hrec y hy k hy' hin
      · rw [List.mem_singleton] at hy
        subst hy
        simp only [TRec.blocks, List.mem_cons, List.not_mem_nil, or_false] at hy'
        rcases hy' with rfl | rfl <;> omega
    · refine ⟨by omega, fun y hy hy' => ?_, fun hj => by have := hflt k hj; omega⟩
      rcases List.mem_append.1 hy with hy | hy
      · have := hrlt y hy k hy'; omega
      · rw [List.mem_singleton] at hy
        subst hy
        simp only [TRec.blocks, List.mem_cons, List.not_mem_nil, or_false] at hy'
        rcases hy' with rfl | rfl <;> omega
  have kk : Keep [tb] w5 (w5.setCell ⟨tb, 1, none⟩ lv) := (Keep.rfl' [tb] w5).setCell (by simp) _
  have o5 := hk.obj (he.obj h.head) htF
  have hone : ∀ y ∈ S.R ++ [x], w5.heap[y.a]? = some (.cells y.cells 79 (0, 0)) ∧ SMap w5 y.r y.T.strs ∧ y.a ≠ tb ∧ y.r ≠ tb := by
    intro y hy
    rcases List.mem_append.1 hy with hy | hy
    · have hne : ∀ j ∈ TRec.blocks y, j ≠ tb := fun j hj e => n0.1 (List.mem_append_right _ (List.mem_append_left _ (by rw [← e]; exact List.mem_flatMap.2 ⟨y, hy, hj⟩)))
      exact ⟨hk.obj (he.obj (h.ones y hy)) (hrec y hy _ (by simp [TRec.blocks])), ((h.slots y hy).ext he).keep hk (hrec y hy _ (by simp [TRec.blocks])), hne _ (by simp [TRec.blocks]), hne _ (by simp [TRec.blocks])⟩
    · rw [List.mem_singleton] at hy
      subst hy
      exact ⟨hk.obj hx1 (fun hj => by have := hFlt _ hj; omega), hx2.keep hk (fun hj => by have := hFlt _ hj; omega), by omega, by omega⟩
  refine ⟨⟨?_, h.low, hl.keep kk (fun j hj => by simpa using (hlv j hj).1), fun y hy => kk.obj (hone y hy).1 (by simpa using (hone y hy).2.2.1), fun y hy => (hone y hy).2.1.keep kk (by simpa using (hone y hy).2.2.2), ?_, ?_, by simp; omega, ?_⟩, ?_, ?_⟩
  · have := heap_setCell_same w5 tb 1 _ _ lv o5
    simpa using this
  · refine ((h.mem.ext he).keep hk hmem).keep kk (fun j hj => ?_)
    simp only [List.mem_singleton]
    intro e
    subst e
    exact n0.1 (List.mem_append_right _ (List.mem_append_right _ hj))
  · have hb : (S.R ++ [x]).flatMap TRec.blocks = S.R.flatMap TRec.blocks ++ TRec.blocks x := by simp
    simp only [tfoot]
    rw [hb, List.nodup_cons, List.nodup_append, List.nodup_append, List.nodup_append]
    refine ⟨?_, opt_nodup' _, ⟨⟨n2.1, by simpa [TRec.blocks] using hfr.2.2, ?_⟩, n2.2.1, ?_⟩, ?_⟩
    · intro hj
      simp only [List.mem_append] at hj
      rcases hj with hj | (hj | hj) | hj
      · exact (hlv tb (by simpa using hj)).1 rfl
      · exact n0.1 (List.mem_append_right _ (List.mem_append_left _ hj))
      · simp only [TRec.blocks, List.mem_cons, List.not_mem_nil, or_false] at hj
        rcases hj with hj | hj <;> omega
      · exact n0.1 (List.mem_append_right _ (List.mem_append_right _ hj))
    · intro a ha b hb' e
      subst e
      obtain ⟨y, hy, hya⟩ := List.mem_flatMap.1 ha
      have := hrlt y hy a hya
      simp only [TRec.blocks, List.mem_cons, List.not_mem_nil, or_false] at hb'
      rcases hb' with hb' | hb' <;> omega
    · intro a ha b hb' e
      subst e
      rcases List.mem_append.1 ha with ha | ha
      · exact n2.2.2 a ha a hb' rfl
      · have := hflt a hb'
        simp only [TRec.blocks, List.mem_cons, List.not_mem_nil, or_false] at ha
        rcases ha with ha | ha <;> omega
    · intro a ha b hb' e
      subst e
      have h2 := hlv a (by simpa using ha)
      rcases List.mem_append.1 hb' with hb' | hb'
      · rcases List.mem_append.1 hb' with hb' | hb'
        · obtain ⟨y, hy, hya⟩ := List.mem_flatMap.1 hb'
          exact h2.2.1 y (List.mem_append_left _ hy) hya
        · exact h2.2.1 x (by simp) hb'
      · exact h2.2.2 hb'
  · intro y hy
    rcases List.mem_append.1 hy with hy | hy
    · exact h.made y hy
    · rw [List.mem_singleton] at hy
      subst hy
      exact hmade
  · exact (((Keep.of_ext he).trans (hk.mono fun j hj => .inl hj)).mono fun j hj => .inl (hF j hj)).setCell (by simp [tfoot]) _
  · intro j hj
    simp only [tfoot, List.mem_cons, List.mem_append, List.flatMap_append, List.flatMap_cons, List.flatMap_nil, List.append_nil] at hj ⊢
    rcases hj with hj | hj | (hj | hj) | hj
    · exact .inl (.inl hj)
    · rcases hmv j (by simpa using hj) with h1 | h1
      · exact .inl (.inr (.inl (by simpa using h1)))
      · exact .inr ⟨by omega, .inr (.inr h1)⟩
    · exact .inl (.inr (.inr (.inl hj)))
    · simp only [TRec.blocks, List.mem_cons, List.not_mem_nil, or_false] at hj
      rcases hj with rfl | rfl
      · exact .inr ⟨hfr.1, .inl rfl⟩
      · exact .inr ⟨hfr.2.1, .inr (.inl rfl)⟩
    · exact .inl (.inr (.inr (.inr hj)))

def TDef.tm (d : TDef) : TM := ⟨d.hash, d.key, d.val, d.max, [], 0⟩
/-- The first k numbers get zeros. -/
def tfill (V : Areas × List TM) (i : Int) (val : Nat) : Nat → Option (Areas × List TM)
  | 0 => some V
  | k + 1 => (tfill V i val k).bind fun V' => tslot V' i (numKey k) (List.replicate val 0)
def tnew1 (V : Areas × List TM) (d : TDef) : Option (Areas × List TM) :=
  if d.hash then some (V.1, V.2 ++ [d.tm]) else tfill (V.1, V.2 ++ [d.tm]) V.2.length d.val.toNat d.max.toNat
/-- .. of the first k definitions. -/
def tnews (M : Areas) (ds : List TDef) : Nat → Option (Areas × List TM)
  | 0 => some (M, [])
  | k + 1 => (tnews M ds k).bind fun V => (ds[k]?).bind (tnew1 V)
def tnew (M : Areas) (ds : List TDef) : Option (Areas × List TM) := if rightL ds then tnews M ds ds.length else none
end Go.Proofs.Ytjimmbcihcmfoaa
