/- The document's maps: a map more; what New makes. -/
import Derived.Test.YtjimmbcihcmfoaaRTG
import Derived.Test.YtjimmbcihcmfoaaRTC
import Derived.Test.YtjimmbcihcmfoaaTabM
namespace Go.Proofs.Ytjimmbcihcmfoaa
open Go.RowKit
set_option linter.unusedVariables false
set_option linter.unusedSimpArgs false

/-- A map more. -/
theorem RTabAt.push {w wr w5 : World} {base tb : Nat} {S : RTabs} {lv : Value} {x : RM} (h : RTabAt w base tb S) (he : Ext w wr) (hx : Own w base 90 2 encKS x.lv x.T.slots) (hxf : ∀ j, x.lv.ownBlock = some j → j ∉ rtfoot tb S)
    (hmade : x.T.made ≤ 1024 ∧ ∀ p ∈ x.T.slots, p.2 ≤ 1024) (hk : Keep S.mv.ownBlock.toList wr w5) (hmv : ∀ k, lv.ownBlock = some k → S.mv.ownBlock = some k ∨ wr.heap.size ≤ k) (hl : Own w5 base 87 6 RM.enc lv (S.R ++ [x])) (hfew : S.R.length < 8) :
    RTabAt (w5.setCell ⟨tb, 1, none⟩ lv) base tb { S with mv := lv, R := S.R ++ [x] } ∧ Keep (rtfoot tb S) w (w5.setCell ⟨tb, 1, none⟩ lv) ∧ ∀ j ∈ rtfoot tb { S with mv := lv, R := S.R ++ [x] }, j ∈ rtfoot tb S ∨ x.lv.ownBlock = some j ∨ w.heap.size ≤ j := by
  have n0 := List.nodup_cons.1 h.apart
  have n1 := List.nodup_append.1 n0.2
  have n2 := List.nodup_append.1 n1.2.1
  have hlt := fun j hj => (h.lt j hj).2
  have hsz := he.size
  have htlt := heap_lt h.head
  have hxlt : ∀ j, x.lv.ownBlock = some j → j < w.heap.size := fun j hj => (hx.lt hj).2
  have hF : ∀ j ∈ S.mv.ownBlock.toList, j ∈ rtfoot tb S := fun j hj => by simp only [rtfoot, List.mem_cons, List.mem_append]; exact .inr (.inl hj)
  have hFlt : ∀ j ∈ S.mv.ownBlock.toList, j < w.heap.size := fun j hj => hlt j (hF j hj)
  have htF : tb ∉ S.mv.ownBlock.toList := fun hj => n0.1 (List.mem_append_left _ hj)
  have hin : ∀ y ∈ S.R, ∀ j, y.lv.ownBlock = some j → j ∈ S.R.flatMap (fun x => x.lv.ownBlock.toList) := fun y hy j hj => List.mem_flatMap.2 ⟨y, hy, by simpa using hj⟩
  have hrt : ∀ y ∈ S.R, ∀ j, y.lv.ownBlock = some j → j ∈ rtfoot tb S := fun y hy j hj => by simp only [rtfoot, List.mem_cons, List.mem_append]; exact .inr (.inr (.inl (hin y hy j hj)))
  have hrec : ∀ y ∈ S.R, ∀ j, y.lv.ownBlock = some j → j ∉ S.mv.ownBlock.toList := fun y hy j hj hj' => n1.2.2 j hj' j (List.mem_append_left _ (hin y hy j hj)) rfl
  have hmem : ∀ j ∈ rfoot S.rb S.lv S.L, j ∉ S.mv.ownBlock.toList := fun j hj hj' => n1.2.2 j hj' j (List.mem_append_right _ hj) rfl
  have htx : ∀ j, x.lv.ownBlock = some j → j ≠ tb ∧ j ∉ S.mv.ownBlock.toList ∧ j ∉ S.R.flatMap (fun x => x.lv.ownBlock.toList) ∧ j ∉ rfoot S.rb S.lv S.L := fun j hj => by
    have := hxf j hj
    simp only [rtfoot, List.mem_cons, List.mem_append, not_or] at this
    exact ⟨this.1, this.2.1, this.2.2.1, this.2.2.2⟩
  have hlv : ∀ k, lv.ownBlock = some k → k ≠ tb ∧ (∀ y ∈ S.R ++ [x], y.lv.ownBlock ≠ some k) ∧ k ∉ rfoot S.rb S.lv S.L := by
    intro k hk'
    rcases hmv k hk' with h1 | h1
    · have hin : k ∈ S.mv.ownBlock.toList := by simpa using h1
      refine ⟨fun e => htF (by rw [← e]; exact hin), fun y hy hy' => ?_, fun hj => hmem k hj hin⟩
      rcases List.mem_append.1 hy with hy | hy
      · exact hrec y hy k hy' hin
      · rw [List.mem_singleton] at hy
        subst hy
        exact (htx k hy').2.1 hin
    · refine ⟨by omega, fun y hy hy' => ?_, fun hj => by have := hlt k (rfoot_sub tb S k hj); omega⟩
      rcases List.mem_append.1 hy with hy | hy
      · have := hlt k (hrt y hy k hy'); omega
      · rw [List.mem_singleton] at hy
        subst hy
        have := hxlt k hy'; omega
  have kk : Keep [tb] w5 (w5.setCell ⟨tb, 1, none⟩ lv) := (Keep.rfl' [tb] w5).setCell (by simp) _
  have o5 := hk.obj (he.obj h.head) htF
  have hone : ∀ y ∈ S.R ++ [x], Own w5 base 90 2 encKS y.lv y.T.slots ∧ ∀ j, y.lv.ownBlock = some j → j ≠ tb := by
    intro y hy
    rcases List.mem_append.1 hy with hy | hy
    · exact ⟨((h.keys y hy).ext he).keep hk (hrec y hy), fun j hj e => n0.1 (List.mem_append_right _ (List.mem_append_left _ (by rw [← e]; exact hin y hy j hj)))⟩
    · rw [List.mem_singleton] at hy
      subst hy
      exact ⟨(hx.ext he).keep hk (fun j hj => (htx j hj).2.1), fun j hj => (htx j hj).1⟩
  refine ⟨⟨?_, h.low, hl.keep kk (fun j hj => by simpa using (hlv j hj).1), fun y hy => (hone y hy).1.keep kk (fun j hj => by simpa using (hone y hy).2 j hj), ?_, ?_, by simp; omega, ?_⟩, ?_, ?_⟩
  · have := heap_setCell_same w5 tb 1 _ _ lv o5
    simpa using this
  · refine ((h.mem.ext he).keep hk hmem).keep kk (fun j hj => ?_)
    simp only [List.mem_singleton]
    intro e
    subst e
    exact n0.1 (List.mem_append_right _ (List.mem_append_right _ hj))
  · have hb : (S.R ++ [x]).flatMap (fun x => x.lv.ownBlock.toList) = S.R.flatMap (fun x => x.lv.ownBlock.toList) ++ x.lv.ownBlock.toList := by simp
    simp only [rtfoot]
    rw [hb, List.nodup_cons, List.nodup_append, List.nodup_append, List.nodup_append]
    refine ⟨?_, opt_nodup'' _, ⟨⟨n2.1, opt_nodup'' _, ?_⟩, n2.2.1, ?_⟩, ?_⟩
    · intro hj
      simp only [List.mem_append] at hj
      rcases hj with hj | (hj | hj) | hj
      · exact (hlv tb (by simpa using hj)).1 rfl
      · exact n0.1 (List.mem_append_right _ (List.mem_append_left _ hj))
      · exact (htx tb (by simpa using hj)).1 rfl
      · exact n0.1 (List.mem_append_right _ (List.mem_append_right _ hj))
    · intro a ha b hb' e
      subst e
      exact (htx a (by simpa using hb')).2.2.1 ha
    · intro a ha b hb' e
      subst e
      rcases List.mem_append.1 ha with ha | ha
      · exact n2.2.2 a ha a hb' rfl
      · exact (htx a (by simpa using ha)).2.2.2 hb'
    · intro a ha b hb' e
      subst e
      have h2 := hlv a (by simpa using ha)
      rcases List.mem_append.1 hb' with hb' | hb'
      · rcases List.mem_append.1 hb' with hb' | hb'
        · obtain ⟨y, hy, hya⟩ := List.mem_flatMap.1 hb'
          exact h2.2.1 y (List.mem_append_left _ hy) (by simpa using hya)
        · exact h2.2.1 x (by simp) (by simpa using hb')
      · exact h2.2.2 hb'
  · intro y hy
    rcases List.mem_append.1 hy with hy | hy
    · exact h.made y hy
    · rw [List.mem_singleton] at hy
      subst hy
      exact hmade
  · exact (((Keep.of_ext he).trans (hk.mono fun j hj => .inl hj)).mono fun j hj => .inl (hF j hj)).setCell (by simp [rtfoot]) _
  · intro j hj
    simp only [rtfoot, List.mem_cons, List.mem_append, List.flatMap_append, List.flatMap_cons, List.flatMap_nil, List.append_nil] at hj ⊢
    rcases hj with hj | hj | (hj | hj) | hj
    · exact .inl (.inl hj)
    · rcases hmv j (by simpa using hj) with h1 | h1
      · exact .inl (.inr (.inl (by simpa using h1)))
      · exact .inr (.inr (by omega))
    · exact .inl (.inr (.inr (.inl hj)))
    · exact .inr (.inl (by simpa using hj))
    · exact .inl (.inr (.inr (.inr hj)))

/-- The first k numbers get zeros. -/
def rfill (M : Areas) (i : Int) (val : Nat) : Nat → Option Areas
  | 0 => some M
  | k + 1 => (rfill M i val k).bind fun M' => if (mmake M' (tarea i k) (List.replicate val 0) false false).2 = 0 then some (mmake M' (tarea i k) (List.replicate val 0) false false).1 else none
def TDef.full (d : TDef) : TM := { d.tm with slots := nums d.max.toNat, made := d.max.toNat }
def rnew1 (V : Areas × List TM) (d : TDef) : Option (Areas × List TM) :=
  if d.hash then some (V.1, V.2 ++ [d.tm]) else (rfill V.1 V.2.length d.val.toNat d.max.toNat).map fun M => (M, V.2 ++ [d.full])
def rnews (M : Areas) (ds : List TDef) : Nat → Option (Areas × List TM)
  | 0 => some (M, [])
  | k + 1 => (rnews M ds k).bind fun V => (ds[k]?).bind (rnew1 V)
def rnew (M : Areas) (ds : List TDef) : Option (Areas × List TM) := if rightL ds then rnews M ds ds.length else none
theorem rnew_le {M : Areas} {ds : List TDef} : ∀ {j k : Nat}, j ≤ k → rnews M ds j = none → rnews M ds k = none
  | j, 0, h, hn => by simpa [Nat.le_zero.1 h] using hn
  | j, k + 1, h, hn => by
    by_cases e : j = k + 1
    · rw [← e]; exact hn
    · rw [rnews, rnew_le (by omega : j ≤ k) hn]; rfl
theorem rfill_le {M : Areas} {i : Int} {val : Nat} : ∀ {j k : Nat}, j ≤ k → rfill M i val j = none → rfill M i val k = none
  | j, 0, h, hn => by simpa [Nat.le_zero.1 h] using hn
  | j, k + 1, h, hn => by
    by_cases e : j = k + 1
    · rw [← e]; exact hn
    · rw [rfill, rfill_le (by omega : j ≤ k) hn]; rfl
end Go.Proofs.Ytjimmbcihcmfoaa
