/- Maps of layer 9: sorted keys; bytes of a string. -/
import Derived.Test.YtjimmbcihcmfoaaTabG
import Derived.Test.YtjimmbcihcmfoaaSortS
import Derived.Sort.OwnSorted
namespace Go.Proofs.Ytjimmbcihcmfoaa
open Go.RowKit Go.Sort
set_option linter.unusedVariables false
set_option linter.unusedSimpArgs false

abbrev encK : ByteArray → List Value := fun k => [Value.string k]
theorem enc_k : Enc 1 encK := ⟨fun _ => rfl, fun x u hu => by simp at hu; subst hu; rfl⟩
theorem el_str : El Try.prog 93 9 1 16 (.string ⟨#[]⟩) := ⟨Try.underlying93, by kernel_rfl, rfl, by decide, fun _ => by kernel_rfl⟩
abbrev leB : List UInt8 → List UInt8 → Bool := fun x y => decide (x ≤ y)
/-- Keys, rising. -/
def sortK (ks : List ByteArray) : List ByteArray := ((ks.map fun k => k.data.toList).mergeSort leB).map fun l => ⟨l.toArray⟩
theorem sortK_perm (ks : List ByteArray) : (sortK ks).Perm ks := by
  have h := (List.mergeSort_perm (ks.map fun k => k.data.toList) leB).map fun l => (⟨l.toArray⟩ : ByteArray)
  have e : (ks.map fun k => k.data.toList).map (fun l => (⟨l.toArray⟩ : ByteArray)) = ks := by
    rw [List.map_map]
    conv => rhs; rw [← List.map_id ks]
    apply List.map_congr_left
    intro k _
    rfl
  rw [e] at h
  exact h
theorem sort_own {w : World} {base : Nat} {v : Value} {ks : List ByteArray} (h : Own w base 9 1 encK v ks) (hl : ks.length < 1000000) :
    Calls Try.prog 40 #[v] w fun e w' => e = .returned (.tuple #[]) ∧ Own w' base 9 1 encK v (sortK ks) ∧ Keep v.ownBlock.toList w w' := by
  obtain ⟨h1, h2⟩ := h
  rcases h2 with ⟨rfl, hn⟩ | ⟨g, cap, cur, rfl, hb, hg, hnc, hcm, hcs, ht⟩
  · obtain rfl : ks = [] := List.eq_nil_of_length_eq_zero hn
    refine (Go.Proofs.Try.slices_Sort_string_none none 0 w).mono ?_
    rintro e w' ⟨rfl, rfl⟩
    exact ⟨rfl, by simpa [sortK] using Own.nil _ _ _ _ _, Keep.rfl' _ _⟩
  · have hss : (ks.map fun k => k.data.toList).length = ks.length := by simp
    have he : (ks.map fun k => k.data.toList).map encStr = ks.flatMap encK := by
      rw [flat1, List.map_map]
      apply List.map_congr_left
      intro k _
      rfl
    have ht' : cur.toList.take (ks.map fun k => k.data.toList).length = (ks.map fun k => k.data.toList).map encStr := by
      rw [he, hss, ← ht, Nat.mul_one]
    have hc := Go.Proofs.Try.slices_Sort_string g 0 cap (ks.map fun k => k.data.toList) w (holds_of_block hg ht') (heap_lt hg) (by simp; omega)
    rw [hss] at hc
    refine hc.mono ?_
    rintro e w' ⟨rfl, n, os, rfl⟩
    have hsl : ((ks.map fun k => k.data.toList).mergeSort leB).length = (ks.map fun k => k.data.toList).length := List.length_mergeSort _
    refine ⟨rfl, ?_, grown_keep (grownBy_sorted (w := w) (g := g) (n := n) (os := os) _)⟩
    have hr := ownsRow_sorted (w := w) (base := base) (g := g) (cap := cap) (n := n) (e := 9) (os := os) hsl hb hg (by rw [hss]; exact hnc) hcm (by rw [hcs])
    show World.ownsRow _ _ _ _ _ _ _
    have hk : (sortK ks).length = ks.length := (sortK_perm ks).length_eq
    have hk2 : (sortK ks).flatMap encK = ((ks.map fun k => k.data.toList).mergeSort leB).map encStr := by
      rw [flat1, sortK, List.map_map]
      apply List.map_congr_left
      intro l _
      rfl
    rw [hk, hk2]
    rw [hss] at hr
    exact hr

theorem Rd.keep {α : Type} {F : List Nat} {w w' : World} {sz : Nat} {enc : α → List Value} {v : Value} {xs : List α} (h : Rd w sz enc v xs) (k : Keep F w w') (hF : ∀ a n c, v = .slice (some a) n c → a.block ∉ F) : Rd w' sz enc v xs := by
  obtain ⟨a, c, rfl, h2, h3, h4, h5⟩ := h
  refine ⟨a, c, rfl, h2, h3, h4, fun i x hx j u hu => ?_⟩
  have hc := h5 i x hx j u hu
  cases a with
  | none => rw [(h4 rfl).1] at hx; simp at hx
  | some a =>
    have hb : (elt (.slice (some a) xs.length c) (i * sz + j)).block = a.block := by
      simp only [elt, Addr.add]
      split <;> rfl
    have hlt := World.block_lt_of_cell? w _ hc
    rw [hb] at hlt
    have := k.block a.block hlt (hF a _ _ rfl)
    rw [← hb] at this
    exact (World.cell?_of_block this).trans hc
/-- A string's bytes. -/
def numsK (k : ByteArray) : List Int := k.data.toList.map fun b => (b.toNat : Int)
theorem str_numsK (k : ByteArray) : strOfNums (numsK k) = k := by
  rcases k with ⟨d⟩
  simp only [strOfNums, numsK, List.map_map]
  congr 1
  have : (d.toList.map ((fun n : Int => UInt8.ofNat n.toNat) ∘ fun b : UInt8 => (b.toNat : Int))) = d.toList := by
    conv => rhs; rw [← List.map_id d.toList]
    apply List.map_congr_left
    intro b _
    show UInt8.ofNat ((b.toNat : Int).toNat) = b
    rw [Int.toNat_natCast, UInt8.ofNat_toNat]
  rw [this]
theorem run_bytes_own (k : ByteArray) (hk : k.size ≤ 1000000) (w : World) : ∃ c w', (convert 9 40 (.string k)).run Try.prog w = .ok (.slice (some ⟨w.heap.size, 0, none⟩) k.size c) w' ∧ Ext w w' ∧ Sl w' .u8 (.slice (some ⟨w.heap.size, 0, none⟩) k.size c) (numsK k) ∧ w.heap.size < w'.heap.size := by
  have hrun := run_bytes_of_string (P := Try.prog) w 9 40 5 k Try.underlying9 Try.underlying40 Try.underlying5
  refine ⟨_, _, hrun, (Ext.drew' (Ext.rfl' w)).alloc' _, ?_, by simp⟩
  have hl : (numsK k).length = k.size := by unfold numsK; rw [List.length_map, Array.length_toList]; rfl
  have hge := grownCap_ge w k.size 0 5
  have hm := grownCap_le_maxLen w k.size 0 5 (by simp only [maxLen]; omega)
  refine ⟨some ⟨w.heap.size, 0, none⟩, _, by rw [hl], by rw [hl]; exact hge, hm, fun e => by simp at e, ?_⟩
  intro i x hx j u hu
  cases j with
  | succ j => simp at hu
  | zero =>
    simp at hu
    subst hu
    have hg : (w.drew.alloc (.cells (bytesRow k (grownCap w k.size 0 5)) 5 ((bytesRow k (grownCap w k.size 0 5)).size, (bytesRow k (grownCap w k.size 0 5)).size + 1))).heap[w.heap.size]? = some (.cells (bytesRow k (grownCap w k.size 0 5)) 5 ((bytesRow k (grownCap w k.size 0 5)).size, (bytesRow k (grownCap w k.size 0 5)).size + 1)) := obj_top _ _ rfl
    have hc := cell_obj (i := i) hg
    simp only [elt, Nat.mul_one, Nat.add_zero, Addr.add_lit, Nat.zero_add]
    rw [hc]
    have hi : i < k.size := by rw [← hl]; exact (List.getElem?_eq_some_iff.1 hx).1
    simp only [numsK, List.getElem?_map] at hx
    obtain ⟨b, hb, rfl⟩ := Option.map_eq_some_iff.1 hx
    unfold bytesRow
    have hi' : i < k.data.size := hi
    rw [Array.getElem?_append_left (by rw [Array.size_map]; exact hi'), Array.getElem?_map]
    rw [Array.getElem?_toList] at hb
    rw [hb]
    rfl
end Go.Proofs.Ytjimmbcihcmfoaa
