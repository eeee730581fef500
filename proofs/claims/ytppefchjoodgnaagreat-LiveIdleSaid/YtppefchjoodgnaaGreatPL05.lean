/- What the claim leans on: TabF · TabG · SortS · TabH · TabI · TabL · TabM · RTH. -/
import Derived.Test.YtppefchjoodgnaaGreatPL04
import Derived.Shelf.Sort.Plain
import Derived.Shelf.Slices.In.SortNone
import Derived.Test.YtppefchjoodgnaaGreatProg
import Derived.Sort.OwnSorted
import Derived.Sort.KeysCollected
namespace Go.Proofs.YtppefchjoodgnaaGreat
open Go.RowKit
set_option linter.unusedVariables false
set_option linter.unusedSimpArgs false
theorem opt_nodup' (o : Option Nat) : o.toList.Nodup := by cases o <;> simp
theorem TabAt.push {w wr w5 : World} {base tb : Nat} {S : Tabs} {lv : Value} {x : TRec} (h : TabAt w base tb S) (he : Ext w wr) (hx1 : wr.heap[x.a]? = some (.cells x.cells 158 (0, 0))) (hx2 : SMap wr x.r x.T.strs) (hfr : w.heap.size ≤ x.a ∧ w.heap.size ≤ x.r ∧ x.a ≠ x.r)
  (hmade : x.T.made ≤ 1024 ∧ ∀ p ∈ x.T.slots, p.2 ≤ 1024) (hk : Keep S.mv.ownBlock.toList wr w5) (hmv : ∀ k, lv.ownBlock = some k → S.mv.ownBlock = some k ∨ wr.heap.size ≤ k) (hl : Own w5 base 155 1 encT lv (S.R ++ [x])) (hfew : S.R.length < 8) :
  TabAt (w5.setCell ⟨tb, 1, none⟩ lv) base tb { S with mv := lv, R := S.R ++ [x] } ∧ Keep (tfoot tb S) w (w5.setCell ⟨tb, 1, none⟩ lv) ∧ ∀ j ∈ tfoot tb { S with mv := lv, R := S.R ++ [x] }, j ∈ tfoot tb S ∨ (w.heap.size ≤ j ∧ (j = x.a ∨ j = x.r ∨ wr.heap.size ≤ j)) := by
 have n0 := List.nodup_cons.1 h.apart
 have n1 := List.nodup_append.1 n0.2
 have n2 := List.nodup_append.1 n1.2.1
 have hlt := h.lt
 have hsz := he.size
 have hxa := heap_lt hx1
 have hxr := hx2.lt
 have htlt := heap_lt h.head
 have hF : ∀ j ∈ S.mv.ownBlock.toList, j ∈ tfoot tb S := fun j hj => by simp only [tfoot, List.mem_cons, List.mem_append]; exact .inr (.inl hj)
 have hFlt : ∀ j ∈ S.mv.ownBlock.toList, j < w.heap.size := fun j hj => hlt j (hF j hj)
 have htF : tb ∉ S.mv.ownBlock.toList := fun hj => n0.1 (List.mem_append_left _ hj)
 have hrec : ∀ y ∈ S.R, ∀ j ∈ TRec.blocks y, j ∉ S.mv.ownBlock.toList := fun y hy j hj hj' => n1.2.2 j hj' j (List.mem_append_left _ (List.mem_flatMap.2 ⟨y, hy, hj⟩)) rfl
 have hmem : ∀ j ∈ foot S.b S.r S.L, j ∉ S.mv.ownBlock.toList := fun j hj hj' => n1.2.2 j hj' j (List.mem_append_right _ hj) rfl
 have hrlt : ∀ y ∈ S.R, ∀ j ∈ TRec.blocks y, j < w.heap.size := fun y hy j hj => hlt j (by simp only [tfoot, List.mem_cons, List.mem_append, List.mem_flatMap]; exact .inr (.inr (.inl ⟨y, hy, hj⟩)))
 have hflt : ∀ j ∈ foot S.b S.r S.L, j < w.heap.size := h.mem.lt
 have hlv : ∀ k, lv.ownBlock = some k → k ≠ tb ∧ (∀ y ∈ S.R ++ [x], k ∉ TRec.blocks y) ∧ k ∉ foot S.b S.r S.L := by
  intro k hk'
  rcases hmv k hk' with h1 | h1
  ·have hin : k ∈ S.mv.ownBlock.toList := by simpa using h1
   have hkl := hFlt k hin
   refine ⟨fun e => htF (by rw [← e]; exact hin), fun y hy hy' => ?_, fun hj => hmem k hj hin⟩
   rcases List.mem_append.1 hy with hy | hy
   ·exact hrec y hy k hy' hin
   ·rw [List.mem_singleton] at hy
    subst hy
    simp only [TRec.blocks, List.mem_cons, List.not_mem_nil, or_false] at hy'
    rcases hy' with rfl | rfl <;> omega
  ·refine ⟨by omega, fun y hy hy' => ?_, fun hj => by have := hflt k hj; omega⟩
   rcases List.mem_append.1 hy with hy | hy
   ·have := hrlt y hy k hy'; omega
   ·rw [List.mem_singleton] at hy
    subst hy
    simp only [TRec.blocks, List.mem_cons, List.not_mem_nil, or_false] at hy'
    rcases hy' with rfl | rfl <;> omega
 have kk : Keep [tb] w5 (w5.setCell ⟨tb, 1, none⟩ lv) := (Keep.rfl' [tb] w5).setCell (by simp) _
 have o5 := hk.obj (he.obj h.head) htF
 have hone : ∀ y ∈ S.R ++ [x], w5.heap[y.a]? = some (.cells y.cells 158 (0, 0)) ∧ SMap w5 y.r y.T.strs ∧ y.a ≠ tb ∧ y.r ≠ tb := by
  intro y hy
  rcases List.mem_append.1 hy with hy | hy
  ·have hne : ∀ j ∈ TRec.blocks y, j ≠ tb := fun j hj e => n0.1 (List.mem_append_right _ (List.mem_append_left _ (by rw [← e]; exact List.mem_flatMap.2 ⟨y, hy, hj⟩)))
   exact ⟨hk.obj (he.obj (h.ones y hy)) (hrec y hy _ (by simp [TRec.blocks])), ((h.slots y hy).ext he).keep hk (hrec y hy _ (by simp [TRec.blocks])), hne _ (by simp [TRec.blocks]), hne _ (by simp [TRec.blocks])⟩
  ·rw [List.mem_singleton] at hy
   subst hy
   exact ⟨hk.obj hx1 (fun hj => by have := hFlt _ hj; omega), hx2.keep hk (fun hj => by have := hFlt _ hj; omega), by omega, by omega⟩
 refine ⟨⟨?_, h.low, hl.keep kk (fun j hj => by simpa using (hlv j hj).1), fun y hy => kk.obj (hone y hy).1 (by simpa using (hone y hy).2.2.1), fun y hy => (hone y hy).2.1.keep kk (by simpa using (hone y hy).2.2.2), ?_, ?_, by simp; omega, ?_⟩, ?_, ?_⟩
 ·have := heap_setCell_same w5 tb 1 _ _ lv o5
  simpa using this
 ·refine ((h.mem.ext he).keep hk hmem).keep kk (fun j hj => ?_)
  simp only [List.mem_singleton]
  intro e
  subst e
  exact n0.1 (List.mem_append_right _ (List.mem_append_right _ hj))
 ·have hb : (S.R ++ [x]).flatMap TRec.blocks = S.R.flatMap TRec.blocks ++ TRec.blocks x := by simp
  simp only [tfoot]
  rw [hb, List.nodup_cons, List.nodup_append, List.nodup_append, List.nodup_append]
  refine ⟨?_, opt_nodup' _, ⟨⟨n2.1, by simpa [TRec.blocks] using hfr.2.2, ?_⟩, n2.2.1, ?_⟩, ?_⟩
  ·intro hj
   simp only [List.mem_append] at hj
   rcases hj with hj | (hj | hj) | hj
   ·exact (hlv tb (by simpa using hj)).1 rfl
   ·exact n0.1 (List.mem_append_right _ (List.mem_append_left _ hj))
   ·simp only [TRec.blocks, List.mem_cons, List.not_mem_nil, or_false] at hj
    rcases hj with hj | hj <;> omega
   ·exact n0.1 (List.mem_append_right _ (List.mem_append_right _ hj))
  ·intro a ha b hb' e
   subst e
   obtain ⟨y, hy, hya⟩ := List.mem_flatMap.1 ha
   have := hrlt y hy a hya
   simp only [TRec.blocks, List.mem_cons, List.not_mem_nil, or_false] at hb'
   rcases hb' with hb' | hb' <;> omega
  ·intro a ha b hb' e
   subst e
   rcases List.mem_append.1 ha with ha | ha
   ·exact n2.2.2 a ha a hb' rfl
   ·have := hflt a hb'
    simp only [TRec.blocks, List.mem_cons, List.not_mem_nil, or_false] at ha
    rcases ha with ha | ha <;> omega
  ·intro a ha b hb' e
   subst e
   have h2 := hlv a (by simpa using ha)
   rcases List.mem_append.1 hb' with hb' | hb'
   ·rcases List.mem_append.1 hb' with hb' | hb'
    ·obtain ⟨y, hy, hya⟩ := List.mem_flatMap.1 hb'
     exact h2.2.1 y (List.mem_append_left _ hy) hya
    ·exact h2.2.1 x (by simp) hb'
   ·exact h2.2.2 hb'
 ·intro y hy
  rcases List.mem_append.1 hy with hy | hy
  ·exact h.made y hy
  ·rw [List.mem_singleton] at hy
   subst hy
   exact hmade
 ·exact (((Keep.of_ext he).trans (hk.mono fun j hj => .inl hj)).mono fun j hj => .inl (hF j hj)).setCell (by simp [tfoot]) _
 ·intro j hj
  simp only [tfoot, List.mem_cons, List.mem_append, List.flatMap_append, List.flatMap_cons, List.flatMap_nil, List.append_nil] at hj ⊢
  rcases hj with hj | hj | (hj | hj) | hj
  ·exact .inl (.inl hj)
  ·rcases hmv j (by simpa using hj) with h1 | h1
   ·exact .inl (.inr (.inl (by simpa using h1)))
   ·exact .inr ⟨by omega, .inr (.inr h1)⟩
  ·exact .inl (.inr (.inr (.inl hj)))
  ·simp only [TRec.blocks, List.mem_cons, List.not_mem_nil, or_false] at hj
   rcases hj with rfl | rfl
   ·exact .inr ⟨hfr.1, .inl rfl⟩
   ·exact .inr ⟨hfr.2.1, .inr (.inl rfl)⟩
  ·exact .inl (.inr (.inr (.inr hj)))
def TDef.tm (d : TDef) : TM := ⟨d.hash, d.key, d.val, d.max, [], 0⟩
end Go.Proofs.YtppefchjoodgnaaGreat
namespace Go.Proofs
open Go.Shelf
end Go.Proofs
namespace Go.Proofs.YtppefchjoodgnaaGreat
open Go.RowKit Go.Sort
set_option linter.unusedVariables false
set_option linter.unusedSimpArgs false
theorem Rd.keep {α : Type} {F : List Nat} {w w' : World} {sz : Nat} {enc : α → List Value} {v : Value} {xs : List α} (h : Rd w sz enc v xs) (k : Keep F w w') (hF : ∀ a n c, v = .slice (some a) n c → a.block ∉ F) : Rd w' sz enc v xs := by
 obtain ⟨a, c, rfl, h2, h3, h4, h5⟩ := h
 refine ⟨a, c, rfl, h2, h3, h4, fun i x hx j u hu => ?_⟩
 have hc := h5 i x hx j u hu
 cases a with
 | none => rw [(h4 rfl).1] at hx; simp at hx
 | some a =>
  have hb : (elt (.slice (some a) xs.length c) (i * sz + j)).block = a.block := by
   simp only [elt, Addr.add]
   split <;> rfl
  have hlt := World.block_lt_of_cell? w _ hc
  rw [hb] at hlt
  have := k.block a.block hlt (hF a _ _ rfl)
  rw [← hb] at this
  exact (World.cell?_of_block this).trans hc
def numsK (k : ByteArray) : List Int := k.data.toList.map fun b => (b.toNat : Int)
theorem str_numsK (k : ByteArray) : strOfNums (numsK k) = k := by
 rcases k with ⟨d⟩
 simp only [strOfNums, numsK, List.map_map]
 congr 1
 have : (d.toList.map ((fun n : Int => UInt8.ofNat n.toNat) ∘ fun b : UInt8 => (b.toNat : Int))) = d.toList := by
  conv => rhs; rw [← List.map_id d.toList]
  apply List.map_congr_left
  intro b _
  show UInt8.ofNat ((b.toNat : Int).toNat) = b
  rw [Int.toNat_natCast, UInt8.ofNat_toNat]
 rw [this]
theorem run_bytes_own (k : ByteArray) (hk : k.size ≤ 1000000) (w : World) : ∃ c w', (convert 9 23 (.string k)).run Tryz.prog w = .ok (.slice (some ⟨w.heap.size, 0, none⟩) k.size c) w' ∧ Ext w w' ∧ Sl w' .u8 (.slice (some ⟨w.heap.size, 0, none⟩) k.size c) (numsK k) ∧ w.heap.size < w'.heap.size := by
 have hrun := run_bytes_of_string (P := Tryz.prog) w 9 23 5 k Tryz.underlying9 Tryz.underlying23 Tryz.underlying5
 refine ⟨_, _, hrun, (Ext.drew' (Ext.rfl' w)).alloc' _, ?_, by simp⟩
 have hl : (numsK k).length = k.size := by unfold numsK; rw [List.length_map, Array.length_toList]; rfl
 have hge := grownCap_ge w k.size 0 5
 have hm := grownCap_le_maxLen w k.size 0 5 (by simp only [maxLen]; omega)
 refine ⟨some ⟨w.heap.size, 0, none⟩, _, by rw [hl], by rw [hl]; exact hge, hm, fun e => by simp at e, ?_⟩
 intro i x hx j u hu
 cases j with
 | succ j => simp at hu
 | zero =>
  simp at hu
  subst hu
  have hg : (w.drew.alloc (.cells (bytesRow k (grownCap w k.size 0 5)) 5 ((bytesRow k (grownCap w k.size 0 5)).size, (bytesRow k (grownCap w k.size 0 5)).size + 1))).heap[w.heap.size]? = some (.cells (bytesRow k (grownCap w k.size 0 5)) 5 ((bytesRow k (grownCap w k.size 0 5)).size, (bytesRow k (grownCap w k.size 0 5)).size + 1)) := obj_top _ _ rfl
  have hc := cO (i := i) hg
  simp only [elt, Nat.mul_one, Nat.add_zero, Addr.add_lit, Nat.zero_add]
  rw [hc]
  have hi : i < k.size := by rw [← hl]; exact (List.getElem?_eq_some_iff.1 hx).1
  simp only [numsK, List.getElem?_map] at hx
  obtain ⟨b, hb, rfl⟩ := Option.map_eq_some_iff.1 hx
  unfold bytesRow
  have hi' : i < k.data.size := hi
  rw [Array.getElem?_append_left (by rw [Array.size_map]; exact hi'), Array.getElem?_map]
  rw [Array.getElem?_toList] at hb
  rw [hb]
  rfl
end Go.Proofs.YtppefchjoodgnaaGreat
namespace Go.Proofs.YtppefchjoodgnaaGreat
open Go.RowKit
set_option linter.unusedVariables false
set_option linter.unusedSimpArgs false
structure IT where
 ka : Option Addr
 kc : Nat
 va : Option Addr
 vc : Nat
 key : List Int
 val : List Int
def IT.kv (x : IT) : Value := .slice x.ka x.key.length x.kc
def IT.vv (x : IT) : Value := .slice x.va x.val.length x.vc
def IT.enc (x : IT) : List Value := [x.kv, x.vv]
theorem enc_it : Enc 2 IT.enc := ⟨fun _ => rfl, fun x u hu => by
 simp only [IT.enc, List.mem_cons, List.not_mem_nil, or_false] at hu
 rcases hu with rfl | rfl <;> rfl⟩
theorem el_item : El Tryz.prog 34 36 2 48 (.agg #[.slice none 0 0, .slice none 0 0]) := ⟨Tryz.underlying34, by kernel_rfl, rfl, by decide, fun _ => by kernel_rfl⟩
def IsItems (w : World) (v : Value) (l : List (ByteArray × List Int)) : Prop :=
 ∃ I : List IT, Rd w 2 IT.enc v I ∧ (∀ x ∈ I, Sl w .u8 x.kv x.key ∧ Sl w .u8 x.vv x.val) ∧ I.map (fun x => (strOfNums x.key, x.val)) = l
section
variable {α : Type}
end
structure MapWf (t : TM) : Prop where
 made : t.made ≤ 1024
 slots : ∀ p ∈ t.slots, p.2 < t.made
 keys : (t.slots.map (·.1)).Nodup
 nums : (t.slots.map (·.2)).Nodup
 val : 8 ≤ t.val ∧ t.val ≤ 64
 max : 1 ≤ t.max ∧ t.max ≤ 16
 key : 1 ≤ t.key ∧ t.key ≤ 16
 few : (t.slots.length : Int) ≤ t.max
 size : ∀ p ∈ t.slots, (p.1.size : Int) = t.key
structure Wf (V : Areas × List TM) : Prop where
 few : V.2.length ≤ 8
 maps : ∀ t ∈ V.2, MapWf t
 areas : ∀ (i s : Nat) t, V.2[i]? = some t → s < t.made → ∃ A, V.1.lookup (tarea i s) = some A ∧ (A.bytes.length : Int) = t.val ∧ (A.put.length : Int) = t.val ∧ A.fixed = false
 free : ∀ (i s : Nat), i < 8 → s < 1024 → (∀ t, V.2[i]? = some t → t.made ≤ s) → V.1.lookup (tarea i s) = none
theorem Wf.small {V : Areas × List TM} (h : Wf V) : ∀ t ∈ V.2, t.slots.length ≤ 1000 ∧ ∀ p ∈ t.slots, p.1.size ≤ 1000 := fun t ht => by
 have h1 := h.maps t ht
 have h2 := h1.max
 have h3 := h1.few
 have h4 := h1.key
 exact ⟨by omega, fun p hp => by have := h1.size p hp; omega⟩
theorem strOf_size (ks : List Int) : (strOfNums ks).size = ks.length := by
 simp [strOfNums, ByteArray.size]
def nums (k : Nat) : List (ByteArray × Nat) := (List.range k).map fun (j : Nat) => (numKey (j : Int), j)
theorem nums_succ (k : Nat) : nums (k + 1) = nums k ++ [(numKey (k : Int), k)] := by simp [nums, List.range_succ]
theorem nums_len (k : Nat) : (nums k).length = k := by simp [nums]
theorem nums_mem {k : Nat} {p : ByteArray × Nat} (h : p ∈ nums k) : p.2 < k ∧ p.1 = numKey (p.2 : Int) := by
 obtain ⟨j, hj, rfl⟩ := List.mem_map.1 h
 exact ⟨List.mem_range.1 hj, rfl⟩
theorem numKey_size (n : Int) : (numKey n).size = 4 := strOf_size _
theorem RTabAt.push {w wr w5 : World} {base tb : Nat} {S : RTabs} {lv : Value} {x : RM} (h : RTabAt w base tb S) (he : Ext w wr) (hx : Own w base 129 2 encKS x.lv x.T.slots) (hxf : ∀ j, x.lv.ownBlock = some j → j ∉ rtfoot tb S)
  (hmade : x.T.made ≤ 1024 ∧ ∀ p ∈ x.T.slots, p.2 ≤ 1024) (hk : Keep S.mv.ownBlock.toList wr w5) (hmv : ∀ k, lv.ownBlock = some k → S.mv.ownBlock = some k ∨ wr.heap.size ≤ k) (hl : Own w5 base 126 6 RM.enc lv (S.R ++ [x])) (hfew : S.R.length < 8) :
  RTabAt (w5.setCell ⟨tb, 1, none⟩ lv) base tb { S with mv := lv, R := S.R ++ [x] } ∧ Keep (rtfoot tb S) w (w5.setCell ⟨tb, 1, none⟩ lv) ∧ ∀ j ∈ rtfoot tb { S with mv := lv, R := S.R ++ [x] }, j ∈ rtfoot tb S ∨ x.lv.ownBlock = some j ∨ w.heap.size ≤ j := by
 have n0 := List.nodup_cons.1 h.apart
 have n1 := List.nodup_append.1 n0.2
 have n2 := List.nodup_append.1 n1.2.1
 have hlt := fun j hj => (h.lt j hj).2
 have hsz := he.size
 have htlt := heap_lt h.head
 have hxlt : ∀ j, x.lv.ownBlock = some j → j < w.heap.size := fun j hj => (hx.lt hj).2
 have hF : ∀ j ∈ S.mv.ownBlock.toList, j ∈ rtfoot tb S := fun j hj => by simp only [rtfoot, List.mem_cons, List.mem_append]; exact .inr (.inl hj)
 have hFlt : ∀ j ∈ S.mv.ownBlock.toList, j < w.heap.size := fun j hj => hlt j (hF j hj)
 have htF : tb ∉ S.mv.ownBlock.toList := fun hj => n0.1 (List.mem_append_left _ hj)
 have hin : ∀ y ∈ S.R, ∀ j, y.lv.ownBlock = some j → j ∈ S.R.flatMap (fun x => x.lv.ownBlock.toList) := fun y hy j hj => List.mem_flatMap.2 ⟨y, hy, by simpa using hj⟩
 have hrt : ∀ y ∈ S.R, ∀ j, y.lv.ownBlock = some j → j ∈ rtfoot tb S := fun y hy j hj => by simp only [rtfoot, List.mem_cons, List.mem_append]; exact .inr (.inr (.inl (hin y hy j hj)))
 have hrec : ∀ y ∈ S.R, ∀ j, y.lv.ownBlock = some j → j ∉ S.mv.ownBlock.toList := fun y hy j hj hj' => n1.2.2 j hj' j (List.mem_append_left _ (hin y hy j hj)) rfl
 have hmem : ∀ j ∈ rfoot S.rb S.lv S.L, j ∉ S.mv.ownBlock.toList := fun j hj hj' => n1.2.2 j hj' j (List.mem_append_right _ hj) rfl
 have htx : ∀ j, x.lv.ownBlock = some j → j ≠ tb ∧ j ∉ S.mv.ownBlock.toList ∧ j ∉ S.R.flatMap (fun x => x.lv.ownBlock.toList) ∧ j ∉ rfoot S.rb S.lv S.L := fun j hj => by
  have := hxf j hj
  simp only [rtfoot, List.mem_cons, List.mem_append, not_or] at this
  exact ⟨this.1, this.2.1, this.2.2.1, this.2.2.2⟩
 have hlv : ∀ k, lv.ownBlock = some k → k ≠ tb ∧ (∀ y ∈ S.R ++ [x], y.lv.ownBlock ≠ some k) ∧ k ∉ rfoot S.rb S.lv S.L := by
  intro k hk'
  rcases hmv k hk' with h1 | h1
  ·have hin : k ∈ S.mv.ownBlock.toList := by simpa using h1
   refine ⟨fun e => htF (by rw [← e]; exact hin), fun y hy hy' => ?_, fun hj => hmem k hj hin⟩
   rcases List.mem_append.1 hy with hy | hy
   ·exact hrec y hy k hy' hin
   ·rw [List.mem_singleton] at hy
    subst hy
    exact (htx k hy').2.1 hin
  ·refine ⟨by omega, fun y hy hy' => ?_, fun hj => by have := hlt k (rfoot_sub tb S k hj); omega⟩
   rcases List.mem_append.1 hy with hy | hy
   ·have := hlt k (hrt y hy k hy'); omega
   ·rw [List.mem_singleton] at hy
    subst hy
    have := hxlt k hy'; omega
 have kk : Keep [tb] w5 (w5.setCell ⟨tb, 1, none⟩ lv) := (Keep.rfl' [tb] w5).setCell (by simp) _
 have o5 := hk.obj (he.obj h.head) htF
 have hone : ∀ y ∈ S.R ++ [x], Own w5 base 129 2 encKS y.lv y.T.slots ∧ ∀ j, y.lv.ownBlock = some j → j ≠ tb := by
  intro y hy
  rcases List.mem_append.1 hy with hy | hy
  ·exact ⟨((h.keys y hy).ext he).keep hk (hrec y hy), fun j hj e => n0.1 (List.mem_append_right _ (List.mem_append_left _ (by rw [← e]; exact hin y hy j hj)))⟩
  ·rw [List.mem_singleton] at hy
   subst hy
   exact ⟨(hx.ext he).keep hk (fun j hj => (htx j hj).2.1), fun j hj => (htx j hj).1⟩
 refine ⟨⟨?_, h.low, hl.keep kk (fun j hj => by simpa using (hlv j hj).1), fun y hy => (hone y hy).1.keep kk (fun j hj => by simpa using (hone y hy).2 j hj), ?_, ?_, by simp; omega, ?_⟩, ?_, ?_⟩
 ·have := heap_setCell_same w5 tb 1 _ _ lv o5
  simpa using this
 ·refine ((h.mem.ext he).keep hk hmem).keep kk (fun j hj => ?_)
  simp only [List.mem_singleton]
  intro e
  subst e
  exact n0.1 (List.mem_append_right _ (List.mem_append_right _ hj))
 ·have hb : (S.R ++ [x]).flatMap (fun x => x.lv.ownBlock.toList) = S.R.flatMap (fun x => x.lv.ownBlock.toList) ++ x.lv.ownBlock.toList := by simp
  simp only [rtfoot]
  rw [hb, List.nodup_cons, List.nodup_append, List.nodup_append, List.nodup_append]
  refine ⟨?_, opt_nodup'' _, ⟨⟨n2.1, opt_nodup'' _, ?_⟩, n2.2.1, ?_⟩, ?_⟩
  ·intro hj
   simp only [List.mem_append] at hj
   rcases hj with hj | (hj | hj) | hj
   ·exact (hlv tb (by simpa using hj)).1 rfl
   ·exact n0.1 (List.mem_append_right _ (List.mem_append_left _ hj))
   ·exact (htx tb (by simpa using hj)).1 rfl
   ·exact n0.1 (List.mem_append_right _ (List.mem_append_right _ hj))
  ·intro a ha b hb' e
   subst e
   exact (htx a (by simpa using hb')).2.2.1 ha
  ·intro a ha b hb' e
   subst e
   rcases List.mem_append.1 ha with ha | ha
   ·exact n2.2.2 a ha a hb' rfl
   ·exact (htx a (by simpa using ha)).2.2.2 hb'
  ·intro a ha b hb' e
   subst e
   have h2 := hlv a (by simpa using ha)
   rcases List.mem_append.1 hb' with hb' | hb'
   ·rcases List.mem_append.1 hb' with hb' | hb'
    ·obtain ⟨y, hy, hya⟩ := List.mem_flatMap.1 hb'
     exact h2.2.1 y (List.mem_append_left _ hy) (by simpa using hya)
    ·exact h2.2.1 x (by simp) (by simpa using hb')
   ·exact h2.2.2 hb'
 ·intro y hy
  rcases List.mem_append.1 hy with hy | hy
  ·exact h.made y hy
  ·rw [List.mem_singleton] at hy
   subst hy
   exact hmade
 ·exact (((Keep.of_ext he).trans (hk.mono fun j hj => .inl hj)).mono fun j hj => .inl (hF j hj)).setCell (by simp [rtfoot]) _
 ·intro j hj
  simp only [rtfoot, List.mem_cons, List.mem_append, List.flatMap_append, List.flatMap_cons, List.flatMap_nil, List.append_nil] at hj ⊢
  rcases hj with hj | hj | (hj | hj) | hj
  ·exact .inl (.inl hj)
  ·rcases hmv j (by simpa using hj) with h1 | h1
   ·exact .inl (.inr (.inl (by simpa using h1)))
   ·exact .inr (.inr (by omega))
  ·exact .inl (.inr (.inr (.inl hj)))
  ·exact .inr (.inl (by simpa using hj))
  ·exact .inl (.inr (.inr (.inr hj)))
def rfill (M : Areas) (i : Int) (val : Nat) : Nat → Option Areas
 | 0 => some M
 | k + 1 => (rfill M i val k).bind fun M' => if (mmake M' (tarea i k) (List.replicate val 0) false false).2 = 0 then some (mmake M' (tarea i k) (List.replicate val 0) false false).1 else none
def TDef.full (d : TDef) : TM := { d.tm with slots := nums d.max.toNat, made := d.max.toNat }
def rnew1 (V : Areas × List TM) (d : TDef) : Option (Areas × List TM) :=
 if d.hash then some (V.1, V.2 ++ [d.tm]) else (rfill V.1 V.2.length d.val.toNat d.max.toNat).map fun M => (M, V.2 ++ [d.full])
def rnews (M : Areas) (ds : List TDef) : Nat → Option (Areas × List TM)
 | 0 => some (M, [])
 | k + 1 => (rnews M ds k).bind fun V => (ds[k]?).bind (rnew1 V)
def rnew (M : Areas) (ds : List TDef) : Option (Areas × List TM) := if rightL ds then rnews M ds ds.length else none
theorem rnew_le {M : Areas} {ds : List TDef} : ∀ {j k : Nat}, j ≤ k → rnews M ds j = none → rnews M ds k = none
 | j, 0, h, hn => by simpa [Nat.le_zero.1 h] using hn
 | j, k + 1, h, hn => by
  by_cases e : j = k + 1
  ·rw [← e]; exact hn
  ·rw [rnews, rnew_le (by omega : j ≤ k) hn]; rfl
theorem rfill_le {M : Areas} {i : Int} {val : Nat} : ∀ {j k : Nat}, j ≤ k → rfill M i val j = none → rfill M i val k = none
 | j, 0, h, hn => by simpa [Nat.le_zero.1 h] using hn
 | j, k + 1, h, hn => by
  by_cases e : j = k + 1
  ·rw [← e]; exact hn
  ·rw [rfill, rfill_le (by omega : j ≤ k) hn]; rfl
end Go.Proofs.YtppefchjoodgnaaGreat
