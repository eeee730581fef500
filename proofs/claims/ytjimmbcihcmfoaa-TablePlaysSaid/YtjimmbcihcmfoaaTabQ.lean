/- Maps of layer 9: two of them in one heap; two lists of items compared. -/
import Derived.Test.YtjimmbcihcmfoaaTabN
import Derived.Test.YtjimmbcihcmfoaaTabP
namespace Go.Proofs.Ytjimmbcihcmfoaa
open Go.RowKit
set_option linter.unusedVariables false
set_option linter.unusedSimpArgs false

/-- Of what was there at wf only what is of F0 may turn; two sets of maps lie apart. -/
structure TwoT (F0 : List Nat) (wf w : World) (t1 : Nat) (V1 : Areas × List TM) (t2 : Nat) (V2 : Areas × List TM) : Prop where
  keep : Keep F0 wf w
  tabs : ∃ b1 S1 b2 S2, TabAt w b1 t1 S1 ∧ tview S1 = V1 ∧ TabAt w b2 t2 S2 ∧ tview S2 = V2 ∧ (∀ j ∈ tfoot t1 S1, j ∈ F0 ∨ wf.heap.size ≤ j) ∧ (∀ j ∈ tfoot t2 S2, j ∈ F0 ∨ wf.heap.size ≤ j) ∧ ∀ j ∈ tfoot t1 S1, j ∉ tfoot t2 S2
theorem TwoT.swap {F0 : List Nat} {wf w : World} {t1 t2 : Nat} {V1 V2 : Areas × List TM} (h : TwoT F0 wf w t1 V1 t2 V2) : TwoT F0 wf w t2 V2 t1 V1 := by
  obtain ⟨hk, b1, S1, b2, S2, h1, h2, h3, h4, h5, h6, h7⟩ := h
  exact ⟨hk, b2, S2, b1, S1, h3, h4, h1, h2, h6, h5, fun j hj h => h7 j h hj⟩
theorem TwoT.go {F0 : List Nat} {wf w w' : World} {t1 t2 : Nat} {V1 V2 : Areas × List TM} (h : TwoT F0 wf w t1 V1 t2 V2) (k : Ext w w') : TwoT F0 wf w' t1 V1 t2 V2 := by
  obtain ⟨hk, b1, S1, b2, S2, h1, h2, h3, h4, h5, h6, h7⟩ := h
  exact ⟨hk.trans (Keep.of_ext k), b1, S1, b2, S2, h1.ext k, h2, h3.ext k, h4, h5, h6, h7⟩
theorem TwoT.later {F0 : List Nat} {wf w : World} {t1 t2 : Nat} {V1 V2 : Areas × List TM} (h : TwoT F0 wf w t1 V1 t2 V2) : ∃ F, TwoT F w w t1 V1 t2 V2 ∧ ∀ j ∈ F, j < w.heap.size ∧ (j ∈ F0 ∨ wf.heap.size ≤ j) := by
  obtain ⟨hk, b1, S1, b2, S2, h1, h2, h3, h4, h5, h6, h7⟩ := h
  refine ⟨tfoot t1 S1 ++ tfoot t2 S2, ⟨Keep.rfl' _ _, b1, S1, b2, S2, h1, h2, h3, h4, fun j hj => .inl (List.mem_append_left _ hj), fun j hj => .inl (List.mem_append_right _ hj), h7⟩, fun j hj => ?_⟩
  rcases List.mem_append.1 hj with hj | hj
  · exact ⟨h1.lt j hj, h5 j hj⟩
  · exact ⟨h3.lt j hj, h6 j hj⟩
/-- .. told anew from a later world on, and back. -/
theorem TwoT.fix {F0 : List Nat} {wf w w' : World} {t1 t2 : Nat} {V1 V2 : Areas × List TM} (h : TwoT F0 wf w t1 V1 t2 V2) (k : Ext w w') : ∃ F, TwoT F w' w' t1 V1 t2 V2 ∧ ∀ j ∈ F, j < w.heap.size ∧ (j ∈ F0 ∨ wf.heap.size ≤ j) := by
  obtain ⟨F, ⟨hk, b1, S1, b2, S2, h1, h2, h3, h4, h5, h6, h7⟩, hF⟩ := h.later
  have l1 := h1.lt
  have l2 := h3.lt
  exact ⟨F, ⟨Keep.rfl' _ _, b1, S1, b2, S2, h1.ext k, h2, h3.ext k, h4, fun j hj => (h5 j hj).imp id (fun h => by have := l1 j hj; omega), fun j hj => (h6 j hj).imp id (fun h => by have := l2 j hj; omega), h7⟩, hF⟩
theorem TwoT.back {F0 F : List Nat} {wf w1 w : World} {t1 t2 : Nat} {V1 V2 : Areas × List TM} (h : TwoT F w1 w t1 V1 t2 V2) (k : Keep F0 wf w1) (hF : ∀ j ∈ F, j ∈ F0 ∨ wf.heap.size ≤ j) : TwoT F0 wf w t1 V1 t2 V2 := by
  obtain ⟨hk, b1, S1, b2, S2, h1, h2, h3, h4, h5, h6, h7⟩ := h
  exact ⟨k.through hk hF, b1, S1, b2, S2, h1, h2, h3, h4, fun j hj => (h5 j hj).elim (hF j) (fun h => .inr (Nat.le_trans k.size h)), fun j hj => (h6 j hj).elim (hF j) (fun h => .inr (Nat.le_trans k.size h)), h7⟩
theorem TwoT.ext {F0 : List Nat} {W wf w : World} {t1 t2 : Nat} {V1 V2 : Areas × List TM} (h : TwoT F0 wf w t1 V1 t2 V2) (he : Ext W wf) (hF : ∀ j ∈ F0, W.heap.size ≤ j) : Ext W w := h.keep.below he he.size hF
/-- What holds whatever turns of F0. -/
def Holds (F0 : List Nat) (wf : World) (p : World → Prop) : Prop := ∀ w', Keep F0 wf w' → p w'
/-- A thing that was there at W, of which nothing has turned. -/
theorem Holds.old {α : Type} {F0 : List Nat} {W wf : World} {sz : Nat} {enc : α → List Value} {v : Value} {xs : List α} (h : Rd W sz enc v xs) (he : Ext W wf) (hF : ∀ j ∈ F0, W.heap.size ≤ j) : Holds F0 wf fun w' => Rd w' sz enc v xs :=
  fun w' k => keep_old h he k hF
def TwoA (F0 : List Nat) (wf : World) (t1 : Nat) (V1 : Areas × List TM) (t2 : Nat) (V2 : Areas × List TM) (r : Value) (e : Ending) (w' : World) : Prop := e = .returned r ∧ TwoT F0 wf w' t1 V1 t2 V2
theorem two_put {F0 : List Nat} {wf w : World} {t1 t2 : Nat} {V1 V2 : Areas × List TM} (h : TwoT F0 wf w t1 V1 t2 V2) (i : Int) (kv vv : Value) (ks vs : List Int) (flags : Int) (hk : Sl w .u8 kv ks) (hu : ∀ q ∈ vs, 0 ≤ q ∧ q ≤ 255) (hf0 : 0 ≤ flags) (HF : Hid (flags ≤ 18446744073709551615)) (HST : Hid (Holds F0 wf fun w' => Sl w' .u8 vv vs)) :
    Calls Try.prog 25 #[.pointer (some ⟨t1, 0, none⟩), .int .i64 i, kv, vv, .int .u64 flags] w (TwoA F0 wf t1 (tput V1 i ks vs flags).1 t2 V2 (.tuple #[.int .u64 (tput V1 i ks vs flags).2.1, .int .i64 (tput V1 i ks vs flags).2.2])) := by
  obtain ⟨hkp, b1, S1, b2, S2, h1, rfl, h3, rfl, h5, h6, h7⟩ := h
  refine (tab_put b1 t1 S1 i kv vv ks vs flags w h1 hk (HST.out w hkp) hu hf0 HF (Lib.hid fun w' k' => HST.out w' (hkp.through k' h5))).mono ?_
  rintro e w' ⟨rfl, hk', S', hT, hv, hf, hb⟩
  have hlt := h3.lt
  exact ⟨rfl, hkp.through hk' h5, b1, S', b2, S2, hT, hv, h3.keep hk' (fun j hj h => h7 j h hj), rfl, fun j hj => (hf j hj).elim (h5 j) (fun h => .inr (Nat.le_trans hkp.size h)), h6, fun j hj h2 => (hf j hj).elim (fun h => h7 j h h2) (fun h => by have := hlt j h2; omega)⟩
theorem two_drop {F0 : List Nat} {wf w : World} {t1 t2 : Nat} {V1 V2 : Areas × List TM} (h : TwoT F0 wf w t1 V1 t2 V2) (i : Int) (kv : Value) (ks : List Int) (hk : Sl w .u8 kv ks) :
    Calls Try.prog 23 #[.pointer (some ⟨t1, 0, none⟩), .int .i64 i, kv] w (TwoA F0 wf t1 (V1.1, (tdrop V1.2 i ks).1) t2 V2 (.tuple #[.int .u64 (tdrop V1.2 i ks).2.1, .int .i64 (tdrop V1.2 i ks).2.2])) := by
  obtain ⟨hkp, b1, S1, b2, S2, h1, rfl, h3, rfl, h5, h6, h7⟩ := h
  refine (tab_drop b1 t1 S1 i kv ks w h1 hk).mono ?_
  rintro e w' ⟨rfl, hk', S', hT, hv, hf, hb⟩
  exact ⟨rfl, hkp.through hk' h5, b1, S', b2, S2, hT, hv, h3.keep hk' (fun j hj h => h7 j h hj), rfl, fun j hj => h5 j (hf ▸ hj), h6, fun j hj h2 => h7 j (hf ▸ hj) h2⟩
theorem two_items {F0 : List Nat} {wf w : World} {t1 t2 : Nat} {V1 V2 : Areas × List TM} (h : TwoT F0 wf w t1 V1 t2 V2) (i : Int) (HB : Hid (∀ t ∈ V1.2, t.slots.length ≤ 1000 ∧ ∀ p ∈ t.slots, p.1.size ≤ 1000)) :
    Calls Try.prog 17 #[.pointer (some ⟨t1, 0, none⟩), .int .i64 i] w (ItemsT (titems V1 i) w) := by
  obtain ⟨hkp, b1, S1, b2, S2, h1, rfl, h3, rfl, h5, h6, h7⟩ := h
  exact tab_items b1 t1 S1 i w h1 (Lib.hid fun x hx => HB.out x.T (List.mem_map.2 ⟨x, hx, rfl⟩))
/-- A second table beside the first. -/
theorem TwoT.mk' {W W2 w w' : World} {b tb b2 tb2 : Nat} {V V2 : Areas × List TM} (h1 : TabIn W w b tb V []) (k : Ext w w') (h2 : TabIn W2 w' b2 tb2 V2 []) (k2 : Ext w W2) : ∃ F, TwoT F w' w' tb V tb2 V2 ∧ ∀ j ∈ F, j < w'.heap.size ∧ W.heap.size ≤ j := by
  obtain ⟨he, base, S, h1, rfl, h3, h4⟩ := h1
  obtain ⟨he2, base2, S2, g1, rfl, g3, g4⟩ := h2
  have hs := k2.size
  have hlt := h1.lt
  have e1 := h1.ext k
  refine ⟨tfoot tb S ++ tfoot tb2 S2, ⟨Keep.rfl' _ _, base, S, base2, S2, e1, rfl, g1, rfl, fun j hj => .inl (List.mem_append_left _ hj), fun j hj => .inl (List.mem_append_right _ hj), fun j hj h2 => ?_⟩, fun j hj => ?_⟩
  · have := hlt j hj
    have := (g4 j h2).1
    omega
  · rcases List.mem_append.1 hj with hj | hj
    · exact ⟨e1.lt j hj, (h4 j hj).1⟩
    · have := (g4 j hj).1
      have := he.size
      exact ⟨g1.lt j hj, by omega⟩

set_option maxRecDepth 20000 in
set_option maxHeartbeats 2000000 in
theorem same_true (va vb : Value) (l : List (ByteArray × List Int)) (w : World) (ha : IsItems w va l) (hb : IsItems w vb l) : Calls Try.prog 16 #[va, vb] w (BoolAns true w) := by
  obtain ⟨I, hI, hi, hIl⟩ := ha
  obtain ⟨J, hJ, hj, hJl⟩ := hb
  obtain ⟨aa, an, ac, rfl, han, hAN⟩ := hI.val
  obtain ⟨ba, bn, bc, rfl, hbn, hBN⟩ := hJ.val
  have hl : an = l.length ∧ bn = l.length := by
    have h1 := congrArg List.length hIl
    have h2 := congrArg List.length hJl
    simp only [List.length_map] at h1 h2
    have := hAN.out; have := hBN.out
    omega
  obtain ⟨rfl, e⟩ := hl
  obtain rfl : bn = l.length := e
  obtain ⟨n, hn⟩ : ∃ n, l.length = n := ⟨_, rfl⟩
  rw [hn] at hI hJ han hAN hbn hBN
  have HI := Lib.hid hI
  have HJ := Lib.hid hJ
  have HIR := Lib.hid hi
  have HJR := Lib.hid hj
  have HIL := Lib.hid hIl
  have HJL := Lib.hid hJl
  rw [hn]
  clear hI hJ hi hj hIl hJl
  have HN := Lib.hid hn
  clear hn
  go_enter Try.func16, Try.ntmps16
  go_wp2_with fail
  go_loopw [5] (fun i wr => ∃ (j : Nat), j ≤ n ∧ i = .int .i64 j ∧ Ext w wr) (fun i _ => n - (intOf i).toNat)
  case atStart => exact ⟨0, Nat.zero_le _, rfl, Ext.rfl' _⟩
  case round =>
    obtain ⟨j, hj, rfl, hwr⟩ := hrel
    by_cases hlt : (j : Int) < n
    · obtain ⟨x, hx⟩ := at_of_lt (xs := I) (k := j) (by have := HIL.out; have := hAN.out; omega)
      obtain ⟨y, hy⟩ := at_of_lt (xs := J) (k := j) (by have := HJL.out; have := hBN.out; omega)
      have ix := fun W => HI.out.run_at (P := Try.prog) el_item.under el_item.size .i64 (j : Int) (by omega) (by omega) W
      have iy := fun W => HJ.out.run_at (P := Try.prog) el_item.under el_item.size .i64 (j : Int) (by omega) (by omega) W
      obtain ⟨c0, c1⟩ := item_cells (HI.out.ext hwr) hx
      obtain ⟨d0, d1⟩ := item_cells (HJ.out.ext hwr) hy
      simp only [Int.toNat_natCast] at ix iy
      obtain ⟨xk, xv⟩ := HIR.out x (List.mem_of_getElem? hx)
      obtain ⟨yk, yv⟩ := HJR.out y (List.mem_of_getElem? hy)
      have hxy : strOfNums x.key = strOfNums y.key ∧ x.val = y.val := by
        have h1 := congrArg (fun l => l[j]?) (HIL.out.trans HJL.out.symm)
        simp only [List.getElem?_map, hx, hy, Option.map_some, Option.some.injEq, Prod.mk.injEq] at h1
        exact h1
      obtain ⟨e1, e2⟩ := hxy
      rw [IT.kv] at c0 xk d0 yk
      rw [IT.vv] at c1 xv d1 yv
      obtain ⟨k1, hk1⟩ : ∃ k1, x.key.length = k1 := ⟨_, rfl⟩
      obtain ⟨k2, hk2⟩ : ∃ k2, y.key.length = k2 := ⟨_, rfl⟩
      obtain ⟨v1, hv1⟩ : ∃ v1, x.val.length = v1 := ⟨_, rfl⟩
      obtain ⟨v2, hv2⟩ : ∃ v2, y.val.length = v2 := ⟨_, rfl⟩
      rw [hk1] at c0 xk
      rw [hk2] at d0 yk
      rw [hv1] at c1 xv
      rw [hv2] at d1 yv
      have s1 := fun n => ((xk.ext hwr).ext ((Ext.rfl' _).drewN' n)).run_str (P := Try.prog) Try.underlying40 Try.underlying5 Try.underlying9
      have s2 := fun n => ((xv.ext hwr).ext ((Ext.rfl' _).drewN' n)).run_str (P := Try.prog) Try.underlying40 Try.underlying5 Try.underlying9
      have s3 := fun n => ((yk.ext hwr).ext ((Ext.rfl' _).drewN' n)).run_str (P := Try.prog) Try.underlying40 Try.underlying5 Try.underlying9
      have s4 := fun n => ((yv.ext hwr).ext ((Ext.rfl' _).drewN' n)).run_str (P := Try.prog) Try.underlying40 Try.underlying5 Try.underlying9
      rw [e1] at s1
      rw [e2] at s2
      generalize strOfNums y.key = sk at *
      generalize strOfNums y.val = sv at *
      clear hx hy xk xv yk yv e1 e2 hk1 hk2 hv1 hv2
      go_wp2_with fail
      go_quiet (fail)
      go_wp2_with fail
      go_roundw
      case rel => exact ⟨j + 1, by omega, by go_num, by (repeat (first | exact Ext.rfl' _ | assumption | refine Ext.drewN' ?_ _ | refine Ext.drew' ?_ | refine Ext.alloc' ?_ _ | refine Ext.trans' ?_ (by assumption)))⟩
      case measure => simp [intOf]; omega
    · go_wp2_with fail
      go_returns
      exact ⟨rfl, hwr⟩
end Go.Proofs.Ytjimmbcihcmfoaa
