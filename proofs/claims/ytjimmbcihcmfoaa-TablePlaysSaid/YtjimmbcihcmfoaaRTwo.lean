/- The program's maps and the document's, in one heap. -/
import Derived.Test.YtjimmbcihcmfoaaRL
import Derived.Test.YtjimmbcihcmfoaaTabQ
import Derived.Test.YtjimmbcihcmfoaaRTF
namespace Go.Proofs.Ytjimmbcihcmfoaa
open Go.RowKit
set_option linter.unusedVariables false
set_option linter.unusedSimpArgs false

/-- Of what was there at wf only what is of F0 may turn; the program's maps and the document's lie apart. -/
structure TwoR (F0 : List Nat) (wf w : World) (mb t1 rb t2 : Nat) (V1 V2 : Areas × List TM) : Prop where
  keep : Keep F0 wf w
  tabs : ∃ b1 S1 b2 S2, TabAt w b1 t1 S1 ∧ tview S1 = V1 ∧ S1.b = mb ∧ RTabAt w b2 t2 S2 ∧ rview S2 = V2 ∧ S2.rb = rb ∧ (∀ j ∈ tfoot t1 S1, j ∈ F0 ∨ wf.heap.size ≤ j) ∧ (∀ j ∈ rtfoot t2 S2, j ∈ F0 ∨ wf.heap.size ≤ j) ∧ ∀ j ∈ tfoot t1 S1, j ∉ rtfoot t2 S2
section
variable {F0 : List Nat} {wf w w' : World} {mb t1 rb t2 : Nat} {V1 V2 : Areas × List TM}
theorem TwoR.go (h : TwoR F0 wf w mb t1 rb t2 V1 V2) (k : Ext w w') : TwoR F0 wf w' mb t1 rb t2 V1 V2 := by
  obtain ⟨hk, b1, S1, b2, S2, h1, h2, hb, h3, h4, hr, h5, h6, h7⟩ := h
  exact ⟨hk.trans (Keep.of_ext k), b1, S1, b2, S2, h1.ext k, h2, hb, h3.ext k, h4, hr, h5, h6, h7⟩
/-- .. told anew from a later world on, and back. -/
theorem TwoR.fix (h : TwoR F0 wf w mb t1 rb t2 V1 V2) (k : Ext w w') : ∃ F, TwoR F w' w' mb t1 rb t2 V1 V2 ∧ ∀ j ∈ F, j < w.heap.size ∧ (j ∈ F0 ∨ wf.heap.size ≤ j) := by
  obtain ⟨hk, b1, S1, b2, S2, h1, h2, hb, h3, h4, hr, h5, h6, h7⟩ := h
  refine ⟨tfoot t1 S1 ++ rtfoot t2 S2, ⟨Keep.rfl' _ _, b1, S1, b2, S2, h1.ext k, h2, hb, h3.ext k, h4, hr, fun j hj => .inl (List.mem_append_left _ hj), fun j hj => .inl (List.mem_append_right _ hj), h7⟩, fun j hj => ?_⟩
  rcases List.mem_append.1 hj with hj | hj
  · exact ⟨h1.lt j hj, h5 j hj⟩
  · exact ⟨(h3.lt j hj).2, h6 j hj⟩
theorem TwoR.back {F : List Nat} {w1 : World} (h : TwoR F w1 w mb t1 rb t2 V1 V2) (k : Keep F0 wf w1) (hF : ∀ j ∈ F, j ∈ F0 ∨ wf.heap.size ≤ j) : TwoR F0 wf w mb t1 rb t2 V1 V2 := by
  obtain ⟨hk, b1, S1, b2, S2, h1, h2, hb, h3, h4, hr, h5, h6, h7⟩ := h
  exact ⟨k.through hk hF, b1, S1, b2, S2, h1, h2, hb, h3, h4, hr, fun j hj => (h5 j hj).elim (hF j) (fun h => .inr (Nat.le_trans k.size h)), fun j hj => (h6 j hj).elim (hF j) (fun h => .inr (Nat.le_trans k.size h)), h7⟩
theorem TwoR.ext {W : World} (h : TwoR F0 wf w mb t1 rb t2 V1 V2) (he : Ext W wf) (hF : ∀ j ∈ F0, W.heap.size ≤ j) : Ext W w := h.keep.below he he.size hF
def TwoRA (F0 : List Nat) (wf : World) (mb t1 rb t2 : Nat) (V1 V2 : Areas × List TM) (r : Value) (e : Ending) (w' : World) : Prop := e = .returned r ∧ TwoR F0 wf w' mb t1 rb t2 V1 V2
/-- .. and the world has only grown. -/
def TwoRE (F0 : List Nat) (wf : World) (mb t1 rb t2 : Nat) (V1 V2 : Areas × List TM) (r : Value) (w : World) (e : Ending) (w' : World) : Prop := e = .returned r ∧ TwoR F0 wf w' mb t1 rb t2 V1 V2 ∧ Ext w w'
theorem twor_put (h : TwoR F0 wf w mb t1 rb t2 V1 V2) (i : Int) (kv vv : Value) (ks vs : List Int) (flags : Int) (hu : ∀ q ∈ vs, 0 ≤ q ∧ q ≤ 255) (hf0 : 0 ≤ flags) (HF : Hid (flags ≤ 18446744073709551615)) (HST : Hid (Holds F0 wf fun w' => Sl w' .u8 vv vs)) (HKT : Hid (Holds F0 wf fun w' => Sl w' .u8 kv ks)) :
    Calls Try.prog 25 #[.pointer (some ⟨t1, 0, none⟩), .int .i64 i, kv, vv, .int .u64 flags] w (TwoRA F0 wf mb t1 rb t2 (tput V1 i ks vs flags).1 V2 (.tuple #[.int .u64 (tput V1 i ks vs flags).2.1, .int .i64 (tput V1 i ks vs flags).2.2])) := by
  obtain ⟨hkp, b1, S1, b2, S2, h1, rfl, hb, h3, h4, hr, h5, h6, h7⟩ := h
  refine (tab_put b1 t1 S1 i kv vv ks vs flags w h1 (HKT.out w hkp) (HST.out w hkp) hu hf0 HF (Lib.hid fun w' k' => HST.out w' (hkp.through k' h5))).mono ?_
  rintro e w' ⟨rfl, hk', S', hT, hv, hf, hbb⟩
  have hlt := fun j hj => (h3.lt j hj).2
  exact ⟨rfl, hkp.through hk' h5, b1, S', b2, S2, hT, hv, hbb.trans hb, h3.keep hk' (fun j hj h => h7 j h hj), h4, hr, fun j hj => (hf j hj).elim (h5 j) (fun h => .inr (Nat.le_trans hkp.size h)), h6, fun j hj h2 => (hf j hj).elim (fun h => h7 j h h2) (fun h => by have := hlt j h2; omega)⟩
theorem twor_rput (h : TwoR F0 wf w mb t1 rb t2 V1 V2) (i : Int) (kv vv : Value) (ks vs : List Int) (flags : Int) (HLB : Hid (∀ t ∈ V2.2, t.slots.length ≤ 1000 ∧ ∀ p ∈ t.slots, p.1.size ≤ 1000)) (hu : ∀ q ∈ vs, 0 ≤ q ∧ q ≤ 255) (hf0 : 0 ≤ flags) (HF : Hid (flags ≤ 18446744073709551615)) (HST : Hid (Holds F0 wf fun w' => Sl w' .u8 vv vs)) (HKT : Hid (Holds F0 wf fun w' => Sl w' .u8 kv ks)) :
    Calls Try.prog 38 #[.pointer (some ⟨t2, 0, none⟩), .int .i64 i, kv, vv, .int .u64 flags] w (TwoRA F0 wf mb t1 rb t2 V1 (rput V2 i ks vs flags).1 (.tuple #[.int .u64 (rput V2 i ks vs flags).2.1, .int .i64 (rput V2 i ks vs flags).2.2])) := by
  obtain ⟨hkp, b1, S1, b2, S2, h1, h2, hb, h3, rfl, hr, h5, h6, h7⟩ := h
  have hb2 : b2 ≤ w.heap.size := by have := h3.low; have := heap_lt h3.head; omega
  refine (rtab_put b2 t2 S2 i kv vv ks vs flags w h3 hb2 (Lib.hid fun x hx => (HLB.out x.T (List.mem_map.2 ⟨x, hx, rfl⟩)).1) (HKT.out w hkp) (HST.out w hkp) hu hf0 HF (Lib.hid fun w' k' => HST.out w' (hkp.through k' h6)) (Lib.hid fun w' k' => HKT.out w' (hkp.through k' h6))).mono ?_
  rintro e w' ⟨rfl, hk', S', hT, hv, hf, hbb⟩
  have hlt := h1.lt
  exact ⟨rfl, hkp.through hk' h6, b1, S1, b2, S', h1.keep hk' (fun j hj h => h7 j hj h), h2, hb, hT, hv, hbb.trans hr, h5, fun j hj => (hf j hj).elim (h6 j) (fun h => .inr (Nat.le_trans hkp.size h)), fun j hj h2 => (hf j h2).elim (fun h => h7 j hj h) (fun h => by have := hlt j hj; omega)⟩
theorem twor_drop (h : TwoR F0 wf w mb t1 rb t2 V1 V2) (i : Int) (kv : Value) (ks : List Int) (hk : Sl w .u8 kv ks) :
    Calls Try.prog 23 #[.pointer (some ⟨t1, 0, none⟩), .int .i64 i, kv] w (TwoRA F0 wf mb t1 rb t2 (V1.1, (tdrop V1.2 i ks).1) V2 (.tuple #[.int .u64 (tdrop V1.2 i ks).2.1, .int .i64 (tdrop V1.2 i ks).2.2])) := by
  obtain ⟨hkp, b1, S1, b2, S2, h1, rfl, hb, h3, h4, hr, h5, h6, h7⟩ := h
  refine (tab_drop b1 t1 S1 i kv ks w h1 hk).mono ?_
  rintro e w' ⟨rfl, hk', S', hT, hv, hf, hbb⟩
  exact ⟨rfl, hkp.through hk' h5, b1, S', b2, S2, hT, hv, hbb.trans hb, h3.keep hk' (fun j hj h => h7 j h hj), h4, hr, fun j hj => h5 j (hf ▸ hj), h6, fun j hj h2 => h7 j (hf ▸ hj) h2⟩
theorem twor_rdrop (h : TwoR F0 wf w mb t1 rb t2 V1 V2) (i : Int) (kv : Value) (ks : List Int) (HLB : Hid (∀ t ∈ V2.2, t.slots.length ≤ 1000 ∧ ∀ p ∈ t.slots, p.1.size ≤ 1000)) (hk : Sl w .u8 kv ks) :
    Calls Try.prog 36 #[.pointer (some ⟨t2, 0, none⟩), .int .i64 i, kv] w (TwoRA F0 wf mb t1 rb t2 V1 (V2.1, (rdrop V2.2 i ks).1) (.tuple #[.int .u64 (rdrop V2.2 i ks).2.1, .int .i64 (rdrop V2.2 i ks).2.2])) := by
  obtain ⟨hkp, b1, S1, b2, S2, h1, h2, hb, h3, rfl, hr, h5, h6, h7⟩ := h
  have hb2 : b2 ≤ w.heap.size := by have := h3.low; have := heap_lt h3.head; omega
  refine (rtab_drop b2 t2 S2 i kv ks w h3 hb2 (Lib.hid fun x hx => (HLB.out x.T (List.mem_map.2 ⟨x, hx, rfl⟩)).1) hk).mono ?_
  rintro e w' ⟨rfl, hk', S', hT, hv, hf, hbb⟩
  have hlt := h1.lt
  exact ⟨rfl, hkp.through hk' h6, b1, S1, b2, S', h1.keep hk' (fun j hj h => h7 j hj h), h2, hb, hT, hv, hbb.trans hr, h5, fun j hj => (hf j hj).elim (h6 j) (fun h => .inr (Nat.le_trans hkp.size h)), fun j hj h2 => (hf j h2).elim (fun h => h7 j hj h) (fun h => by have := hlt j hj; omega)⟩
theorem twor_look (h : TwoR F0 wf w mb t1 rb t2 V1 V2) (i : Int) (kv : Value) (ks : List Int) (hk : Sl w .u8 kv ks) :
    Calls Try.prog 24 #[.pointer (some ⟨t1, 0, none⟩), .int .i64 i, kv] w (TwoRE F0 wf mb t1 rb t2 V1 V2 (.tuple #[.int .u64 (tlook V1.2 i ks).1, .int .i64 (tlook V1.2 i ks).2]) w) := by
  have h' := h
  obtain ⟨hkp, b1, S1, b2, S2, h1, rfl, hb, h3, h4, hr, h5, h6, h7⟩ := h
  refine (tab_look b1 t1 S1 i kv ks w h1 hk).mono ?_
  rintro e w' ⟨rfl, hE⟩
  exact ⟨rfl, h'.go hE, hE⟩
theorem twor_rlook (h : TwoR F0 wf w mb t1 rb t2 V1 V2) (i : Int) (kv : Value) (ks : List Int) (hk : Sl w .u8 kv ks) :
    Calls Try.prog 37 #[.pointer (some ⟨t2, 0, none⟩), .int .i64 i, kv] w (TwoRE F0 wf mb t1 rb t2 V1 V2 (.tuple #[.int .u64 (tlook V2.2 i ks).1, .int .i64 (tlook V2.2 i ks).2]) w) := by
  have h' := h
  obtain ⟨hkp, b1, S1, b2, S2, h1, h2, hb, h3, rfl, hr, h5, h6, h7⟩ := h
  refine (rtab_look b2 t2 S2 i kv ks w h3 hk).mono ?_
  rintro e w' ⟨rfl, hE⟩
  exact ⟨rfl, h'.go hE, hE⟩
theorem twor_store (h : TwoR F0 wf w mb t1 rb t2 V1 V2) (p s n : Int) (hp : 0 ≤ p) (H : Hid (p ≤ 18446744073709551615)) (hn : 0 ≤ n) :
    Calls Try.prog 29 #[.pointer (some ⟨mb, 0, none⟩), .int .u64 p, .int .i64 s, .int .u64 n] w (TwoRA F0 wf mb t1 rb t2 ((mstore V1.1 p s n).1, V1.2) V2 (.int .i64 (mstore V1.1 p s n).2)) := by
  obtain ⟨hkp, b1, S1, b2, S2, h1, rfl, rfl, h3, h4, hr, h5, h6, h7⟩ := h
  refine (mem_store S1.b S1.r S1.L p s n w h1.mem hp H hn).mono ?_
  rintro e w' ⟨rfl, hk, L', k1, k2, k3⟩
  have hst := h1.memStep hk k1 (fun j hj => .inl (k3 ▸ hj))
  have hk' : Keep (tfoot t1 S1) w w' := hk.mono fun j hj => .inl (foot_sub t1 S1 j hj)
  have hlt := fun j hj => (h3.lt j hj).2
  exact ⟨rfl, hkp.through hk' h5, b1, _, b2, S2, hst.1, by simp only [tview, k2], rfl, h3.keep hk' (fun j hj h => h7 j h hj), h4, hr, fun j hj => (hst.2 j hj).elim (h5 j) (fun h => .inr (Nat.le_trans hkp.size h)), h6, fun j hj h2 => (hst.2 j hj).elim (fun h => h7 j h h2) (fun h => by have := hlt j h2; omega)⟩
theorem twor_rstore (h : TwoR F0 wf w mb t1 rb t2 V1 V2) (p s n : Int) (hp : 0 ≤ p) (H : Hid (p ≤ 18446744073709551615)) (hn : 0 ≤ n) (HN : Hid (n ≤ 18446744073709551615)) :
    Calls Try.prog 39 #[.pointer (some ⟨rb, 0, none⟩), .int .u64 p, .int .i64 s, .int .u64 n] w (TwoRA F0 wf mb t1 rb t2 V1 ((mstore V2.1 p s n).1, V2.2) (.int .i64 (mstore V2.1 p s n).2)) := by
  obtain ⟨hkp, b1, S1, b2, S2, h1, h2, hb, h3, rfl, rfl, h5, h6, h7⟩ := h
  refine (ref_store b2 S2.rb S2.lv S2.L p s n w h3.mem hp H hn HN).mono ?_
  rintro e w' ⟨rfl, hk, L', k1, k2, k3⟩
  have hst := h3.memStep hk k1 (fun j hj => .inl (k3 ▸ hj))
  have hk' : Keep (rtfoot t2 S2) w w' := hk.mono fun j hj => .inl (rfoot_sub t2 S2 j hj)
  have hlt := h1.lt
  exact ⟨rfl, hkp.through hk' h6, b1, S1, b2, _, h1.keep hk' (fun j hj h => h7 j hj h), h2, hb, hst.1, by simp only [rview, k2], rfl, h5, fun j hj => (hst.2 j hj).elim (h6 j) (fun h => .inr (Nat.le_trans hkp.size h)), fun j hj h2 => (hst.2 j h2).elim (fun h => h7 j hj h) (fun h => by have := hlt j hj; omega)⟩
theorem twor_items (h : TwoR F0 wf w mb t1 rb t2 V1 V2) (i : Int) (HB : Hid (∀ t ∈ V1.2, t.slots.length ≤ 1000 ∧ ∀ p ∈ t.slots, p.1.size ≤ 1000)) :
    Calls Try.prog 17 #[.pointer (some ⟨t1, 0, none⟩), .int .i64 i] w (ItemsT (titems V1 i) w) := by
  obtain ⟨hkp, b1, S1, b2, S2, h1, rfl, hb, h3, h4, hr, h5, h6, h7⟩ := h
  exact tab_items b1 t1 S1 i w h1 (Lib.hid fun x hx => HB.out x.T (List.mem_map.2 ⟨x, hx, rfl⟩))
theorem twor_ritems (h : TwoR F0 wf w mb t1 rb t2 V1 V2) (i : Int) (HB : Hid (∀ t ∈ V2.2, t.slots.length ≤ 1000 ∧ ∀ p ∈ t.slots, p.1.size ≤ 1000)) :
    Calls Try.prog 18 #[.pointer (some ⟨t2, 0, none⟩), .int .i64 i] w (ItemsT (ritems V2 i) w) := by
  obtain ⟨hkp, b1, S1, b2, S2, h1, h2, hb, h3, rfl, hr, h5, h6, h7⟩ := h
  exact rtab_items b2 t2 S2 i w h3 (Lib.hid fun x hx => HB.out x.T (List.mem_map.2 ⟨x, hx, rfl⟩))
def BytesA (xs : List Int) (u : Value) (w : World) (e : Ending) (w' : World) : Prop := ∃ v, e = .returned (.tuple #[v, u]) ∧ Sl w' .u8 v xs ∧ Ext w w'
theorem twor_area (h : TwoR F0 wf w mb t1 rb t2 V1 V2) (n : Int) :
    Calls Try.prog 19 #[.pointer (some ⟨mb, 0, none⟩), .int .i64 n] w (BytesA (marea V1.1 n).1 (.bool (marea V1.1 n).2) w) := by
  obtain ⟨hkp, b1, S1, b2, S2, h1, rfl, rfl, h3, h4, hr, h5, h6, h7⟩ := h
  refine (mem_area S1.b S1.r S1.L n w h1.mem).mono ?_
  rintro e w' ⟨v, rfl, hv, hk⟩
  exact ⟨v, rfl, hv.rd (enc_int _), hk⟩
theorem twor_rarea (h : TwoR F0 wf w mb t1 rb t2 V1 V2) (n : Int) :
    Calls Try.prog 21 #[.pointer (some ⟨rb, 0, none⟩), .int .i64 n] w (BytesA (marea V2.1 n).1 (.bool (marea V2.1 n).2) w) := by
  obtain ⟨hkp, b1, S1, b2, S2, h1, h2, hb, h3, rfl, rfl, h5, h6, h7⟩ := h
  refine (ref_area b2 S2.rb S2.lv S2.L n w h3.mem).mono ?_
  rintro e w' ⟨v, rfl, hv, rfl⟩
  exact ⟨v, rfl, hv, Ext.rfl' _⟩
end
end Go.Proofs.Ytjimmbcihcmfoaa
