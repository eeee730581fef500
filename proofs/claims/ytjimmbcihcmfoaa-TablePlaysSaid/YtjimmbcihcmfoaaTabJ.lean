/- Maps of layer 9, as the call's own: the contracts told once more; what laws share. -/
import Derived.Test.YtjimmbcihcmfoaaTabI
namespace Go.Proofs.Ytjimmbcihcmfoaa
open Go.RowKit
set_option linter.unusedVariables false
set_option linter.unusedSimpArgs false

/-- Maps at tb, over the memory b, made since W, apart of the blocks G; nothing of W has turned. -/
structure TabIn (W w : World) (b tb : Nat) (V : Areas × List TM) (G : List Nat) : Prop where
  ext : Ext W w
  tab : ∃ base S, TabAt w base tb S ∧ tview S = V ∧ S.b = b ∧ ∀ k ∈ tfoot tb S, W.heap.size ≤ k ∧ k ∉ G
theorem TabIn.go {W w w' : World} {b tb : Nat} {V : Areas × List TM} {G : List Nat} (h : TabIn W w b tb V G) (k : Ext w w') : TabIn W w' b tb V G := by
  obtain ⟨he, base, S, h1, h2, h3, h4⟩ := h
  exact ⟨he.trans' k, base, S, h1.ext k, h2, h3, h4⟩
/-- .. and of new ones. -/
theorem TabIn.add {W w w' : World} {b tb : Nat} {V : Areas × List TM} {G : List Nat} (h : TabIn W w b tb V G) (k : Ext w w') (G' : List Nat) (hG : ∀ g ∈ G', g ∈ G ∨ w.heap.size ≤ g) : TabIn W w' b tb V G' := by
  obtain ⟨he, base, S, h1, h2, h3, h4⟩ := h
  have hlt := h1.lt
  exact ⟨he.trans' k, base, S, h1.ext k, h2, h3, fun j hj => ⟨(h4 j hj).1, fun hg => (hG j hg).elim (h4 j hj).2 (fun h => by have := hlt j hj; omega)⟩⟩
/-- A thing that holds at w whatever has turned among what was made since W, but in G. -/
def Firm (W : World) (G : List Nat) (w : World) (p : World → Prop) : Prop := ∀ F w', (∀ j ∈ F, W.heap.size ≤ j ∧ j ∉ G) → Keep F w w' → p w'
/-- What turned. -/
def Moves (W : World) (G : List Nat) (w w' : World) : Prop := ∃ F, (∀ j ∈ F, W.heap.size ≤ j ∧ j ∉ G) ∧ Keep F w w'
theorem Firm.use {W w w' : World} {G : List Nat} {p : World → Prop} (h : Firm W G w p) (k : Moves W G w w') : p w' := by
  obtain ⟨F, h1, h2⟩ := k
  exact h F w' h1 h2
theorem Moves.size {W w w' : World} {G : List Nat} (k : Moves W G w w') : w.heap.size ≤ w'.heap.size := by
  obtain ⟨F, h1, h2⟩ := k
  exact h2.size
/-- Among what was made between W and w1. -/
def FirmN (W w1 w : World) (p : World → Prop) : Prop := ∀ F w', (∀ j ∈ F, W.heap.size ≤ j ∧ j < w1.heap.size) → Keep F w w' → p w'
def InT (W : World) (b tb : Nat) (V : Areas × List TM) (G : List Nat) (r : Value) (w : World) (e : Ending) (w' : World) : Prop := e = .returned r ∧ TabIn W w' b tb V G ∧ Moves W G w w'
def NewIT (W : World) (b : Nat) (M : Areas) (ds : List TDef) (e : Ending) (w' : World) : Prop :=
  Ext W w' ∧ ((tnew M ds = none ∧ e = .returned (.tuple #[.pointer none, .int .i64 1])) ∨ ∃ tb V, tnew M ds = some V ∧ e = .returned (.tuple #[.pointer (some ⟨tb, 0, none⟩), .int .i64 0]) ∧ TabIn W w' b tb V [])
theorem int_new {W w1 w : World} {b : Nat} {M : Areas} (h : MemIn W w1 b M) (k : Ext w1 w) (dv : Value) (ds : List TDef) (HD : Hid (FirmN W w1 w fun w' => Rd w' 4 TDef.enc dv ds)) :
    Calls Try.prog 10 #[.pointer (some ⟨b, 0, none⟩), dv] w (NewIT W b M ds) := by
  obtain ⟨he, r, L, h1, rfl, h3⟩ := h
  have hlt := h1.lt
  have h2 := he.trans' k
  refine (tab_new w.heap.size b r L dv ds w (h1.ext k) (Nat.le_refl _) (Lib.hid fun w' k' => HD.out _ w' (fun j hj => ⟨h3 j hj, hlt j hj⟩) k')).mono ?_
  rintro e w' ⟨hk, h⟩
  have hE := hk.below h2 h2.size h3
  refine ⟨hE, ?_⟩
  rcases h with ⟨hn, rfl⟩ | ⟨tb, S, hn, rfl, hT, hb, hf⟩
  · exact .inl ⟨hn, rfl⟩
  · exact .inr ⟨tb, tview S, hn, rfl, hE, _, S, hT, rfl, hb, fun j hj => ⟨(hf j hj).elim (h3 j) (fun h => Nat.le_trans h2.size h), fun h => by cases h⟩⟩
theorem int_look {W w : World} {b tb : Nat} {V : Areas × List TM} {G : List Nat} (h : TabIn W w b tb V G) (i : Int) (kv : Value) (ks : List Int) (hk : Sl w .u8 kv ks) :
    Calls Try.prog 24 #[.pointer (some ⟨tb, 0, none⟩), .int .i64 i, kv] w fun e w' => e = .returned (.tuple #[.int .u64 (tlook V.2 i ks).1, .int .i64 (tlook V.2 i ks).2]) ∧ TabIn W w' b tb V G ∧ Ext w w' := by
  have h' := h
  obtain ⟨he, base, S, h1, rfl, h3, h4⟩ := h
  refine (tab_look base tb S i kv ks w h1 hk).mono ?_
  rintro e w' ⟨rfl, hE⟩
  exact ⟨rfl, h'.go hE, hE⟩
theorem int_items {W w : World} {b tb : Nat} {V : Areas × List TM} {G : List Nat} (h : TabIn W w b tb V G) (i : Int) (HB : Hid (∀ t ∈ V.2, t.slots.length ≤ 1000 ∧ ∀ p ∈ t.slots, p.1.size ≤ 1000)) :
    Calls Try.prog 17 #[.pointer (some ⟨tb, 0, none⟩), .int .i64 i] w (ItemsT (titems V i) w) := by
  obtain ⟨he, base, S, h1, rfl, h3, h4⟩ := h
  exact tab_items base tb S i w h1 (Lib.hid fun x hx => HB.out x.T (List.mem_map.2 ⟨x, hx, rfl⟩))
theorem int_put {W w : World} {b tb : Nat} {V : Areas × List TM} {G : List Nat} (h : TabIn W w b tb V G) (hG : ∀ g ∈ G, g < w.heap.size) (i : Int) (kv vv : Value) (ks vs : List Int) (flags : Int) (hk : Sl w .u8 kv ks) (hu : ∀ q ∈ vs, 0 ≤ q ∧ q ≤ 255) (hf0 : 0 ≤ flags) (HF : Hid (flags ≤ 18446744073709551615)) (HST : Hid (Firm W G w fun w' => Sl w' .u8 vv vs)) :
    Calls Try.prog 25 #[.pointer (some ⟨tb, 0, none⟩), .int .i64 i, kv, vv, .int .u64 flags] w (InT W b tb (tput V i ks vs flags).1 G (.tuple #[.int .u64 (tput V i ks vs flags).2.1, .int .i64 (tput V i ks vs flags).2.2]) w) := by
  obtain ⟨he, base, S, h1, rfl, h3, h4⟩ := h
  refine (tab_put base tb S i kv vv ks vs flags w h1 hk (HST.out [] w (fun _ h => by cases h) (Keep.rfl' _ _)) hu hf0 HF (Lib.hid fun w' k' => HST.out _ w' h4 k')).mono ?_
  rintro e w' ⟨rfl, hk, S', hT, hv, hf, hb⟩
  have hE := hk.below he he.size (fun j hj => (h4 j hj).1)
  exact ⟨rfl, ⟨hE, base, S', hT, hv, hb.trans h3, fun j hj => (hf j hj).elim (h4 j) (fun h => ⟨Nat.le_trans he.size h, fun hg => by have := hG j hg; omega⟩)⟩, _, h4, hk⟩
theorem int_drop {W w : World} {b tb : Nat} {V : Areas × List TM} {G : List Nat} (h : TabIn W w b tb V G) (i : Int) (kv : Value) (ks : List Int) (hk : Sl w .u8 kv ks) :
    Calls Try.prog 23 #[.pointer (some ⟨tb, 0, none⟩), .int .i64 i, kv] w (InT W b tb (V.1, (tdrop V.2 i ks).1) G (.tuple #[.int .u64 (tdrop V.2 i ks).2.1, .int .i64 (tdrop V.2 i ks).2.2]) w) := by
  obtain ⟨he, base, S, h1, rfl, h3, h4⟩ := h
  refine (tab_drop base tb S i kv ks w h1 hk).mono ?_
  rintro e w' ⟨rfl, hk, S', hT, hv, hf, hb⟩
  exact ⟨rfl, ⟨hk.below he he.size (fun j hj => (h4 j hj).1), base, S', hT, hv, hb.trans h3, fun j hj => h4 j (hf ▸ hj)⟩, _, h4, hk⟩
theorem FirmN.of_new {α : Type} {W w1 w : World} {sz : Nat} {enc : α → List Value} {q n c : Nat} {xs : List α} (h : Rd w sz enc (.slice (some ⟨q, 0, none⟩) n c) xs) (hq : w1.heap.size ≤ q) : FirmN W w1 w fun w' => Rd w' sz enc (.slice (some ⟨q, 0, none⟩) n c) xs :=
  fun F w' hF k => h.keep k (fun a n c e => by
    injection e with e
    injection e with e
    subst e
    intro hj
    have := (hF _ hj).2
    simp only at this
    omega)
theorem Firm.of_in {α : Type} {W w : World} {G : List Nat} {sz : Nat} {enc : α → List Value} {q n c : Nat} {xs : List α} (h : Rd w sz enc (.slice (some ⟨q, 0, none⟩) n c) xs) (hq : q ∈ G) : Firm W G w fun w' => Rd w' sz enc (.slice (some ⟨q, 0, none⟩) n c) xs :=
  fun F w' hF k => h.keep k (fun a n c e => by
    injection e with e
    injection e with e
    subst e
    intro hj
    exact (hF _ hj).2 hq)
theorem keep_old {α : Type} {F : List Nat} {W w w' : World} {sz : Nat} {enc : α → List Value} {v : Value} {xs : List α} (h : Rd W sz enc v xs) (he : Ext W w) (k : Keep F w w') (hF : ∀ j ∈ F, W.heap.size ≤ j) : Rd w' sz enc v xs := by
  obtain ⟨a, c, rfl, h2, h3, h4, h5⟩ := h
  refine ⟨a, c, rfl, h2, h3, h4, fun i x hx j u hu => ?_⟩
  have hc := h5 i x hx j u hu
  have hlt := World.block_lt_of_cell? W _ hc
  have := k.block _ (Nat.lt_of_lt_of_le hlt he.size) (fun hj => by have := hF _ hj; omega)
  exact (World.cell?_of_block this).trans (he.cellOf hc)
theorem Firm.of_old {α : Type} {W w : World} {G : List Nat} {sz : Nat} {enc : α → List Value} {v : Value} {xs : List α} (h : Rd W sz enc v xs) (he : Ext W w) : Firm W G w fun w' => Rd w' sz enc v xs :=
  fun F w' hF k => keep_old h he k (fun j hj => (hF j hj).1)
theorem FirmN.of_old {α : Type} {W w1 w : World} {sz : Nat} {enc : α → List Value} {v : Value} {xs : List α} (h : Rd W sz enc v xs) (he : Ext W w) : FirmN W w1 w fun w' => Rd w' sz enc v xs :=
  fun F w' hF k => keep_old h he k (fun j hj => (hF j hj).1)

/-- A few bytes. -/
def bytesObj (xs : List Int) : Obj := .cells (xs.flatMap fun x => [Value.int .u8 x]).toArray 5
theorem sl_lit (w : World) (xs : List Int) (q n : Nat) (hq : q = w.heap.size) (hn : n = xs.length) (hm : xs.length ≤ 1000) : Sl (w.alloc (bytesObj xs)) .u8 (.slice (some ⟨q, 0, none⟩) n n) xs :=
  (Own.lit (enc_int .u8) (base := 0) xs hq hn (Nat.zero_le _) (by simp [maxLen]; omega)).rd (enc_int _)
theorem rep_u8' (n : Int) (h0 : 0 ≤ n) (h1 : n ≤ 255) (k : Nat) : ∀ q ∈ List.replicate k n, 0 ≤ q ∧ q ≤ 255 := fun q hq => by rw [List.eq_of_mem_replicate hq]; exact ⟨h0, h1⟩
theorem law_val (n : Int) (w : World) (h0 : 0 ≤ n) (h1 : n ≤ 255) : Calls Try.prog 27 #[.int .u8 n] w fun e w' => e = .returned (.slice (some ⟨w.heap.size, 0, none⟩) 8 8) ∧ w' = w.alloc (bytesObj (List.replicate 8 n)) := by
  go_enter Try.func27, Try.ntmps27
  go_wp2_with fail
  go_returns
  exact ⟨rfl, rfl⟩
abbrev shD : TDef := ⟨true, 1, 8, 1⟩
abbrev shV1 : Areas × List TM := ([], [⟨true, 1, 8, 1, [], 0⟩])
abbrev shV2 : Areas × List TM := ([(4096, ⟨[1, 1, 1, 1, 1, 1, 1, 1], List.replicate 8 true, false⟩)], [⟨true, 1, 8, 1, [(strOfNums [5], 0)], 1⟩])
abbrev shV3 : Areas × List TM := ([(4096, ⟨[1, 1, 1, 1, 1, 1, 1, 1], List.replicate 8 true, false⟩)], [⟨true, 1, 8, 1, [], 1⟩])
theorem shown_new : tnew [] [shD] = some shV1 := by rfl
theorem shown_put : tput shV1 0 [5] (List.replicate 8 1) 0 = (shV2, 0, 0) := by rfl
theorem shown_put' : tput shV2 0 [6] (List.replicate 8 1) 0 = (shV2, 18446744073709551609, 0) := by kernel_rfl
theorem shown_look : tlook shV2.2 0 [6] = (0, 0) := by kernel_rfl
theorem shown_drop : tdrop shV2.2 0 [5] = (shV3.2, 0, 0) := by kernel_rfl
theorem shown_drop' : tdrop shV3.2 0 [5] = (shV3.2, 18446744073709551614, 0) := by rfl
theorem sl_lit1 (w : World) (k : Int) : Sl (w.alloc (.cells #[.int .u8 k] 5)) .u8 (.slice (some ⟨w.heap.size, 0, none⟩) 1 1) [k] := sl_lit w [k] _ 1 rfl rfl (by simp)
theorem sh_put {W w : World} {b tb : Nat} {V : Areas × List TM} (h : TabIn W w b tb V []) (i k : Int) :
    Calls Try.prog 25 #[.pointer (some ⟨tb, 0, none⟩), .int .i64 i, .slice (some ⟨w.heap.size, 0, none⟩) 1 1, .slice (some ⟨w.heap.size + 1, 0, none⟩) 8 8, .int .u64 0] ((w.alloc (.cells #[.int .u8 k] 5)).alloc (bytesObj [1, 1, 1, 1, 1, 1, 1, 1]))
      fun e w' => e = .returned (.tuple #[.int .u64 (tput V i [k] (List.replicate 8 1) 0).2.1, .int .i64 (tput V i [k] (List.replicate 8 1) 0).2.2]) ∧ TabIn W w' b tb (tput V i [k] (List.replicate 8 1) 0).1 [] := by
  have h2 := h.add (((Ext.rfl' w).alloc' (.cells #[.int .u8 k] 5)).alloc' (bytesObj [1, 1, 1, 1, 1, 1, 1, 1])) [w.heap.size + 1] (fun g hg => by rw [List.mem_singleton] at hg; omega)
  refine (int_put h2 (fun g hg => by rw [List.mem_singleton] at hg; simp; omega) i _ _ [k] (List.replicate 8 1) 0 ((sl_lit1 w k).ext ((Ext.rfl' _).alloc' _)) (rep_u8' 1 (by decide) (by decide) 8) (by decide) (Lib.hid (by decide))
    (Lib.hid (Firm.of_in (sl_lit (w.alloc (.cells #[.int .u8 k] 5)) (List.replicate 8 1) (w.heap.size + 1) 8 (by simp) rfl (by decide)) (by simp)))).mono ?_
  rintro e w' ⟨rfl, h3, -⟩
  exact ⟨rfl, h3.add (Ext.rfl' _) [] (fun g hg => by cases hg)⟩
def TShown (w : World) (e : Ending) (w' : World) : Prop := e = .returned (.bool true) ∧ Ext w w'
set_option maxHeartbeats 2000000 in
theorem tab_shown (w : World) : Calls Try.prog 8 #[] w (TShown w) := by
  go_enter Try.func8, Try.ntmps8
  go_wp2_with fail
  refine (in_new (Ext.rfl' w)).mono ?_
  rintro e w1 ⟨b, rfl, h1⟩
  have H1 := Lib.hid h1
  clear h1
  go_wp2_with fail
  refine (int_new H1.out ((Ext.rfl' _).alloc' _) _ [shD] (Lib.hid (FirmN.of_new (Own.lit enc_def (base := 0) [shD] rfl rfl (Nat.zero_le _) (by simp [maxLen]) |>.rd enc_def) (Nat.le_refl _)))).mono ?_
  rintro e w2 ⟨he2, h2⟩
  rw [shown_new] at h2
  rcases h2 with ⟨hn, rfl⟩ | ⟨tb, V, hn, rfl, h2⟩
  · cases hn
  injection hn with hn
  subst hn
  have H2 := Lib.hid h2
  clear h2 he2
  go_wp2_with fail
  refine (law_val 1 _ (by decide) (by decide)).mono ?_
  rintro e w3 ⟨rfl, rfl⟩
  go_wp2_with fail
  refine (sh_put H2.out 0 5).mono ?_
  rintro e w4 ⟨rfl, h4⟩
  rw [shown_put] at h4 ⊢
  have H4 := Lib.hid h4
  clear h4
  go_wp2_with fail
  refine (law_val 1 _ (by decide) (by decide)).mono ?_
  rintro e w5 ⟨rfl, rfl⟩
  go_wp2_with fail
  refine (sh_put H4.out 0 6).mono ?_
  rintro e w6 ⟨rfl, h6⟩
  rw [shown_put'] at h6 ⊢
  have H6 := Lib.hid h6
  clear h6
  go_wp2_with fail
  refine (int_look (H6.out.go ((Ext.rfl' _).alloc' _)) 0 _ [6] (sl_lit1 _ 6)).mono ?_
  rintro e w7 ⟨rfl, h7, -⟩
  rw [shown_look]
  have H7 := Lib.hid h7
  clear h7
  go_wp2_with fail
  refine (int_drop (H7.out.go ((Ext.rfl' _).alloc' _)) 0 _ [5] (sl_lit1 _ 5)).mono ?_
  rintro e w8 ⟨rfl, h8, -⟩
  rw [shown_drop] at h8 ⊢
  have H8 := Lib.hid h8
  clear h8
  go_wp2_with fail
  refine (int_drop (H8.out.go ((Ext.rfl' _).alloc' _)) 0 _ [5] (sl_lit1 _ 5)).mono ?_
  rintro e w9 ⟨rfl, h9, -⟩
  rw [shown_drop'] at h9 ⊢
  go_wp2_with fail
  go_returns
  exact ⟨rfl, h9.ext⟩
end Go.Proofs.Ytjimmbcihcmfoaa
