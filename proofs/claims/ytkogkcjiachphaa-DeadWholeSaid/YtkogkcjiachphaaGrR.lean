/- graph: put, take, each, Reach. -/
import Derived.Test.YtkogkcjiachphaaConn
import Derived.Test.YtkogkcjiachphaaGBoth
import Derived.Deep.LoopGhost
import Derived.Deep.CutBlock
import Derived.BigRegion
namespace Go.Proofs.Ytkogkcjiachphaa
open Go.RowKit
set_option linter.unusedVariables false
set_option linter.unusedSimpArgs false

/-- Things to be done, at block B; r: where they lie. -/
def Work (w : World) (base B : Nat) (T : List Int) (r : Option Nat) : Prop := ∃ v, w.heap[B]? = some (.cells #[v] 62 (0, 0)) ∧ Own w base 3 1 encI v T ∧ v.ownBlock = r
def PutA (base B : Nat) (T : List Int) (r : Option Nat) (w : World) (e : Ending) (w' : World) : Prop :=
  e = .returned (.tuple #[]) ∧ ∃ r', Work w' base B T r' ∧ Keep (B :: r.toList) w w' ∧ ∀ k, r' = some k → r = some k ∨ w.heap.size ≤ k
theorem work_ne {w : World} {base B : Nat} {T : List Int} {v : Value} {cs : Array Value} {fr : Nat × Nat} (hO : Own w base 3 1 encI v T) (hB : w.heap[B]? = some (.cells cs 62 fr)) : ∀ j, v.ownBlock = some j → j ≠ B := by
  rintro j hj rfl
  exact hO.type_ne' hB (by decide) hj
set_option maxHeartbeats 1000000 in
theorem p_put (base B : Nat) (x : Int) (T : List Int) (r : Option Nat) (w : World) (h : Work w base B T r) (hb : base ≤ w.heap.size) (hl : T.length ≤ 1000000) :
    Calls Try.prog 66 #[.pointer (some ⟨B, 0, none⟩), .int .i64 x] w (PutA base B (T ++ [x]) r w) := by
  obtain ⟨v, hB, hO, hr⟩ := h
  obtain ⟨a, n, c, hv, hn, hN⟩ := (hO.rd (enc_int .i64)).val
  subst hv
  have cB := cell_obj (i := 0) hB
  have fB := frozen_obj (i := 0) hB
  simp only [List.getElem?_toArray, List.getElem?_cons_zero] at cB
  have HO := Lib.hid hO
  have HB := Lib.hid hB
  have HR := Lib.hid hr
  have HL := Lib.hid hl
  have hlt := heap_lt hB
  clear hB hO hr hl
  go_enter Try.func66, Try.ntmps66
  go_wp2_with (at_builtin; refine app_own2 el_int (enc_int .i64) rfl _ _ rfl rfl (HO.out.alloc _) rfl (ys := [x]) ?q1 ?q2 ?q3 ?q4)
  case q1 => exact rd_one _ _
  case q2 => have := HL.out; simp; omega
  case q3 => simp; omega
  intro v' w8 hown hgrow hmv
  obtain ⟨a2, n2, c2, hv2, hn2, hN2⟩ := (hown.rd (enc_int .i64)).val
  subst hv2
  have hne := work_ne HO.out HB.out
  have hk := grown_keep hgrow
  rw [HR.out] at hk hne
  have hB8 : w8.heap[B]? = some (.cells #[.slice a n c] 62 (0, 0)) := hk.obj (obj_old _ HB.out) (fun hm => hne B (by simpa using hm) rfl)
  have cB8 := cell_obj (i := 0) hB8
  have fB8 := frozen_obj (i := 0) hB8
  simp only [List.getElem?_toArray, List.getElem?_cons_zero] at cB8
  have hO9 : Own (w8.setCell ⟨B, 0, none⟩ (.slice a2 n2 c2)) base 3 1 encI (.slice a2 n2 c2) (T ++ [x]) := hown.keep ((Keep.rfl' [B] _).setCell (by simp) _) (fun j hj => by have := work_ne hown hB8 j hj; simpa using this)
  have hB9 : (w8.setCell ⟨B, 0, none⟩ (.slice a2 n2 c2)).heap[B]? = some (.cells #[.slice a2 n2 c2] 62 (0, 0)) := by simpa using heap_setCell_same w8 B 0 _ _ (.slice a2 n2 c2) hB8
  have hK9 : Keep (B :: r.toList) w (w8.setCell ⟨B, 0, none⟩ (.slice a2 n2 c2)) := (((Keep.of_ext (Ext.alloc' (Ext.rfl' w) _)).trans (hk.mono (fun k hk => .inl (List.mem_cons_of_mem _ hk))))).setCell (a := ⟨B, 0, none⟩) (by simp) _
  have hM : ∀ k, (Value.slice a2 n2 c2).ownBlock = some k → r = some k ∨ w.heap.size ≤ k := fun k hk => by
    rcases hmv k hk with h | h
    · exact .inl (by rw [← HR.out]; exact h)
    · exact .inr (by simp at h; omega)
  have H9 := Lib.hid (And.intro hO9 (And.intro hB9 (And.intro hK9 hM)))
  clear hO9 hB9 hK9 hM hown hgrow hmv hk hB8 hne
  go_wp2_with fail
  go_end0
  exact ⟨rfl, _, ⟨_, H9.out.2.1, H9.out.1, rfl⟩, H9.out.2.2.1, H9.out.2.2.2⟩
theorem Own.short {w : World} {base g n c : Nat} {e : TypeId} {f : Int → Value} {T : List Int} {t : Int} (h : Own w base e 1 (fun x => [f x]) (.slice (some ⟨g, 0, none⟩) n c) (T ++ [t])) : Own w base e 1 (fun x => [f x]) (.slice (some ⟨g, 0, none⟩) T.length c) T := by
  obtain ⟨h1, h2⟩ := h
  rcases h2 with ⟨hv, _⟩ | ⟨g', cap, cur, hv, hb, hg, hn, hc, hs, ht⟩
  · cases hv
  · injection hv with e1 e2 e3
    injection e1 with e1
    injection e1 with e1
    subst e1; subst e3
    rw [flat1, List.map_append] at ht
    refine ⟨by rw [flat1]; simp, .inr ⟨g, c, cur, rfl, hb, hg, by simp at hn; omega, hc, hs, ?_⟩⟩
    rw [flat1]
    have := congrArg (List.take T.length) ht
    rw [List.take_take] at this
    simp only [List.length_append, List.length_cons, List.length_nil, Nat.mul_one] at this ⊢
    rw [Nat.min_eq_left (by omega)] at this
    rw [this, List.take_left' (by simp)]
theorem p_take0 (base B : Nat) (r : Option Nat) (w : World) (h : Work w base B [] r) :
    Calls Try.prog 64 #[.pointer (some ⟨B, 0, none⟩)] w fun e w' => e = .returned (.tuple #[.int .i64 0, .bool false]) ∧ w' = w := by
  obtain ⟨v, hB, hO, hr⟩ := h
  obtain ⟨a, n, c, hv, hn, hN⟩ := (hO.rd (enc_int .i64)).val
  subst hv
  have cB := cell_obj (i := 0) hB
  simp only [List.getElem?_toArray, List.getElem?_cons_zero] at cB
  obtain rfl : n = 0 := by simpa using hN.out
  clear hB hO hr
  go_enter Try.func64, Try.ntmps64
  go_wp2_with fail
  go_returns
  exact ⟨rfl, rfl⟩
def TakeA (base B : Nat) (T : List Int) (t : Int) (r : Option Nat) (w : World) (e : Ending) (w' : World) : Prop :=
  e = .returned (.tuple #[.int .i64 t, .bool true]) ∧ Work w' base B T r ∧ Keep [B] w w'
set_option maxHeartbeats 1000000 in
theorem p_take (base B : Nat) (T : List Int) (t : Int) (r : Option Nat) (w : World) (h : Work w base B (T ++ [t]) r) (hl : T.length ≤ 1000000) :
    Calls Try.prog 64 #[.pointer (some ⟨B, 0, none⟩)] w (TakeA base B T t r w) := by
  obtain ⟨v, hB, hO, hr⟩ := h
  obtain ⟨a, n, c, hv, hn, hN⟩ := (hO.rd (enc_int .i64)).val
  subst hv
  obtain ⟨g, rfl⟩ : ∃ g, a = some ⟨g, 0, none⟩ := by
    rcases hO.2 with ⟨hv, hz⟩ | ⟨g, cap, cur, hv, _⟩
    · simp at hz
    · injection hv with e1; exact ⟨g, e1⟩
  have hn1 : n = T.length + 1 := by have := hN.out; simpa using this
  subst hn1
  have cB := cell_obj (i := 0) hB
  have fB := frozen_obj (i := 0) hB
  simp only [List.getElem?_toArray, List.getElem?_cons_zero] at cB
  have hrd := hO.rd (enc_int .i64)
  have i0 := fun W => hrd.run_at (P := Try.prog) el_int.under el_int.size .i64 (T.length : Int) (by omega) (by omega) W
  have c0 := hrd.cell (i := T.length) (x := t) (by simp) (j := 0) rfl
  have s0 := fun W => hrd.run_cut_h (P := Try.prog) el_int.under el_int.size .i64 (T.length : Int) (by omega) (by omega) W
  have hcut : cutV (.slice (some ⟨g, 0, none⟩) (T.length + 1) c) 0 T.length 1 = .slice (some ⟨g, 0, none⟩) T.length c := by
    unfold cutV sliced
    simp [Addr.add]
  simp only [Nat.mul_one, Nat.add_zero, Int.toNat_natCast, hcut] at i0 c0 s0
  have hS := Own.short hO
  have hne := work_ne hO hB
  have hB9 : (w.setCell ⟨B, 0, none⟩ (.slice (some ⟨g, 0, none⟩) T.length c)).heap[B]? = some (.cells #[.slice (some ⟨g, 0, none⟩) T.length c] 62 (0, 0)) := by simpa using heap_setCell_same w B 0 _ _ (.slice (some ⟨g, 0, none⟩) T.length c) hB
  have hO9 : Own (w.setCell ⟨B, 0, none⟩ (.slice (some ⟨g, 0, none⟩) T.length c)) base 3 1 encI (.slice (some ⟨g, 0, none⟩) T.length c) T := hS.keep ((Keep.rfl' [B] _).setCell (by simp) _) (fun j hj => by have := work_ne hS hB j hj; simpa using this)
  have hK9 : Keep [B] w (w.setCell ⟨B, 0, none⟩ (.slice (some ⟨g, 0, none⟩) T.length c)) := (Keep.rfl' [B] _).setCell (by simp) _
  have H9 := Lib.hid (And.intro hO9 (And.intro hB9 hK9))
  have HR := Lib.hid hr
  have hne2 : ∀ u : Value, ((w.setCell ⟨B, 0, none⟩ u).cell? (elt (.slice (some ⟨g, 0, none⟩) (T.length + 1) c) T.length)) = some (.int .i64 t) := fun u => by
    rw [World.cell?_setCell_far _ _ _ _ (by rw [elt_block]; exact fun e => hne g rfl e.symm)]
    exact c0
  clear hS hB9 hO9 hK9 hO hB hrd hr hcut hne
  go_enter Try.func64, Try.ntmps64
  go_wp2_with fail
  go_region
  all_goals
    go_wp2_with fail
    go_returns
    exact ⟨rfl, ⟨_, H9.out.2.1, H9.out.1.drew, HR.out⟩, H9.out.2.2.drew⟩
def TakeB (base B : Nat) (T : List Int) (r : Option Nat) (w : World) (e : Ending) (w' : World) : Prop :=
  ∃ (t : Int) (ok : Bool) (T' : List Int), e = .returned (.tuple #[.int .i64 t, .bool ok]) ∧ Work w' base B T' r ∧ Keep [B] w w' ∧ ((ok = true ∧ T = T' ++ [t]) ∨ (ok = false ∧ T = [] ∧ T' = []))
theorem p_takeB (base B : Nat) (T : List Int) (r : Option Nat) (w : World) (h : Work w base B T r) (hl : T.length ≤ 1000000) :
    Calls Try.prog 64 #[.pointer (some ⟨B, 0, none⟩)] w (TakeB base B T r w) := by
  rcases T.eq_nil_or_concat with rfl | ⟨T', t, rfl⟩
  · exact (p_take0 base B r w h).mono fun e w' ⟨he, hw⟩ => ⟨0, false, [], he, by rw [hw]; exact h, by rw [hw]; exact Keep.rfl' _ _, .inr ⟨rfl, rfl, rfl⟩⟩
  · rw [List.concat_eq_append] at h hl ⊢
    exact (p_take base B T' t r w h (by simp at hl; omega)).mono fun e w' ⟨he, hw, hk⟩ => ⟨t, true, T', he, hw, hk, .inl ⟨rfl, rfl⟩⟩
theorem Work.ext {w w' : World} {base B : Nat} {T : List Int} {r : Option Nat} (h : Work w base B T r) (he : Ext w w') : Work w' base B T r := by
  obtain ⟨v, h1, h2, h3⟩ := h
  exact ⟨v, he.obj h1, h2.ext he, h3⟩
theorem Work.keep {F : List Nat} {w w' : World} {base B : Nat} {T : List Int} {r : Option Nat} (h : Work w base B T r) (k : Keep F w w') (hB : B ∉ F) (hr : ∀ j, r = some j → j ∉ F) : Work w' base B T r := by
  obtain ⟨v, h1, h2, h3⟩ := h
  exact ⟨v, k.obj h1 hB, h2.keep k (by rw [h3]; exact hr), h3⟩
/-- A row of truths lies apart of what is to be done. -/
theorem Work.apart {w : World} {base base' B : Nat} {T : List Int} {r : Option Nat} {v : Value} {M : List Bool} (h : Work w base B T r) (hO : Own w base' 4 1 encB v M) {j : Nat} (hj : v.ownBlock = some j) : j ≠ B ∧ r ≠ some j := by
  obtain ⟨u, h1, h2, h3⟩ := h
  refine ⟨?_, ?_⟩
  · rintro rfl
    exact hO.type_ne' h1 (by decide) hj
  · rintro rfl
    rcases hO.2 with ⟨rfl, _⟩ | ⟨g, cap, cur, rfl, _, hg, _⟩
    · cases hj
    · injection hj with hj
      subst hj
      exact h2.type_ne' hg (by decide) h3
theorem Work.lt {w : World} {base B : Nat} {T : List Int} {r : Option Nat} (h : Work w base B T r) {j : Nat} (hj : r = some j) : base ≤ j ∧ j < w.heap.size := by
  obtain ⟨u, h1, h2, h3⟩ := h
  exact h2.lt (h3.trans hj)
theorem Work.blk {w : World} {base B : Nat} {T : List Int} {r : Option Nat} (h : Work w base B T r) : B < w.heap.size := by
  obtain ⟨u, h1, h2, h3⟩ := h
  exact heap_lt h1
def unm : List Bool → Nat
  | [] => 0
  | x :: xs => (if x then 0 else 1) + unm xs
theorem unm_set : ∀ (M : List Bool) (k : Nat), M[k]? = some false → unm (M.set k true) + 1 = unm M
  | [], k, h => by simp at h
  | x :: xs, 0, h => by
    simp at h
    subst h
    simp [unm]
    omega
  | x :: xs, k + 1, h => by
    have := unm_set xs k (by simpa using h)
    simp only [List.set_cons_succ, unm]
    omega
theorem unm_le : ∀ M : List Bool, unm M ≤ M.length
  | [] => Nat.le_refl _
  | x :: xs => by have := unm_le xs; simp only [unm, List.length_cons]; split <;> omega
theorem unm_false : ∀ n, unm (List.replicate n false) = n
  | 0 => rfl
  | n + 1 => by rw [List.replicate_succ, unm, unm_false n]; simp; omega
def EachA (xs : List Int) (base B : Nat) (T : List Int) (r : Option Nat) (w : World) (e : Ending) (w' : World) : Prop := PutA base B (T ++ xs) r w e w'
set_option maxHeartbeats 1000000 in
theorem p_each (v : Value) (xs : List Int) (base B : Nat) (T : List Int) (r : Option Nat) (w : World) (h : Work w base B T r) (hx : ∀ W, Keep (B :: r.toList) w W → Rd W 1 encI v xs) (hb : base ≤ w.heap.size) (hl : T.length + xs.length ≤ 1000000) :
    Calls Try.prog 65 #[v, .func (.func 66) #[.pointer (some ⟨B, 0, none⟩)] #[]] w (EachA xs base B T r w) := by
  obtain ⟨a, n, c, rfl, hn, hN⟩ := (hx w (Keep.rfl' _ _)).val
  have HW := Lib.hid h
  have HX := Lib.hid hx
  have HB := Lib.hid hb
  have HL := Lib.hid hl
  clear h hx hb hl
  go_enter Try.func65, Try.ntmps65
  go_wp2_with fail
  go_loopw [8] (fun q wr => ∃ k : Nat, k ≤ n ∧ q = .int .i64 k ∧ Hid (∃ r', Work wr base B (T ++ xs.take k) r' ∧ Keep (B :: r.toList) w wr ∧ ∀ j, r' = some j → r = some j ∨ w.heap.size ≤ j)) (fun q _ => n - (intOf q).toNat)
  case atStart => exact ⟨0, Nat.zero_le _, rfl, Lib.hid ⟨r, by simpa using HW.out, Keep.rfl' _ _, fun j hj => .inl hj⟩⟩
  case round =>
    obtain ⟨k, hk, rfl, HI⟩ := hrel
    obtain ⟨r', hW, hK, hR⟩ := HI.out
    have HW1 := Lib.hid hW
    have HK1 := Lib.hid hK
    have HR1 := Lib.hid hR
    clear hW hK hR HI
    by_cases hlt : (k : Int) < n
    · obtain ⟨x, hx⟩ := at_of_lt (xs := xs) (k := k) (by have := hN.out; omega)
      have hrd := HX.out _ HK1.out
      have ix := fun W => hrd.run_at (P := Try.prog) el_int.under el_int.size .i64 (k : Int) (by omega) (by omega) W
      have cx := hrd.cell hx (j := 0) rfl
      simp only [Nat.mul_one, Nat.add_zero, Int.toNat_natCast] at ix cx
      have HTK : Hid (xs.take (k + 1) = xs.take k ++ [x]) := Lib.hid (by rw [List.take_add_one, hx]; rfl)
      clear hx hrd
      go_wp2_with fail
      refine (p_put base B x (T ++ xs.take k) r' _ HW1.out (Nat.le_trans HB.out HK1.out.size) (by have := HL.out; have := hN.out; simp; omega)).mono ?_
      rintro e w2 ⟨rfl, r2, hW2, hK2, hM2⟩
      have HW2 := Lib.hid hW2
      have HK2 : Hid (Keep (B :: r.toList) w w2) := Lib.hid (HK1.out.through hK2 (fun j hj => by
        rcases List.mem_cons.1 hj with rfl | hj
        · exact .inl (List.mem_cons_self ..)
        · rcases HR1.out j (by simpa using hj) with h | h
          · exact .inl (List.mem_cons_of_mem _ (by simpa using h))
          · exact .inr h))
      have HR2 : Hid (∀ j, r2 = some j → r = some j ∨ w.heap.size ≤ j) := Lib.hid (fun j hj => by
        rcases hM2 j hj with h | h
        · exact HR1.out j h
        · exact .inr (Nat.le_trans HK1.out.size h))
      clear hW2 hK2 hM2
      go_wp2_with fail
      go_roundw
      case rel => exact ⟨k + 1, by omega, by go_num, Lib.hid ⟨r2, by rw [HTK.out, ← List.append_assoc]; exact HW2.out, HK2.out, HR2.out⟩⟩
      case measure => simp [intOf]; omega
    · have hfull : xs.take k = xs := List.take_of_length_le (by have := hN.out; omega)
      rw [hfull] at HW1
      clear hfull
      go_wp2_with fail
      go_end0
      exact ⟨rfl, r', HW1.out, HK1.out, HR1.out⟩
/-- What is known while places are marked: M: marked; T: to be done; p: the one at hand. -/
structure RInv (A : Nat → List Int) (s n : Nat) (M : List Bool) (T : List Int) (p : Option Int) : Prop where
  len : M.length = n
  sound : ∀ k : Nat, M[k]? = some true → Conn A s k
  todo : ∀ t, t ∈ T ∨ p = some t → ∃ k : Nat, t = k ∧ k < n ∧ Conn A s k
  closed : ∀ i t : Nat, M[i]? = some true → (t : Int) ∈ A i → M[t]? = some true ∨ (t : Int) ∈ T ∨ p = some (t : Int)
  start : M[s]? = some true ∨ (s : Int) ∈ T ∨ p = some (s : Int)
section
variable {A : Nat → List Int} {s n : Nat} {M : List Bool} {T : List Int}
theorem RInv.skip {k : Nat} (h : RInv A s n M T (some (k : Int))) (hk : M[k]? = some true) : RInv A s n M T none := by
  refine ⟨h.len, h.sound, fun t ht => h.todo t (.inl (by simpa using ht)), fun i t hi ht => ?_, ?_⟩
  · rcases h.closed i t hi ht with h1 | h1 | h1
    · exact .inl h1
    · exact .inr (.inl h1)
    · injection h1 with h1
      have : k = t := by omega
      subst this
      exact .inl hk
  · rcases h.start with h1 | h1 | h1
    · exact .inl h1
    · exact .inr (.inl h1)
    · injection h1 with h1
      have : k = s := by omega
      subst this
      exact .inl hk
theorem RInv.mark {k : Nat} (hA : ∀ t ∈ A k, 0 ≤ t ∧ t < (n : Int)) (h : RInv A s n M T (some (k : Int))) : RInv A s n (M.set k true) (T ++ A k) none := by
  obtain ⟨k', e, hkn, hck⟩ := h.todo k (.inr rfl)
  have : k' = k := by omega
  subst this
  have hset : (M.set k' true)[k']? = some true := List.getElem?_set_self (by rw [h.len]; exact hkn)
  have keep : ∀ j : Nat, M[j]? = some true → (M.set k' true)[j]? = some true := fun j hj => by
    by_cases e : j = k'
    · subst e; exact hset
    · rw [List.getElem?_set_ne (Ne.symm e)]; exact hj
  refine ⟨by simpa using h.len, fun j hj => ?_, fun t ht => ?_, fun i t hi ht => ?_, ?_⟩
  · by_cases e : j = k'
    · subst e; exact hck
    · rw [List.getElem?_set_ne (Ne.symm e)] at hj
      exact h.sound j hj
  · rcases ht with ht | ht
    · rcases List.mem_append.1 ht with ht | ht
      · exact h.todo t (.inl ht)
      · have := hA t ht
        obtain ⟨m, rfl⟩ : ∃ m : Nat, t = m := ⟨t.toNat, by omega⟩
        exact ⟨m, rfl, by omega, hck.step ht⟩
    · cases ht
  · by_cases e : i = k'
    · subst e
      exact .inr (.inl (List.mem_append_right _ ht))
    · rw [List.getElem?_set_ne (Ne.symm e)] at hi
      rcases h.closed i t hi ht with h1 | h1 | h1
      · exact .inl (keep t h1)
      · exact .inr (.inl (List.mem_append_left _ h1))
      · injection h1 with h1
        have : t = k' := by omega
        subst this
        exact .inl hset
  · rcases h.start with h1 | h1 | h1
    · exact .inl (keep s h1)
    · exact .inr (.inl (List.mem_append_left _ h1))
    · injection h1 with h1
      have : s = k' := by omega
      subst this
      exact .inl hset
theorem RInv.take {t : Int} (h : RInv A s n M (T ++ [t]) none) : RInv A s n M T (some t) := by
  refine ⟨h.len, h.sound, fun u hu => h.todo u (.inl ?_), fun i u hi hu => ?_, ?_⟩
  · rcases hu with hu | hu
    · exact List.mem_append_left _ hu
    · injection hu with hu; subst hu; simp
  · rcases h.closed i u hi hu with h1 | h1 | h1
    · exact .inl h1
    · rcases List.mem_append.1 h1 with h1 | h1
      · exact .inr (.inl h1)
      · exact .inr (.inr (by simp at h1; rw [h1]))
    · cases h1
  · rcases h.start with h1 | h1 | h1
    · exact .inl h1
    · rcases List.mem_append.1 h1 with h1 | h1
      · exact .inr (.inl h1)
      · exact .inr (.inr (by simp at h1; rw [h1]))
    · cases h1
theorem RInv.done (h : RInv A s n M [] none) (k : Nat) : M[k]? = some true ↔ Conn A s k := by
  refine ⟨h.sound k, fun hc => hc (fun x => M[x]? = some true) ?_ (fun i j hi hj => ?_)⟩
  · rcases h.start with h1 | h1 | h1
    · exact h1
    · cases h1
    · cases h1
  · rcases h.closed i j hi hj with h1 | h1 | h1
    · exact h1
    · cases h1
    · cases h1
theorem RInv.first (hs : s < n) : RInv A s n (List.replicate n false) [] (some (s : Int)) := by
  refine ⟨by simp, fun k hk => ?_, fun t ht => ?_, fun i t hi => ?_, .inr (.inr rfl)⟩
  · rw [List.getElem?_replicate] at hk
    split at hk <;> simp at hk
  · rcases ht with ht | ht
    · cases ht
    · injection ht with ht
      exact ⟨s, ht.symm, hs, Conn.rfl' s⟩
  · rw [List.getElem?_replicate] at hi
    split at hi <;> simp at hi
end
open Classical in
/-- To which instructions one may come from one. -/
noncomputable def reachL (L : List Ins) (i : Int) : List Bool := if progS L then (List.range L.length).map (fun k => decide (beginsS L i = true ∧ Conn (aheadAt L) i.toNat k)) else []
theorem reachL_length {L : List Ins} (h : progS L = true) (i : Int) : (reachL L i).length = L.length := by simp [reachL, h]
theorem reachL_at {L : List Ins} (h : progS L = true) (i : Int) {k : Nat} (hk : k < L.length) : (reachL L i)[k]? = some true ↔ beginsS L i = true ∧ Conn (aheadAt L) i.toNat k := by
  simp [reachL, h, hk]
theorem reachL_eq {L : List Ins} (h : progS L = true) {i : Int} {M : List Bool} (hl : M.length = L.length) (hM : ∀ k, k < L.length → (M[k]? = some true ↔ beginsS L i = true ∧ Conn (aheadAt L) i.toNat k)) : M = reachL L i := by
  apply List.ext_getElem?
  intro k
  by_cases hk : k < L.length
  · have h1 := hM k hk
    have h2 := reachL_at h i hk
    obtain ⟨x, hx⟩ := at_of_lt (xs := M) (k := k) (by omega)
    obtain ⟨y, hy⟩ := at_of_lt (xs := reachL L i) (k := k) (by rw [reachL_length h]; exact hk)
    rw [hx] at h1 ⊢
    rw [hy] at h2 ⊢
    cases x <;> cases y
    · rfl
    · exact absurd (h1.2 (h2.1 rfl)) (by simp)
    · exact absurd (h2.2 (h1.1 rfl)) (by simp)
    · rfl
  · rw [List.getElem?_eq_none (by omega), List.getElem?_eq_none (by rw [reachL_length h]; omega)]
theorem aheadL_le (L : List Ins) (x : Ins) (k : Nat) : (aheadL L x k).length ≤ 2 := by
  rw [ahead_two]
  unfold two
  split
  · split <;> simp
  · split
    · split
      · simp
      · split <;> simp
    · simp
/-- Where a program goes on lies in it. -/
theorem within {L : List Ins} (hp : progS L = true) {k : Nat} (hs : (stF false L)[k]? = some true) : ∀ t ∈ aheadAt L k, 0 ≤ t ∧ t < (L.length : Int) ∧ (stF false L)[t.toNat]? = some true := by
  intro t ht
  unfold aheadAt at ht
  cases hx : L[k]? with
  | none => rw [hx] at ht; cases ht
  | some x =>
    rw [hx] at ht
    exact ahead_start (ProgF.of hp) hs hx ht
/-- What one comes to from where an instruction begins, there one begins. -/
theorem conn_start {L : List Ins} (hp : progS L = true) {s k : Nat} (hs : (stF false L)[s]? = some true) (hc : Conn (aheadAt L) s k) : (stF false L)[k]? = some true :=
  hc (fun x => (stF false L)[x]? = some true) hs (fun i j hi hj => by have := (within hp hi _ hj).2.2; simpa using this)
set_option maxRecDepth 20000 in
set_option maxHeartbeats 4000000 in
theorem p_Reach (v : Value) (L : List Ins) (i : Int) (w : World) (h : Rd w 5 Ins.enc v L) (hl : L.length ≤ 1000000) (hok : InsOk L) : Calls Try.prog 23 #[v, .int .i64 i] w (OwnB (reachL L i) w) := by
  obtain ⟨a, n, c, rfl, hn, hN⟩ := h.val
  have hk2 : n ≤ 1000000 := by rw [hN.out]; exact hl
  have HD := Lib.hid h
  have HOK := Lib.hid hok
  have HL := Lib.hid hl
  have HN := Lib.hid hN.out
  have hmk := run_make_bool n hk2
  clear h hok hl
  obtain ⟨R, hR⟩ : ∃ R, R = reachL L i := ⟨_, rfl⟩
  rw [← hR]
  have HR := Lib.hid hR
  clear hR
  cases hb : progS L with
  | false =>
    have HB := Lib.hid hb
    clear hb
    go_enter Try.func23, Try.ntmps23
    go_wp2_with fail
    refine (p_right _ L _ HD.out HL.out HOK.out).mono ?_
    rw [HB.out]
    rintro e w5 ⟨rfl, hE⟩
    have HE := Lib.hid hE
    clear hE
    go_wp2_with fail
    go_returns
    exact ⟨_, rfl, by rw [HR.out, reachL, HB.out]; exact Own.nil _ _ _ _ _, HE.out⟩
  | true =>
    have h512 : n ≤ 512 := by rw [HN.out]; exact (ProgF.of hb).len.2
    have HB := Lib.hid hb
    clear hb
    go_enter Try.func23, Try.ntmps23
    go_wp2_with fail
    refine (p_right _ L _ HD.out HL.out HOK.out).mono ?_
    rw [HB.out]
    rintro e w5 ⟨rfl, hE⟩
    have HE := Lib.hid hE
    clear hE
    go_upto_region 3 with fail
    go_cut [5] (fun v5 wx => ∃ g, v5 = .slice (some ⟨g, 0, none⟩) n n ∧ g < wx.heap.size ∧ Hid (Own wx w.heap.size 4 1 encB v5 (List.replicate n false) ∧ Ext w wx))
    case first =>
      go_wp2_with fail
      go_meet
      exact ⟨_, rfl, by simp, Lib.hid ⟨own_made_bool _ _ hk2 _ HE.out.size, HE.out.alloc' _⟩⟩
    case rest =>
      obtain ⟨g, rfl, hg, HO⟩ := hcut
      clear hmk
      go_wp2_with fail
      refine (p_begins _ L i _ (HD.out.ext HO.out.2) HL.out HOK.out).mono ?_
      obtain ⟨bi, hbi⟩ : ∃ bi, beginsS L i = bi := ⟨_, rfl⟩
      rw [hbi]
      have HBI := Lib.hid hbi
      clear hbi
      rintro e w6 ⟨rfl, hE6⟩
      have HE6 := Lib.hid hE6
      clear hE6
      cases bi with
      | false =>
        go_wp2_with fail
        go_returns
        refine ⟨_, rfl, ?_, HO.out.2.trans' HE6.out⟩
        have : List.replicate n false = reachL L i := reachL_eq HB.out (by simpa using HN.out) (fun k hk => by rw [HBI.out, List.getElem?_replicate, HN.out, if_pos hk]; simp)
        rw [HR.out, ← this]
        exact HO.out.1.ext HE6.out
      | true =>
        obtain ⟨_, i0, i1, i2⟩ := begins_iff.1 HBI.out
        obtain ⟨s, rfl⟩ : ∃ s : Nat, i = s := ⟨i.toNat, by omega⟩
        have i3 : s < n := by rw [HN.out]; omega
        have HST : Hid ((stF false L)[s]? = some true) := Lib.hid (by simpa using i2)
        clear i0 i1 i2
        have HO6 := Lib.hid (HO.out.1.ext HE6.out)
        have HX6 : Hid (Ext w w6) := Lib.hid (HO.out.2.trans' HE6.out)
        clear HO HE6
        go_upto_region 7 with fail
        have HB7 : Hid (Work (w6.alloc (.cells #[.slice none 0 0] 62)) w.heap.size w6.heap.size [] none) := Lib.hid ⟨_, heap_alloc_new _ _, Own.nil _ _ _ _ _, rfl⟩
        have HO7 := Lib.hid (HO6.out.alloc (.cells #[.slice none 0 0] 62))
        have HX7 := Lib.hid (HX6.out.alloc' (.cells #[.slice none 0 0] 62))
        have hBw : w.heap.size ≤ w6.heap.size := HX6.out.size
        generalize w6.heap.size = B at HB7 hBw ⊢
        generalize hF : w6.alloc (.cells #[.slice none 0 0] 62) = w7 at HB7 HO7 HX7 ⊢
        clear hF HO6 HX6 hg
        go_wp2_with fail
        go_loopg [7, 8] (3 * n + 1) (fun gk s7 s8 wr => ∃ (at_ : Int) (ok : Bool), s7 = .int .i64 at_ ∧ s8 = .bool ok ∧ Hid (∃ M T r, Own wr w.heap.size 4 1 encB (.slice (some ⟨g, 0, none⟩) n n) M ∧ Work wr w.heap.size B T r ∧ Ext w wr ∧ RInv (aheadAt L) s n M T (if ok then some at_ else none) ∧ (ok = false → T = []) ∧ 3 * unm M + T.length + (if ok then 1 else 0) ≤ gk ∧ gk ≤ 3 * n + 1))
        case atStart => exact ⟨s, true, rfl, rfl, Lib.hid ⟨_, _, _, HO7.out, HB7.out, HX7.out, by rw [if_pos rfl]; exact RInv.first i3, (fun h => by cases h), by rw [unm_false]; simp, Nat.le_refl _⟩⟩
        case round =>
          obtain ⟨at_, ok, rfl, rfl, HI⟩ := hrel
          obtain ⟨M, T, r, hO, hW, hX, hI, hF, hM, hG⟩ := HI.out
          have HO1 := Lib.hid hO
          have HW1 := Lib.hid hW
          have HX1 := Lib.hid hX
          have HI1 := Lib.hid hI
          have HM1 := Lib.hid hM
          have HG1 := Lib.hid hG
          have HF1 := Lib.hid hF
          clear hO hW hX hI hM hG hF HI
          cases ok with
          | false =>
            obtain rfl := HF1.out rfl
            go_wp2_with fail
            go_returns
            refine ⟨_, rfl, ?_, HX1.out⟩
            have : M = reachL L s := reachL_eq HB.out (by rw [HI1.out.len, HN.out]) (fun k hk => by
              have h1 := HI1.out
              rw [if_neg (by simp)] at h1
              rw [h1.done k, HBI.out]
              simp)
            rw [HR.out, ← this]
            exact HO1.out
          | true =>
            have hI1 := HI1.out
            rw [if_pos rfl] at hI1
            obtain ⟨k, hk, hkn, hck⟩ := hI1.todo at_ (.inr rfl)
            subst hk
            have HI2 := Lib.hid hI1
            obtain ⟨b, hb⟩ := at_of_lt (xs := M) (k := k) (by rw [hI1.len]; exact hkn)
            have hrd := HO1.out.rd enc_bool
            have ix := fun W => hrd.run_at (P := Try.prog) el_bool.under el_bool.size .i64 (k : Int) (by omega) (by omega) W
            have cb := hrd.cell hb (j := 0) rfl
            simp only [Nat.mul_one, Nat.add_zero, Int.toNat_natCast] at ix cb
            have HBK := Lib.hid hb
            clear hrd hI1 hb
            cases b with
            | true =>
              go_wp2_with fail
              refine (p_takeB w.heap.size B T r _ HW1.out (by have := HM1.out; have := HG1.out; omega)).mono ?_
              rintro e w8 ⟨t, ok, T', rfl, hW8, hK8, hc⟩
              have HW8 := Lib.hid hW8
              have HO8 : Hid (Own w8 w.heap.size 4 1 encB (.slice (some ⟨g, 0, none⟩) n n) M) := Lib.hid (HO1.out.keep hK8 (fun j hj => by have := (HW1.out.apart HO1.out hj).1; simpa using this))
              have HX8 : Hid (Ext w w8) := Lib.hid (hK8.below HX1.out HX1.out.size (by simpa using hBw))
              have HC := Lib.hid hc
              clear hW8 hK8 hc
              go_wp2_with fail
              go_roundg (gk - 1)
              case measure => have := HM1.out; simp at this; omega
              case rel =>
                refine ⟨t, ok, rfl, rfl, Lib.hid ⟨M, T', r, HO8.out, HW8.out, HX8.out, ?_, ?_, ?_, by have := HG1.out; omega⟩⟩
                · have h1 := HI2.out.skip HBK.out
                  rcases HC.out with ⟨rfl, rfl⟩ | ⟨rfl, rfl, rfl⟩
                  · exact h1.take
                  · exact h1
                · rcases HC.out with ⟨rfl, rfl⟩ | ⟨rfl, rfl, rfl⟩
                  · simp
                  · simp
                · have h1 := HM1.out
                  rcases HC.out with ⟨rfl, rfl⟩ | ⟨rfl, rfl, rfl⟩
                  · simp at h1 ⊢; omega
                  · simp at h1 ⊢; omega
            | false =>
              obtain ⟨e1, e2, e3, e4, e5⟩ := HO1.out.at HBK.out
              have HO5 := Lib.hid (e5 true)
              have HES : Hid (Ext w (wr.setCell (elt (.slice (some ⟨g, 0, none⟩) n n) k) (.bool true))) := Lib.hid (HO5.out.2 _ _ HX1.out (Nat.le_refl _))
              have hap := HW1.out.apart HO1.out (j := g) rfl
              have HWS : Hid (Work (wr.setCell (elt (.slice (some ⟨g, 0, none⟩) n n) k) (.bool true)) w.heap.size B T r) := Lib.hid (HW1.out.keep (F := [g]) ((Keep.rfl' _ _).setCell (by rw [elt_block]; simp) _) (by simpa using fun e => hap.1 e.symm) (fun j hj => by simp; rintro rfl; exact hap.2 hj))
              have hst : (stF false L)[k]? = some true := conn_start HB.out HST.out hck
              obtain ⟨x, hx⟩ := at_of_lt (xs := L) (k := k) (by rw [← HN.out]; exact hkn)
              have hA : aheadAt L k = aheadL L x k := by unfold aheadAt; rw [hx]
              have HX := Lib.hid hx
              have HA := Lib.hid hA
              have HMK : Hid (RInv (aheadAt L) s n (M.set k true) (T ++ aheadL L x k) none) := Lib.hid (by
                rw [← hA]
                exact HI2.out.mark (fun t ht => by have := within HB.out hst t ht; rw [HN.out]; exact ⟨this.1, this.2.1⟩))
              have HUN := Lib.hid (unm_set M k HBK.out)
              have HLA := Lib.hid (aheadL_le L x k)
              have hgl : g < (wr.setCell (elt (.slice (some ⟨g, 0, none⟩) n n) k) (.bool true)).heap.size := (HO5.out.1.lt rfl).2
              clear e5 e3 hap hst hx hA
              go_wp2_with fail
              generalize hF : wr.setCell (elt (.slice (some ⟨g, 0, none⟩) n n) k) (.bool true) = wS at HO5 HES HWS hgl ⊢
              clear hF
              refine (p_ahead _ L k x _ (HD.out.ext HES.out) HL.out HX.out (HOK.out.at HX.out)).mono ?_
              rintro e w8 ⟨v8, rfl, hO8, hE8⟩
              obtain ⟨qa, qn, qc, hqv, hqn, hQN⟩ := (hO8.rd (enc_int .i64)).val
              subst hqv
              have HO8 := Lib.hid hO8
              have HE8 := Lib.hid hE8
              clear hO8 hE8
              go_wp2_with fail
              have hbl := HWS.out.blk
              refine (p_each _ (aheadL L x k) w.heap.size B T r _ (HWS.out.ext HE8.out) (fun W hW => (HO8.out.keep hW (fun j hj => by
                have h1 := (HO8.out.lt hj).1
                intro hm
                rcases List.mem_cons.1 hm with rfl | hm
                · omega
                · have := (HWS.out.lt (j := j) (by simpa using hm)).2
                  omega)).rd (enc_int _)) (Nat.le_trans HES.out.size HE8.out.size) (by have := HM1.out; have := HG1.out; have := HLA.out; simp at this ⊢; omega)).mono ?_
              rintro e w9 ⟨rfl, r9, hW9, hK9, hM9⟩
              have HW9 := Lib.hid hW9
              have hap9 := (HWS.out.ext HE8.out).apart (HO5.out.1.ext HE8.out) (j := g) rfl
              have HO9 : Hid (Own w9 w.heap.size 4 1 encB (.slice (some ⟨g, 0, none⟩) n n) (M.set k true)) := Lib.hid ((HO5.out.1.ext HE8.out).keep hK9 (fun j hj => by
                injection hj with hj
                subst hj
                intro hm
                rcases List.mem_cons.1 hm with hm | hm
                · exact hap9.1 hm
                · exact hap9.2 (by simpa using hm)))
              have HX9 : Hid (Ext w w9) := Lib.hid (hK9.below (HES.out.trans' HE8.out) (HES.out.trans' HE8.out).size (fun j hj => by
                rcases List.mem_cons.1 hj with rfl | hj
                · exact hBw
                · exact (HWS.out.lt (j := j) (by simpa using hj)).1))
              clear hW9 hK9 hM9 hap9
              go_wp2_with fail
              refine (p_takeB w.heap.size B (T ++ aheadL L x k) r9 _ HW9.out (by have := HM1.out; have := HG1.out; have := HLA.out; simp at *; omega)).mono ?_
              rintro e w10 ⟨t, ok, T', rfl, hW10, hK10, hc⟩
              have HW10 := Lib.hid hW10
              have HO10 : Hid (Own w10 w.heap.size 4 1 encB (.slice (some ⟨g, 0, none⟩) n n) (M.set k true)) := Lib.hid (HO9.out.keep hK10 (fun j hj => by have := (HW9.out.apart HO9.out hj).1; simpa using this))
              have HX10 : Hid (Ext w w10) := Lib.hid (hK10.below HX9.out HX9.out.size (by simpa using hBw))
              have HC := Lib.hid hc
              clear hW10 hK10 hc
              go_wp2_with fail
              go_roundg (gk - 1)
              case measure => have := HM1.out; simp at this; omega
              case rel =>
                have hcount : T'.length + (if ok = true then 1 else 0) ≤ T.length + 2 := by
                  have h2 := HLA.out
                  rcases HC.out with ⟨rfl, h1⟩ | ⟨rfl, h1, rfl⟩
                  · have := congrArg List.length h1
                    simp at this ⊢
                    omega
                  · simp
                refine ⟨t, ok, rfl, rfl, Lib.hid ⟨M.set k true, T', r9, HO10.out, HW10.out, HX10.out, ?_, ?_, ?_, by have := HG1.out; omega⟩⟩
                · have h1 := HMK.out
                  rcases HC.out with ⟨rfl, h2⟩ | ⟨rfl, h2, rfl⟩
                  · rw [h2] at h1
                    exact h1.take
                  · rw [h2] at h1
                    exact h1
                · rcases HC.out with ⟨rfl, h2⟩ | ⟨rfl, h2, rfl⟩
                  · simp
                  · simp
                · have h1 := HM1.out
                  have h2 := HUN.out
                  simp at h1
                  omega
end Go.Proofs.Ytkogkcjiachphaa
