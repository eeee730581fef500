/- TableStays: what its code does. -/
import Derived.Test.YtjimmbcihcmfoaaTabQ
import Derived.Test.YtjimmbcihcmfoaaTabK
import Derived.Test.YtjimmbcihcmfoaaStL
import Derived.Deep.CutBlock
namespace Go.Proofs.Ytjimmbcihcmfoaa
open Go.RowKit
set_option linter.unusedVariables false
set_option linter.unusedSimpArgs false

theorem Rd.moves {α : Type} {W w w' : World} {G : List Nat} {sz : Nat} {enc : α → List Value} {v : Value} {xs : List α} (h : Rd w sz enc v xs) (m : Moves W G w w') (hv : ∀ a n c, v = .slice (some a) n c → a.block ∈ G) : Rd w' sz enc v xs := by
  obtain ⟨F, h1, h2⟩ := m
  exact h.keep h2 (fun a n c e hj => (h1 _ hj).2 (hv a n c e))
theorem int_mstore {W w : World} {b tb : Nat} {V : Areas × List TM} {G : List Nat} (h : TabIn W w b tb V G) (p s n : Int) (hp : 0 ≤ p) (H : Hid (p ≤ 18446744073709551615)) (hn : 0 ≤ n) :
    Calls Try.prog 29 #[.pointer (some ⟨b, 0, none⟩), .int .u64 p, .int .i64 s, .int .u64 n] w (InT W b tb ((mstore V.1 p s n).1, V.2) G (.int .i64 (mstore V.1 p s n).2) w) := by
  obtain ⟨he, base, S, h1, rfl, rfl, h4⟩ := h
  refine (mem_store S.b S.r S.L p s n w h1.mem hp H hn).mono ?_
  rintro e w' ⟨rfl, hk, L', hm, hl, hf⟩
  obtain ⟨k1, k2⟩ := h1.memStep hk hm (fun j hj => .inl (hf ▸ hj))
  have hs := fun j hj => h4 j (foot_sub tb S j hj)
  refine ⟨rfl, ⟨hk.below he he.size (fun j hj => (hs j hj).1), base, _, k1, by simp only [tview]; rw [hl], rfl, fun j hj => ?_⟩, _, hs, hk⟩
  have : tfoot tb { S with L := L' } = tfoot tb S := by simp only [tfoot]; rw [hf]
  exact h4 j (this ▸ hj)
theorem int_mload {W w : World} {b tb : Nat} {V : Areas × List TM} {G : List Nat} (h : TabIn W w b tb V G) (p s : Int) (hp : 0 ≤ p) (H : Hid (p ≤ 18446744073709551615)) :
    Calls Try.prog 28 #[.pointer (some ⟨b, 0, none⟩), .int .u64 p, .int .i64 s] w fun e w' => e = .returned (.tuple #[.int .u64 (mload V.1 p s).1, .int .i64 (mload V.1 p s).2]) ∧ TabIn W w' b tb V G ∧ Ext w w' := by
  have h' := h
  obtain ⟨he, base, S, h1, rfl, rfl, h4⟩ := h
  refine (mem_load S.b S.r S.L p s w h1.mem hp H).mono ?_
  rintro e w' ⟨rfl, hk⟩
  exact ⟨rfl, h'.go hk, hk⟩
/-- The first two bytes of a row of one's own. -/
def Cut2 (w : World) (base : Nat) (v : Value) (x y : Int) (a2 : Option Addr) (c2 : Nat) : Prop :=
  (∀ W, (Instr.sliceAt 40 v none (some (.int .i64 2)) none).run Try.prog W = .ok (.slice a2 2 c2) W) ∧ w.cell? (elt (.slice a2 2 c2) 0) = some (.int .u8 x) ∧ w.frozen? (elt (.slice a2 2 c2) 0) = false ∧ base ≤ (elt (.slice a2 2 c2) 0).block ∧ (elt (.slice a2 2 c2) 0).block < w.heap.size ∧ (∀ W, (Instr.indexAt 40 (.slice a2 2 c2) (.int .i64 0)).run Try.prog W = .ok (.pointer (some (elt (.slice a2 2 c2) 0))) W) ∧
  ∀ z, Sl (w.setCell (elt (.slice a2 2 c2) 0) (.int .u8 z)) .u8 (.slice a2 2 c2) [z, y]
theorem cut2 {w : World} {base : Nat} {v : Value} {x y : Int} {l : List Int} (h : Own w base 5 1 (fun x => [Value.int .u8 x]) v (x :: y :: l)) : ∃ a2 c2, Cut2 w base v x y a2 c2 := by
  have hr := h.rd (enc_int .u8)
  obtain ⟨a, n, c, rfl, hn, hN⟩ := hr.val
  have hN' := hN.out
  simp only [List.length_cons] at hN'
  have hc := hr.cut (l := 0) (m := 2) (by decide) (by simp)
  obtain ⟨a2, n2, c2, hv2, hn2, hN2⟩ := hc.val
  have hN2' := hN2.out
  simp at hN2'
  subst hN2'
  have he : elt (.slice a2 2 c2) 0 = elt (.slice a n c) 0 := by
    rw [← hv2]
    simp only [cutV, sliced, elt]
    cases a with
    | none => have := h.2; simp at this
    | some a =>
      by_cases hc0 : c = 0
      · simp [hc0]
      · simp [hc0, Addr.add]
  rw [hv2] at hc
  obtain ⟨f1, f2, f3, f4, f5⟩ := h.at (k := 0) (x := x) rfl
  have hi := fun W => hc.run_at (P := Try.prog) el_u8.under el_u8.size .i64 0 (by decide) (by decide) W
  refine ⟨a2, c2, fun W => ?_, by rw [he]; exact f1, by rw [he]; exact f2, ?_, by rw [he]; exact f4, hi, fun z => ?_⟩
  · have := hr.run_cut_h (P := Try.prog) el_u8.under el_u8.size .i64 2 (by decide) (by omega) W
    rw [show (2 : Int).toNat = 2 from rfl, hv2] at this
    exact this
  · rw [he]; exact (h.lt f3).1
  · have h2 := ((f5 z).1.rd (enc_int .u8)).cut (l := 0) (m := 2) (by decide) (by simp)
    rw [hv2] at h2
    rw [he]
    exact h2
theorem rd_lt2 {α : Type} {w : World} {sz : Nat} {enc : α → List Value} {q n c : Nat} {x : α} {xs : List α} (h : Rd w sz enc (.slice (some ⟨q, 0, none⟩) n c) (x :: xs)) {u : Value} {us : List Value} (he : enc x = u :: us) : q < w.heap.size := by
  obtain ⟨a, c', hv, h2, h3, h4, h5⟩ := h
  injection hv with e1 e2 e3
  subst e1
  have := h5 0 x rfl 0 u (by rw [he]; rfl)
  have := World.block_lt_of_cell? w _ this
  simpa [elt, Addr.add] using this
theorem act_obj_cells' {w w' : World} {x : Act9} (k : Ext (w.alloc (.cells #[.int .u8 x.kind, .int .i64 x.map, .slice x.ka x.kn x.kc, .slice x.va x.vn x.vc, .int .u64 x.flags] 43)) w') :
    w'.cell? ⟨w.heap.size, 0, none⟩ = some (.int .u8 x.kind) ∧ w'.cell? ⟨w.heap.size, 1, none⟩ = some (.int .i64 x.map) ∧ w'.cell? ⟨w.heap.size, 2, none⟩ = some (.slice x.ka x.kn x.kc) ∧ w'.cell? ⟨w.heap.size, 3, none⟩ = some (.slice x.va x.vn x.vc) ∧ w'.cell? ⟨w.heap.size, 4, none⟩ = some (.int .u64 x.flags) := by
  have h := k.obj (obj_top w (.cells #[.int .u8 x.kind, .int .i64 x.map, .slice x.ka x.kn x.kc, .slice x.va x.vn x.vc, .int .u64 x.flags] 43) rfl)
  exact ⟨cell_obj h, cell_obj h, cell_obj h, cell_obj h, cell_obj h⟩
@[reducible] def actObj (x : Act9) : Obj := .cells #[.int .u8 x.kind, .int .i64 x.map, .slice x.ka x.kn x.kc, .slice x.va x.vn x.vc, .int .u64 x.flags] 43
/-- What the loop keeps. -/
structure StRel (W wr : World) (b tb kb : Nat) (g0 : List Nat) (fv : Value) (L' : List Act9) (V : Areas × List TM) : Prop where
  inv : StInv V
  tab : TabIn W wr b tb V (kb :: g0)
  key : Sl wr .u8 (.slice (some ⟨kb, 0, none⟩) 2 2) [7, 7]
  acts : Rd wr 5 Act9.enc fv L'
  lt : ∀ g ∈ kb :: g0, g < wr.heap.size
theorem StRel.go {W w w' : World} {b tb kb : Nat} {g0 : List Nat} {fv : Value} {L' : List Act9} {V : Areas × List TM} (h : StRel W w b tb kb g0 fv L' V) (k : Ext w w') : StRel W w' b tb kb g0 fv L' V :=
  ⟨h.inv, h.tab.go k, h.key.ext k, h.acts.ext k, fun g hg => Nat.lt_of_lt_of_le (h.lt g hg) k.size⟩
theorem StRel.step {W w w' : World} {b tb kb : Nat} {g0 : List Nat} {fv : Value} {L' : List Act9} {V V' : Areas × List TM} {G : List Nat} (h : StRel W w b tb kb g0 fv L' V) (hg : ∀ g ∈ kb :: g0, g ∈ G) (hf : ∀ a n c, fv = .slice (some a) n c → a.block ∈ g0) (hi : StInv V') (ht : TabIn W w' b tb V' G) (m : Moves W G w w') : StRel W w' b tb kb g0 fv L' V' :=
  ⟨hi, ht.add (Ext.rfl' _) _ (fun g h => .inl (hg g h)), h.key.moves m (fun a n c e => by injection e with e; injection e with e; subst e; exact hg _ List.mem_cons_self), h.acts.moves m (fun a n c e => hg _ (List.mem_cons_of_mem _ (hf a n c e))), fun g hg => Nat.lt_of_lt_of_le (h.lt g hg) m.size⟩
theorem own_mem {α : Type} {w : World} {base : Nat} {e : TypeId} {sz : Nat} {enc : α → List Value} {v : Value} {xs : List α} (h : Own w base e sz enc v xs) : (∀ a n c, v = .slice (some a) n c → a.block ∈ v.ownBlock.toList) ∧ ∀ g ∈ v.ownBlock.toList, g < w.heap.size := by
  refine ⟨fun a n c e => ?_, fun g hg => ?_⟩
  · subst e
    rcases h.2 with ⟨hv, -⟩ | ⟨g, cap, cur, hv, -⟩
    · injection hv with hv; cases hv
    · injection hv with hv; injection hv with hv; subst hv; simp [Value.ownBlock]
  · exact (h.lt (Option.mem_toList.1 hg)).2
def StPut (W : World) (b tb kb : Nat) (g0 : List Nat) (fv : Value) (L' : List Act9) (V : Areas × List TM) (ks vs : List Int) (flags : Int) (e : Ending) (w' : World) : Prop :=
  e = .returned (.tuple #[.int .u64 (tput V 0 ks vs flags).2.1, .int .i64 (tput V 0 ks vs flags).2.2]) ∧ StRel W w' b tb kb g0 fv L' (actV V false 0 ks vs flags)
theorem st_put {W wr u : World} {b tb kb : Nat} {g0 : List Nat} {fv : Value} {L' : List Act9} {V : Areas × List TM} (h : StRel W wr b tb kb g0 fv L' V) (k : Ext wr u) (hf : ∀ a n c, fv = .slice (some a) n c → a.block ∈ g0) {q n : Nat} (hq : wr.heap.size ≤ q) (hqu : q < u.heap.size) (ov : Value) (ks vs : List Int) (flags : Int) (hv : Sl u .u8 (.slice (some ⟨q, 0, none⟩) n n) vs) (hk : Sl u .u8 ov ks) (hne : strOfNums ks ≠ stK) (hu : ∀ q ∈ vs, 0 ≤ q ∧ q ≤ 255) (hf0 : 0 ≤ flags) (HF : Hid (flags ≤ 18446744073709551615)) :
    Calls Try.prog 25 #[.pointer (some ⟨tb, 0, none⟩), .int .i64 0, ov, .slice (some ⟨q, 0, none⟩) n n, .int .u64 flags] u (StPut W b tb kb g0 fv L' V ks vs flags) := by
  have h' := h.go k
  have ht := h.tab.add k (q :: kb :: g0) (fun g hg => by
    rcases List.mem_cons.1 hg with rfl | hg
    · exact .inr hq
    · exact .inl hg)
  refine (int_put ht (fun g hg => by
    rcases List.mem_cons.1 hg with rfl | hg
    · exact hqu
    · exact h'.lt g hg) 0 _ _ ks vs flags hk hu hf0 HF (Lib.hid (Firm.of_in hv List.mem_cons_self))).mono ?_
  rintro e w' ⟨rfl, h8, m8⟩
  exact ⟨rfl, h'.step (fun g h => List.mem_cons_of_mem _ h) hf (st_step h.inv false hne hu flags) h8 m8⟩
set_option maxRecDepth 20000 in
set_option maxHeartbeats 4000000 in
theorem tstays_any (v0 : Value) (L : List Act9) (n : Int) (w : World) (hL : Rd w 5 Act9.enc v0 L) (hok : ∀ x ∈ L, ActOk w x) (hn0 : 0 ≤ n) (HN1 : Hid (n ≤ 18446744073709551615)) :
    Calls Try.prog 7 #[v0, .int .u64 n] w (LawAns w) := by
  have HL := Lib.hid hL
  have HOK := Lib.hid hok
  clear hL hok
  go_enter Try.func7, Try.ntmps7
  go_wp2_with fail
  refine (tab_shown w).mono ?_
  rintro e w1 ⟨rfl, he1⟩
  have HE1 := Lib.hid he1
  clear he1
  go_wp2_with fail
  refine (in_new0 w1).mono ?_
  rintro e w2 ⟨b, rfl, h2⟩
  have H2 := Lib.hid h2
  clear h2
  obtain ⟨V0, hV, hV1, hinv⟩ := st_new
  have HV := Lib.hid hV
  have HV1 := Lib.hid hV1
  have HI := Lib.hid hinv
  clear hV hV1 hinv
  go_wp2_with fail
  refine (new_lit1 H2.out true 2 8 16 HV.out).mono ?_
  rintro e w3 ⟨tb, rfl, h3⟩
  have H3 := Lib.hid h3
  clear h3
  go_wp2_with fail
  refine (law_val 3 _ (by decide) (by decide)).mono ?_
  rintro e w4 ⟨rfl, rfl⟩
  have hkey := sl_lit w3 [7, 7] _ 2 rfl rfl (by simp)
  have hkey2 := hkey.ext ((Ext.rfl' _).alloc' (bytesObj (List.replicate 8 3)))
  have hval := sl_lit (w3.alloc (bytesObj [7, 7])) (List.replicate 8 3) (w3.heap.size + 1) 8 (by simp) rfl (by decide)
  have hadd := H3.out.add (((Ext.rfl' w3).alloc' (bytesObj [7, 7])).alloc' (bytesObj (List.replicate 8 3))) [w3.heap.size, w3.heap.size + 1] (fun g hg => by simp only [List.mem_cons, List.not_mem_nil, or_false] at hg; omega)
  have HADD := Lib.hid hadd
  have HKEY := Lib.hid hkey2
  have HVAL : Hid (Firm w1 [w3.heap.size, w3.heap.size + 1] ((w3.alloc (bytesObj [7, 7])).alloc (bytesObj (List.replicate 8 3))) fun w' => Sl w' .u8 (.slice (some ⟨w3.heap.size + 1, 0, none⟩) 8 8) (List.replicate 8 3)) := Lib.hid (Firm.of_in hval (by simp))
  clear hkey hkey2 hval hadd
  go_wp2_with fail
  refine (int_put HADD.out (fun g hg => by simp only [List.mem_cons, List.not_mem_nil, or_false] at hg; simp; omega) 0 _ _ [7, 7] (List.replicate 8 3) 1 HKEY.out (rep_u8' 3 (by decide) (by decide) 8) (by decide) (Lib.hid (by decide)) HVAL).mono ?_
  rintro e w5 ⟨rfl, h5, m5⟩
  rw [HV1.out]
  have hk5 : Sl w5 .u8 (.slice (some ⟨w3.heap.size, 0, none⟩) 2 2) [7, 7] := HKEY.out.moves m5 (fun a n c e => by injection e with e; injection e with e; subst e; exact List.mem_cons_self)
  generalize w3.heap.size = kb at *
  have hlt5 : kb < w5.heap.size := rd_lt2 hk5 rfl
  have HK5 := Lib.hid hk5
  have H5 := Lib.hid (h5.add (Ext.rfl' _) [kb] (fun g hg => by rw [List.mem_singleton] at hg; subst hg; exact .inl List.mem_cons_self))
  clear h5 m5 hk5
  go_wp2_with fail
  refine (int_look H5.out 0 _ [7, 7] HK5.out).mono ?_
  rintro e w6 ⟨rfl, h6, he6⟩
  rw [st_look HI.out]
  have H6 := Lib.hid h6
  have HE6 := Lib.hid he6
  have HLL := Lib.hid (HL.out.ext (HE1.out.trans' h6.ext))
  clear h6 he6
  go_wp2_with fail
  refine (few_any _ L w6 HLL.out).mono ?_
  rintro e w7 ⟨fv, L', rfl, hown, hmem, he7⟩
  obtain ⟨hom, hol⟩ := own_mem hown
  have hrel : StRel w1 w7 b tb kb fv.ownBlock.toList fv L' (tput V0 0 [7, 7] (List.replicate 8 3) 1).1 := ⟨HI.out, H6.out.add he7 _ (fun g hg => by
    rcases List.mem_cons.1 hg with rfl | hg
    · exact .inl List.mem_cons_self
    · exact .inr (hown.lt (Option.mem_toList.1 hg)).1), HK5.out.ext (HE6.out.trans' he7), hown.rd enc_act, fun g hg => by
    rcases List.mem_cons.1 hg with rfl | hg
    · exact Nat.lt_of_lt_of_le hlt5 (HE6.out.trans' he7).size
    · exact hol g hg⟩
  obtain ⟨fa, fn, fc, hfv, hfn, HFN⟩ := (hown.rd enc_act).val
  have HREL := Lib.hid hrel
  have HOM := Lib.hid hom
  have HMEM := Lib.hid hmem
  generalize fv.ownBlock.toList = g0 at *
  subst hfv
  clear hrel hom hol hmem hown he7 HVAL HADD HLL
  go_wp2_with fail
  go_loopw [61] (fun i wr => ∃ (j : Nat) (V : Areas × List TM), j ≤ fn ∧ i = .int .i64 j ∧ Hid (StRel w1 wr b tb kb g0 (.slice fa fn fc) L' V)) (fun i _ => fn - (intOf i).toNat)
  case atStart => exact ⟨0, _, Nat.zero_le _, rfl, HREL⟩
  case round =>
    obtain ⟨j, V, hj, rfl, HS⟩ := hrel
    by_cases hlt : (j : Int) < fn
    · obtain ⟨x, hx⟩ := at_of_lt (xs := L') (k := j) (by have := HFN.out; omega)
      have ix := fun W => HS.out.acts.run_at (P := Try.prog) el_act.under el_act.size .i64 (j : Int) (by omega) (by omega) W
      simp only [Int.toNat_natCast] at ix
      obtain ⟨c0, c1, c2, c3, c4⟩ := act_cells HS.out.acts hx
      rw [Act9.kv] at c2
      rw [Act9.vv] at c3
      obtain ⟨hxm, hx80, -⟩ := HMEM.out x (List.mem_of_getElem? hx)
      obtain ⟨hk0, hfl, ⟨ks, hks, hku⟩, -⟩ := HOK.out x hxm
      rw [Act9.kv] at hks
      have hkl : ks.length ≤ 80 := by have := hks.num; omega
      have HKS := Lib.hid (hks.ext (HE1.out.trans' HS.out.tab.ext))
      have HKU := Lib.hid hku
      have ek : (x.kind.tmod 5) = x.kind % 5 := Int.tmod_eq_emod_of_nonneg hk0.1
      have ef : (x.flags.tmod 3) = x.flags % 3 := Int.tmod_eq_emod_of_nonneg hfl.1
      have HX := Lib.hid hx
      clear hx hxm hks hku
      go_wp2_with (at_builtin; refine app_own el_u8 (enc_int .u8) rfl _ _ rfl rfl (Own.made (wr.alloc (actObj x)) (wr.heap.size + 1) 5 1 (fun x => [Value.int .u8 x]) (b := wr.heap.size + 1) ?q0 ?q1) rfl (ys := ks) ?q2 ?q3 ?q4 ?q5)
      case q0 => simp
      case q1 => simp
      case q2 => exact HKS.out.ext (by (repeat (first | exact Ext.rfl' _ | assumption | refine Ext.drewN' ?_ _ | refine Ext.drew' ?_ | refine Ext.alloc' ?_ _ | refine Ext.trans' ?_ (by assumption))))
      case q3 => simp; omega
      case q4 => simp
      intro v5 w5 hown5 hg5 hb5
      have hE5 : Ext (wr.alloc (actObj x)) w5 := hb5 _ _ (by (repeat (first | exact Ext.rfl' _ | assumption | refine Ext.drewN' ?_ _ | refine Ext.drew' ?_ | refine Ext.alloc' ?_ _ | refine Ext.trans' ?_ (by assumption)))) (by simp)
      have HO5 := Lib.hid hown5
      clear hown5 hg5 hb5
      go_wp2_with (at_builtin; refine app_own el_u8 (enc_int .u8) rfl _ _ rfl rfl (HO5.out.alloc _) rfl (ys := [0, 0]) ?p2 ?p3 ?p4 ?p5)
      case p2 => exact sl_lit w5 [0, 0] _ 2 rfl rfl (by simp)
      case p3 => simp; omega
      case p4 => have := hE5.size; simp at this ⊢; omega
      intro v6 w6 hown6 hg6 hb6
      have hE6 : Ext (wr.alloc (actObj x)) w6 := hb6 _ _ (hE5.alloc' _) (by simp)
      obtain ⟨x0, y0, l, hl, hx0, hy0⟩ : ∃ x0 y0 l, ks ++ [0, 0] = x0 :: y0 :: l ∧ (0 ≤ x0 ∧ x0 ≤ 255) ∧ (0 ≤ y0 ∧ y0 ≤ 255) := by
        have := HKU.out
        match ks, this with
        | [], _ => exact ⟨0, 0, [], rfl, by decide, by decide⟩
        | [a], h => exact ⟨a, 0, [0], rfl, h a (by simp), by decide⟩
        | a :: b :: ks, h => exact ⟨a, b, ks ++ [0, 0], rfl, h a (by simp), h b (by simp)⟩
      rw [hl] at hown6
      obtain ⟨va, vn, vc, rfl, hvn, -⟩ := (hown6.rd (enc_int _)).val
      obtain ⟨a2, c2, r1, r2, r3, r4, r5, r6, r7⟩ := cut2 hown6
      have HO7 := Lib.hid (r7 (bits .and .u8 x0 1))
      have HE7 := Lib.hid (hE6.setCell (p := elt (.slice a2 2 c2) 0) (by simp; exact r4) (.int .u8 (bits .and .u8 x0 1)))
      have hz0 : Hid (0 ≤ bits .and .u8 x0 1 ∧ bits .and .u8 x0 1 ≤ 1) := Lib.hid (by rw [and_one_u8 x0 hx0.1 hx0.2]; omega)
      clear hown6 hg6 hb6 hl r7 hE5 hE6 hvn
      obtain ⟨b0, b1, b2, b3, b4⟩ := act_obj_cells' HE7.out
      have HW7 := Lib.hid (((Ext.rfl' wr).alloc' _).trans' HE7.out)
      have HT7 := Lib.hid (HS.out.go HW7.out)
      by_cases hdel : x.kind % 5 = 2
      · have d1 : (x.kind % 5 == 2) = true := by simpa using hdel
        have HNE := Lib.hid (st_other _ y0 hz0.out.1 hz0.out.2 hy0.1 hy0.2)
        clear hdel
        go_wp2_with fail
        refine (int_drop HT7.out.tab 0 _ [bits .and .u8 x0 1, y0] HO7.out).mono ?_
        rintro e w8 ⟨rfl, h8, m8⟩
        have HN := Lib.hid (HT7.out.step (fun g h => h) HOM.out (st_step HS.out.inv true (ks := [bits .and .u8 x0 1, y0]) (vs := []) HNE.out (by simp) 0) h8 m8)
        clear h8 m8
        go_wp2_with fail
        go_roundw
        case rel => exact ⟨j + 1, _, by omega, by go_num, HN⟩
        case measure => simp [intOf]; omega
      · have d1 : (x.kind % 5 == 2) = false := by simpa using hdel
        have HNE := Lib.hid (st_other _ y0 hz0.out.1 hz0.out.2 hy0.1 hy0.2)
        have ew : IntKind.u8.wrap x.flags = x.flags % 256 := IntKind.wrap_u8 _
        have hf0 : 0 ≤ x.flags % 3 := by omega
        have HFm : Hid (x.flags % 3 ≤ 18446744073709551615) := Lib.hid (by omega)
        have HFB : Hid (0 ≤ x.flags % 256 ∧ x.flags % 256 ≤ 255) := Lib.hid (by omega)
        clear hdel
        go_wp2_with fail
        generalize w6.setCell (elt (.slice a2 2 c2) 0) (.int .u8 (bits .and .u8 x0 1)) = w8 at *
        have b4' : ∀ o, (w8.alloc o).cell? ⟨wr.heap.size, 4, none⟩ = some (.int .u64 x.flags) := fun o => (show Ext w8 (w8.alloc o) by (repeat (first | exact Ext.rfl' _ | assumption | refine Ext.drewN' ?_ _ | refine Ext.drew' ?_ | refine Ext.alloc' ?_ _ | refine Ext.trans' ?_ (by assumption)))).cellOf b4
        go_region_with ((first
          | (go_at_call 27; (with_reducible refine (law_val (x.flags % 256) _ HFB.out.1 HFB.out.2).mono ?_); rintro e w9 ⟨rfl, rfl⟩)
          | (go_at_call 25; refine (st_put HS.out (u := _) (HW7.out.trans' (by (repeat (first | exact Ext.rfl' _ | assumption | refine Ext.drewN' ?_ _ | refine Ext.drew' ?_ | refine Ext.alloc' ?_ _ | refine Ext.trans' ?_ (by assumption))))) HOM.out (q := w8.heap.size) (n := 8) HW7.out.size (by simp) _ [bits .and .u8 x0 1, y0] (List.replicate 8 (x.flags % 256)) (x.flags % 3) ((sl_lit w8 (List.replicate 8 (x.flags % 256)) _ 8 rfl rfl (by simp)).ext (Ext.rfl' _).drew') (HO7.out.ext (by (repeat (first | exact Ext.rfl' _ | assumption | refine Ext.drewN' ?_ _ | refine Ext.drew' ?_ | refine Ext.alloc' ?_ _ | refine Ext.trans' ?_ (by assumption))))) HNE.out (rep_u8' _ HFB.out.1 HFB.out.2 8) hf0 HFm).mono ?_; rintro e w9 ⟨rfl, h9⟩; have HN := Lib.hid h9; clear h9)))
        all_goals
          go_wp2_with fail
          go_roundw
          case rel => exact ⟨j + 1, _, by omega, by go_num, HN⟩
          case measure => simp [intOf]; omega
    · have HIN := Lib.hid HS.out.inv
      obtain ⟨s1, s2, s3⟩ := st_store HS.out.inv n
      have HS1 := Lib.hid s1
      have HS2 := Lib.hid s2
      have HS3 := Lib.hid s3
      have HM := Lib.hid (mat_le 4096 0)
      clear s1 s2 s3
      have hmz : (mat 4096 0 == 0) = false := by decide
      go_wp2_with fail
      refine (int_look HS.out.tab 0 _ [7, 7] HS.out.key).mono ?_
      rintro e w8 ⟨rfl, h8, he8⟩
      rw [st_look HIN.out]
      have H8 := Lib.hid h8
      have HE8 := Lib.hid he8
      clear h8 he8
      go_wp2_with fail
      refine (int_mload H8.out (mat 4096 0) 8 HM.out.1 (Lib.hid HM.out.2)).mono ?_
      rintro e w9 ⟨rfl, h9, he9⟩
      rw [st_load HIN.out]
      have H9 := Lib.hid h9
      have HK9 := Lib.hid (HS.out.key.ext (HE8.out.trans' he9))
      clear h9 he9
      go_wp2_with fail
      refine (int_mstore H9.out (mat 4096 0) 8 n HM.out.1 (Lib.hid HM.out.2) hn0).mono ?_
      rintro e w10 ⟨rfl, h10, m10⟩
      rw [HS1.out]
      have H10 := Lib.hid h10
      have HK10 := Lib.hid (HK9.out.moves m10 (fun a n c e => by injection e with e; injection e with e; subst e; exact List.mem_cons_self))
      clear h10 m10
      go_wp2_with fail
      refine (int_items H10.out 0 (Lib.hid HIN.out.wf.small)).mono ?_
      rintro e w11 ⟨iv, rfl, hit, he11⟩
      generalize titems ((mstore V.1 (mat 4096 0) 8 n).1, V.2) 0 = T at *
      obtain ⟨I, hI, hrows, hmap⟩ := hit
      have hIl : I.length = T.length := by have := congrArg List.length hmap; simpa using this
      obtain ⟨ia, inn, ic, rfl, hin, hIN⟩ := hI.val
      have HI := Lib.hid hI
      have HR := Lib.hid hrows
      have HMP := Lib.hid hmap
      have HIL := Lib.hid hIl
      have HE := Lib.hid (HE1.out.trans' (H10.out.ext.trans' he11))
      have HK11 := Lib.hid (HK10.out.ext he11)
      clear hI hrows hmap hIl he11
      go_wp2_with fail
      go_loopw [136] (fun i wr => ∃ (j : Nat), j ≤ inn ∧ i = .int .i64 j ∧ Ext w11 wr ∧ Hid (∀ q, q < j → ∀ p, T[q]? = some p → p.1 ≠ stK)) (fun i _ => inn - (intOf i).toNat)
      case atStart => exact ⟨0, Nat.zero_le _, rfl, Ext.rfl' _, Lib.hid (fun q h => by omega)⟩
      case round =>
        obtain ⟨j, hj, rfl, hwr, HNO⟩ := hrel
        by_cases hlt : (j : Int) < inn
        · obtain ⟨x, hx⟩ := at_of_lt (xs := I) (k := j) (by have := hIN.out; omega)
          have ix := fun W => HI.out.run_at (P := Try.prog) el_item.under el_item.size .i64 (j : Int) (by omega) (by omega) W
          obtain ⟨c0, c1⟩ := item_cells (HI.out.ext hwr) hx
          simp only [Int.toNat_natCast] at ix
          obtain ⟨xk, xv⟩ := HR.out x (List.mem_of_getElem? hx)
          have hxm : T[j]? = some (strOfNums x.key, x.val) := by
            have h1 := congrArg (fun l => l[j]?) HMP.out
            simp only [List.getElem?_map, hx, Option.map_some] at h1
            exact h1.symm
          rw [IT.kv] at c0 xk
          rw [IT.vv] at c1 xv
          obtain ⟨kn, hkn⟩ : ∃ kn, x.key.length = kn := ⟨_, rfl⟩
          obtain ⟨vn, hvn⟩ : ∃ vn, x.val.length = vn := ⟨_, rfl⟩
          rw [hkn] at c0 xk
          rw [hvn] at c1 xv
          have HXM := Lib.hid hxm
          have s1 := ((xk.ext hwr).ext ((Ext.rfl' _).alloc' (.cells #[.slice x.ka kn x.kc, .slice x.va vn x.vc] 60))).run_str (P := Try.prog) Try.underlying40 Try.underlying5 Try.underlying9
          have s2 := ((HK11.out.ext hwr).ext ((Ext.rfl' _).alloc' (.cells #[.slice x.ka kn x.kc, .slice x.va vn x.vc] 60))).run_str (P := Try.prog) Try.underlying40 Try.underlying5 Try.underlying9
          clear hx hxm hkn
          by_cases hk : strOfNums x.key = stK
          · have hb : x.val = bytesOf n 8 := HS2.out _ (List.mem_of_getElem? HXM.out) hk
            rw [hb] at xv hvn
            rw [show strOfNums x.key = strOfNums [7, 7] from hk] at s1
            obtain rfl : vn = 8 := hvn.symm
            have i0 := fun W => xv.run_at (P := Try.prog) el_u8.under el_u8.size .i64 0 (by decide) (by decide) W
            have i7 := fun W => xv.run_at (P := Try.prog) el_u8.under el_u8.size .i64 7 (by decide) (by decide) W
            have v0 := ((xv.ext hwr).ext ((Ext.rfl' _).alloc' (.cells #[.slice x.ka kn x.kc, .slice x.va 8 x.vc] 60))).cell (i := 0) (j := 0) rfl rfl
            have v7 := ((xv.ext hwr).ext ((Ext.rfl' _).alloc' (.cells #[.slice x.ka kn x.kc, .slice x.va 8 x.vc] 60))).cell (i := 7) (j := 0) rfl rfl
            simp only [Nat.mul_one, Nat.zero_mul, Nat.add_zero, show (0 : Int).toNat = 0 from rfl, show (7 : Int).toNat = 7 from rfl] at i0 i7 v0 v7
            generalize hsk : strOfNums [7, 7] = sk at *
            clear hsk hk hvn hb xv
            have d7 : (n / 256 / 256 / 256 / 256 / 256 / 256 / 256 % 256 == n / 72057594037927936 % 256) = true := by
              have : n / 256 / 256 / 256 / 256 / 256 / 256 / 256 = n / 72057594037927936 := by omega
              rw [this]; simp
            go_wp2_with fail
            go_returns
            exact ⟨rfl, HE.out.trans' (hwr.alloc' _)⟩
          · have hkb : ((strOfNums x.key).toList == (strOfNums [7, 7]).toList) = false := by rw [← beq_toListBytes]; exact ba_ne hk
            have HK := Lib.hid hk
            clear hk hvn xv
            generalize strOfNums x.key = sx at *
            generalize hsk : strOfNums [7, 7] = sk at *
            clear hsk
            go_wp2_with fail
            go_roundw
            case rel => exact ⟨j + 1, by omega, by go_num, hwr.alloc' _, Lib.hid (fun q hq p hp => by
              by_cases e : q = j
              · subst e; rw [HXM.out] at hp; injection hp with hp; subst hp; exact HK.out
              · exact HNO.out q (by omega) p hp)⟩
            case measure => simp [intOf]; omega
        · exfalso
          obtain ⟨p, hp1, hp2⟩ := HS3.out
          obtain ⟨q, hq⟩ := List.getElem?_of_mem hp1
          exact HNO.out q (by have := (List.getElem?_eq_some_iff.1 hq).1; have := hIN.out; have := HIL.out; omega) p hq hp2
end Go.Proofs.Ytjimmbcihcmfoaa
