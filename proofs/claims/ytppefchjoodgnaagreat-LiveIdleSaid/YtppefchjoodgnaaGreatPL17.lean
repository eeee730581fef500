/- What the claim leans on: RefB · MsB. -/
import Derived.Test.YtppefchjoodgnaaGreatPL02
import Derived.Test.YtppefchjoodgnaaGreatPL16
import Derived.Test.YtppefchjoodgnaaGreatPL03
namespace Go.Proofs.YtppefchjoodgnaaGreat
open Go.RowKit
set_option linter.unusedVariables false
set_option linter.unusedSimpArgs false
set_option maxHeartbeats 1000000 in
theorem ref_read (base b : Nat) (lv : Value) (L : List RR) (p s : Int) (w : World) (h : RefAt w base b lv L) (hp : 0 ≤ p) (H : Hid (p ≤ 18446744073709551615)) :
  Calls Tryz.prog 185 #[.pointer (some ⟨b, 0, none⟩), .int .u64 p, .int .i64 s] w (ReadAns (viewR L) p s w) := by
 obtain ⟨a, n, c, rfl, hn, hN, RL, hb⟩ := h.open
 have HR := η h
 clear h
 by_cases hbad : s < 0 ∨ 1024 < s
 ·have e1 := read_bad (M := viewR L) (p := p) hbad
  have E1 := η e1
  clear e1
  rcases hbad with hs | hs
  all_goals
   go_enter Tryz.func185, Tryz.ntmps185
   go_wp2_with fail
   go_returns
   exact ⟨.slice none 0 0, by rw [E1.out]; rfl, by rw [E1.out]; exact Own.nil _ _ _ _ _, by (repeat (first|exact xE0 _|assumption|refine xE1 ?_ _|refine xE2 ?_|refine xE3 ?_ _|refine xE4 ?_ (by assumption)))⟩
 ·have HB := η hbad
  have hs0 : 0 ≤ s := by omega
  have hs1 : s ≤ 1024 := by omega
  clear hbad
  go_enter Tryz.func185, Tryz.ntmps185
  go_wp2_with fail
  refine (ref_where base b _ L p s _ HR.out hp hs0 hs1 H).mono ?_
  rintro e w1 ⟨rfl, ⟨hf, rfl⟩ | ⟨i, x, hx, hxn, hf, rfl⟩⟩
  ·have HF := η hf
   clear hf
   go_wp2_with fail
   go_returns
   exact ⟨.slice none 0 0, by rw [read_none HB.out HF.out]; rfl, by rw [read_none HB.out HF.out]; exact Own.nil _ _ _ _ _, by (repeat (first|exact xE0 _|assumption|refine xE1 ?_ _|refine xE2 ?_|refine xE3 ?_ _|refine xE4 ?_ (by assumption)))⟩
  ·obtain ⟨c0, c1, c2, c3⟩ := HR.out.cells hx
   have hlt : i < n := by rw [hN.out]; exact (List.getElem?_eq_some_iff.1 hx).1
   have ix := fun W => RL.out.run_at (P := Tryz.prog) el_area.under el_area.size .i64 (i : Int) (by omega) (by omega) W
   simp only [Int.toNat_natCast] at ix
   obtain ⟨hle, hoo⟩ := find_le hp hs0 hf
   have hm := List.mem_of_getElem? hx
   obtain ⟨hpl, hsm, hu8, _⟩ := HR.out.ok x hm
   have RB := η ((HR.out.bytes x hm).rd (enc_int _))
   have RP := η ((HR.out.put x hm).rd enc_p)
   have HF := η hf
   have HP := η hpl
   rw [RR.bv] at c1 RB
   rw [RR.pv] at c2 RP
   rw [hpl] at c2 RP
   clear hx hxn hf hm hpl c0 c3
   obtain ⟨o, ho⟩ : ∃ o : Nat, (p % 4294967296).toNat = o := ⟨_, rfl⟩
   rw [ho] at hle hoo HF
   rw [← hoo]
   clear ho hoo
   have hi0 : decide ((i : Int) < 0) = false := by simp
   go_wp2_with fail
   go_loopw [10] (fun t wr => ∃ j : Nat, j ≤ s.toNat ∧ t = .int .i64 ((o : Int) + j) ∧ wr = w1 ∧ Hid (∀ q, q < j → x.A.put[o + q]? = some true)) (fun t _ => o + s.toNat - (intOf t).toNat)
   case atStart => exact ⟨0, Nat.zero_le _, by simp, rfl, η fun q hq => absurd hq (Nat.not_lt_zero _)⟩
   case round =>
    obtain ⟨j, hj, rfl, rfl, HJ⟩ := hrel
    by_cases hlt' : (j : Int) < s
    ·obtain ⟨y, hy⟩ := at_of_lt (xs := x.A.put) (k := o + j) (by have := HP.out; omega)
     have iy := fun W => RP.out.run_at (P := Tryz.prog) el_bool.under el_bool.size .i64 ((o : Int) + j) (by omega) (by omega) W
     have cy := RP.out.cell hy (j := 0) rfl
     simp only [Nat.mul_one, Nat.add_zero, show ((o : Int) + j).toNat = o + j from by omega] at iy cy
     have HY := η hy
     clear hy
     cases y with
     | true =>
      go_wp2_with fail
      go_roundw
      case rel =>
       refine ⟨j + 1, by omega, by go_num, trivial, η fun q hq => ?_⟩
       rcases Nat.lt_succ_iff_lt_or_eq.1 hq with hq | rfl
       ·exact HJ.out q hq
       ·exact HY.out
      case measure => simp [intOf]; omega
     | false =>
      have HC := η (put_cut' (n := s.toNat) (by omega) HY.out)
      go_wp2_with fail
      go_returns
      exact ⟨.slice none 0 0, by rw [read_blank HB.out HF.out HC.out]; rfl, by rw [read_blank HB.out HF.out HC.out]; exact Own.nil _ _ _ _ _, by (repeat (first|exact xE0 _|assumption|refine xE1 ?_ _|refine xE2 ?_|refine xE3 ?_ _|refine xE4 ?_ (by assumption)))⟩
    ·have hjs : j = s.toNat := by omega
     have hos : (o : Int) + j = (o : Int) + s := by omega
     rw [hos]
     have HJS := η hjs
     clear hjs hos hlt' hj
     have HC := η (put_cut (n := s.toNat) (by rw [← HJS.out]; exact HJ.out))
     have kb := fun W => RB.out.run_cut_lh (P := Tryz.prog) el_u8.under el_u8.size .i64 .i64 (o : Int) ((o : Int) + s) (by omega) (by omega) (by omega) W
     have CB := η (RB.out.cut (l := o) (m := o + s.toNat) (by omega) hle)
     simp only [Int.toNat_natCast, show ((o : Int) + s).toNat = o + s.toNat from by omega] at kb
     simp only [show o + s.toNat - o = s.toNat from by omega] at CB
     have hxw := (Ext.rfl' wr).alloc' (.cells #[] 5)
     have hb' := hxw.cellOf hb
     have c1' := hxw.cellOf c1
     have hxl : (cutL x.A.bytes o s.toNat).length = s.toNat := cutL_len _ _ _ hle
     have HXL := η hxl
     have hd : decide ((o : Int) + s < (o : Int) + s) = false := by simp
     clear hxl
     go_wp2_with (at_builtin; refine app_own el_u8 (enc_int .u8) rfl _ _ rfl rfl (Own.made wr wr.heap.size _ _ _ rfl (Nat.le_refl _)) rfl (ys := cutL x.A.bytes o s.toNat) ?q1 ?q2 ?q3 ?q4)
     case q1 => exact CB.out.ext hxw
     case q2 => exact ⟨by have := HXL.out; simp; omega, by have := HXL.out; simp; omega⟩
     case q3 => simp
     intro v' w2 hown hgrow hbel
     have HO := η hown
     clear hown hgrow
     go_wp2_with fail
     go_returns
     exact ⟨v', by rw [read_ok HB.out HF.out HC.out]; rfl, by rw [read_ok HB.out HF.out HC.out]; simpa using HO.out, hbel _ _ hxw (Nat.le_refl _)⟩
theorem pow_le7 : ∀ k : Nat, k ≤ 7 → (256 : Int) ^ k ≤ 72057594037927936 := by decide
def RLoadAns (M : Areas) (p s : Int) (w : World) (e : Ending) (w' : World) : Prop :=
 e = .returned (.tuple #[.int .u64 (mload M p s).1, .int .i64 (mload M p s).2]) ∧ Ext w w'
theorem le_drop {l : List Int} {k : Nat} {x : Int} (hx : l[k]? = some x) : le (l.drop k) = x + 256 * le (l.drop (k + 1)) := by
 have hk := (List.getElem?_eq_some_iff.1 hx).1
 rw [List.drop_eq_getElem_cons hk, le]
 have := (List.getElem?_eq_some_iff.1 hx).2
 rw [this]
theorem mread_err {M : Areas} {p s : Int} (h : (mread M p s).2 ≠ 0) : (mread M p s).1 = [] := by
 revert h
 unfold mread
 split
 ·simp
 ·split
  ·simp
  ·split <;> simp
set_option maxHeartbeats 1000000 in
theorem ref_load (base b : Nat) (lv : Value) (L : List RR) (p s : Int) (w : World) (h : RefAt w base b lv L) (hp : 0 ≤ p) (H : Hid (p ≤ 18446744073709551615)) :
  Calls Tryz.prog 140 #[.pointer (some ⟨b, 0, none⟩), .int .u64 p, .int .i64 s] w (RLoadAns (viewR L) p s w) := by
 have HM := η h
 clear h
 cases hz : sized s with
 | false =>
  have HZ := η hz
  clear hz
  go_enter Tryz.func140, Tryz.ntmps140
  go_wp2_with fail
  refine (ref_fits s _).mono ?_
  rintro e w1 ⟨rfl, rfl⟩
  rw [HZ.out]
  go_wp2_with fail
  go_returns
  exact ⟨by simp [mload, HZ.out], by (repeat (first|exact xE0 _|assumption|refine xE1 ?_ _|refine xE2 ?_|refine xE3 ?_ _|refine xE4 ?_ (by assumption)))⟩
 | true =>
  have HZ := η hz
  clear hz
  go_enter Tryz.func140, Tryz.ntmps140
  go_wp2_with fail
  refine (ref_fits s _).mono ?_
  rintro e w1 ⟨rfl, rfl⟩
  rw [HZ.out]
  go_wp2_with fail
  refine (ref_read base b _ L p s _ HM.out hp H).mono ?_
  rintro e w2 ⟨v, rfl, hv, he⟩
  have RV := η (hv.rd (enc_int _))
  have HU := η (mread_u8 HM.out.u8 p s)
  have HS : Hid (s.toNat ≤ 8) := by
   have := HZ.out
   simp only [sized, Bool.or_eq_true, beq_iff_eq] at this
   show _ ≤ _; omega
  clear hv
  obtain ⟨va, vn, vc, rfl, hvn, hVN⟩ := RV.out.val
  by_cases hne : (mread (viewR L) p s).2 = 0
  case neg =>
   have h1 : ((mread (viewR L) p s).2 != 0) = true := by simpa using hne
   have HE := η (mread_err hne)
   clear hne
   go_wp2_with fail
   go_returns
   exact ⟨by simp only [mload, HZ.out, if_true, HE.out]; rfl, by (repeat (first|exact xE0 _|assumption|refine xE1 ?_ _|refine xE2 ?_|refine xE3 ?_ _|refine xE4 ?_ (by assumption)))⟩
  case pos =>
   have h1 : ((mread (viewR L) p s).2 != 0) = false := by simp [hne]
   have HE := η hne
   clear hne
   have hv8 : vn ≤ 8 := by have h1 := HU.out.2; have h2 := HS.out; have h3 := hVN.out; omega
   go_wp2_with fail
   go_loop [11, 10] (fun i n => ∃ k : Nat, k ≤ vn ∧ i = .int .i64 ((k : Int) - 1) ∧ n = .int .u64 (le ((mread (viewR L) p s).1.drop k))) (fun i _ => (intOf i + 1).toNat)
   case atStart => exact ⟨vn, Nat.le_refl _, rfl, by rw [List.drop_of_length_le (by have := hVN.out; omega)]; rfl⟩
   case round =>
    obtain ⟨k, hk, rfl, rfl⟩ := hrel
    cases k with
    | succ k =>
     obtain ⟨x, hx⟩ := at_of_lt (xs := (mread (viewR L) p s).1) (k := k) (by have := hVN.out; omega)
     have ia := fun W => RV.out.run_at (P := Tryz.prog) el_u8.under el_u8.size .i64 (k : Int) (by omega) (by omega) W
     have ca := RV.out.cell hx (j := 0) rfl
     simp only [Nat.mul_one, Nat.add_zero, Int.toNat_natCast] at ia ca
     have HX := η hx
     clear hx
     have hx0 : 0 ≤ x := (HU.out.1 x (List.mem_of_getElem? HX.out)).1
     have hx1 : x ≤ 255 := (HU.out.1 x (List.mem_of_getElem? HX.out)).2
     have hb := le_lt ((mread (viewR L) p s).1.drop (k + 1)) (fun x hx => HU.out.1 x (List.mem_of_mem_drop hx))
     have hb0 : 0 ≤ le ((mread (viewR L) p s).1.drop (k + 1)) := hb.1
     have hb1 : le ((mread (viewR L) p s).1.drop (k + 1)) < 72057594037927936 := by
      refine Int.lt_of_lt_of_le hb.2 ?_
      rw [List.length_drop]
      exact pow_le7 _ (by have := hVN.out; omega)
     have hk1 : ((k + 1 : Nat) : Int) - 1 = k := by omega
     have hkk : decide ((0 : Int) ≤ k) = true := by simp
     rw [hk1]
     clear hb hk1
     obtain ⟨N, hN⟩ : ∃ N, le ((mread (viewR L) p s).1.drop (k + 1)) = N := ⟨_, rfl⟩
     have HN := η hN
     rw [hN] at hb0 hb1 ⊢
     clear hN
     go_wp2
     go_round
     case rel => exact ⟨k, by omega, by go_num, by rw [le_drop HX.out, HN.out]; congr 1; omega⟩
     case measure => simp [intOf]
    | zero =>
     go_wp2
     go_returns
     refine ⟨?_, by (repeat (first|exact xE0 _|assumption|refine xE1 ?_ _|refine xE2 ?_|refine xE3 ?_ _|refine xE4 ?_ (by assumption)))⟩
     simp only [mload, HZ.out, if_true, HE.out]
     rfl
def BytesOk (M : Areas) : Prop := ∀ q ∈ M, ∀ x ∈ q.2.bytes, 0 ≤ x ∧ x ≤ 255
theorem pow_le8 : ∀ k : Nat, k ≤ 8 → (256 : Int) ^ k ≤ 18446744073709551616 := by decide
theorem mload_rng {M : Areas} (hM : BytesOk M) (p s : Int) : u64R (mload M p s).1 := by
 unfold mload
 split
 ·rename_i hs
  obtain ⟨h1, h2⟩ := mread_u8 hM p s
  obtain ⟨h3, h4⟩ := le_lt _ h1
  have h5 : (mread M p s).1.length ≤ 8 := by
   simp only [sized, Bool.or_eq_true, beq_iff_eq] at hs
   omega
  have := pow_le8 _ h5
  exact ⟨h3, by omega⟩
 ·exact ⟨by decide, by decide⟩
section
variable {F0 Z0 : List Nat} {wf w w' : World} {base mb : Nat} {σ : RS} {l : RLay}
theorem MAt.lt (h : MAt w base mb σ l) : ∀ j ∈ mfoot mb l, j < w.heap.size := fun j hj => by
 simp only [mfoot, List.mem_cons, List.mem_append] at hj
 rcases hj with rfl | hj | hj
 ·exact heap_lt h.head
 ·exact (h.calls.lt (by simpa using hj)).2
 ·exact (h.tab.lt j hj).2
theorem MAt.tabStep (h : MAt w base mb σ l) (k : Keep (rtfoot l.tb l.T) w w') {T' : RTabs} (ht : RTabAt w' base l.tb T') (hrb : T'.rb = l.T.rb) (hf : ∀ j ∈ rtfoot l.tb T', j ∈ rtfoot l.tb l.T ∨ w.heap.size ≤ j) :
  MAt w' base mb { σ with V := rview T' } { l with T := T' } := by
 have hlt := h.lt
 have n0 := List.nodup_cons.1 h.apart
 have n1 := List.nodup_append.1 n0.2
 have hmb : mb ∉ rtfoot l.tb l.T := fun hj => n0.1 (List.mem_append_right _ hj)
 have hcv : ∀ j, l.cv.ownBlock = some j → j ∉ rtfoot l.tb l.T := fun j hj hj' => n1.2.2 j (by simpa using hj) j hj' rfl
 have hx : ∀ j ∈ mfrz l, j ∉ rtfoot l.tb l.T := fun j hj hj' => (h.frz j hj).1 (by simp [mfoot, hj'])
 have hz : ∀ {v : Value}, (∀ j ∈ vblk v, j ∈ mfrz l) → ∀ a n c, v = .slice (some a) n c → a.block ∉ rtfoot l.tb l.T := fun hv => vblk_not fun j hj => hx j (hv j hj)
 have hnew : ∀ j, j < w.heap.size → j ∉ rtfoot l.tb l.T → j ∉ rtfoot l.tb T' := fun j h1 h2 h3 => (hf j h3).elim h2 (fun h4 => by omega)
 refine ⟨?_, h.low, ht, rfl, h.calls.keep k hcv, h.cls, fun c hc => ⟨?_, ?_, ?_⟩, ?_, ?_, ?_, ?_, ?_⟩
 ·have := k.obj h.head hmb
  rw [this]
  simp only [rCells, hrb]
 ·exact (h.callS c hc).1.keep k (hz fun j hj => mem_kv hc (by simp [hj]))
 ·exact (h.callS c hc).2.1.keep k (hz fun j hj => mem_kv hc (by simp [hj]))
 ·exact (h.callS c hc).2.2.keep k (hz fun j hj => mem_kv hc (by simp [hj]))
 ·exact h.code.keepF k (fun j hj => hx j (by simp [mfrz, hj]))
 ·exact h.defs.keepF k (fun j hj => hx j (by simp [mfrz, hj]))
 ·exact h.draws.keep k (hz fun j hj => by simp [mfrz, hj])
 ·simp only [mfoot]
  rw [List.nodup_cons, List.nodup_append]
  refine ⟨?_, n1.1, ht.apart, ?_⟩
  ·intro hj
   rcases List.mem_append.1 hj with hj | hj
   ·exact n0.1 (List.mem_append_left _ hj)
   ·exact hnew mb (heap_lt h.head) hmb hj
  ·intro a ha b hb e
   subst e
   have ha' : l.cv.ownBlock = some a := by simpa using ha
   exact hnew a (h.calls.lt ha').2 (hcv a ha') hb
 ·intro j hj
  have h1 := h.frz j hj
  refine ⟨fun h2 => ?_, Nat.lt_of_lt_of_le h1.2 k.size⟩
  simp only [mfoot, List.mem_cons, List.mem_append] at h2
  rcases h2 with rfl | h2 | h2
  ·exact h1.1 (by simp [mfoot])
  ·exact h1.1 (by simp [mfoot, h2])
  ·exact hnew j h1.2 (fun h3 => h1.1 (by simp [mfoot, h3])) h2
theorem MRel.tabStep (h0 : Keep F0 wf w) (hl : base ≤ wf.heap.size) (h : MAt w base mb σ l) (h2 : ∀ j ∈ mfoot mb l, j ∈ F0 ∨ wf.heap.size ≤ j) (h3 : ∀ j ∈ mfrz l, j ∈ Z0 ∨ wf.heap.size ≤ j)
  (k : Keep (rtfoot l.tb l.T) w w') {T' : RTabs} (ht : RTabAt w' base l.tb T') (hrb : T'.rb = l.T.rb) (hf : ∀ j ∈ rtfoot l.tb T', j ∈ rtfoot l.tb l.T ∨ w.heap.size ≤ j) :
  MRel F0 Z0 wf base w' mb { σ with V := rview T' } := by
 refine ⟨h0.through k (fun j hj => h2 j (by simp [mfoot, hj])), hl, _, h.tabStep k ht hrb hf, fun j hj => ?_, h3⟩
 simp only [mfoot, List.mem_cons, List.mem_append] at hj
 rcases hj with rfl | hj | hj
 ·exact h2 _ (by simp [mfoot])
 ·exact h2 _ (by simp [mfoot, hj])
 ·rcases hf j hj with h4 | h4
  ·exact h2 _ (by simp [mfoot, h4])
  ·exact .inr (Nat.le_trans h0.size h4)
theorem MRel.mem (h : MRel F0 Z0 wf base w mb σ) : ∃ rb lv L, w.cell? ⟨mb, 23, none⟩ = some (.pointer (some ⟨rb, 0, none⟩)) ∧ Hid (viewR L = σ.V.1) ∧ Hid (∀ w', Ext w w' → RefAt w' base rb lv L) ∧
  Hid (∀ w1 w' p s n e, Ext w w1 → RStoreAns base rb lv L p s n w1 e w' → e = .returned (.int .i64 (mstore σ.V.1 p s n).2) ∧ MRel F0 Z0 wf base w' mb (σ.setM (mstore σ.V.1 p s n).1)) := by
 have H := h
 obtain ⟨h0, hl, l, h1, h2, h3⟩ := h
 have hv : viewR l.T.L = σ.V.1 := by rw [← h1.view]; rfl
 refine ⟨l.T.rb, l.T.lv, l.T.L, h1.cell 23 rfl, η hv, η fun w' he => h1.tab.mem.ext he, η ?_⟩
 intro w1 w' p s n e hE hA
 obtain ⟨he, hk, L', hR, hvw, hfo⟩ := hA
 refine ⟨by rw [he, hv], ?_⟩
 have g := h1.ext hE
 obtain ⟨t1, t2⟩ := g.tab.memStep hk hR (fun j hj => .inl (by rw [hfo] at hj; exact hj))
 have hk2 : Keep (rtfoot l.tb l.T) w1 w' := hk.mono (fun j hj => .inl (rfoot_sub l.tb l.T j hj))
 have := MRel.tabStep (h0.through (F := []) (Keep.of_ext hE) (fun _ hj => by cases hj)) hl g h2 h3 hk2 t1 rfl t2
 have e2 : ({ σ with V := rview { l.T with lv := l.T.lv, L := L' } } : RS) = σ.setM (mstore σ.V.1 p s n).1 := by
  simp only [RS.setM, rview, hvw, hv]
  rw [← h1.view]
  rfl
 rw [e2] at this
 exact this
theorem MRel.u8 (h : MRel F0 Z0 wf base w mb σ) : BytesOk σ.V.1 := by
 obtain ⟨h0, hl, l, h1, h2, h3⟩ := h
 rw [← h1.view]
 exact h1.tab.mem.u8
set_option maxHeartbeats 2000000 in
theorem m_load (x : Ins) (k : Wh) (h : MRel F0 Z0 wf base w mb σ) (hx : x.Ok) (hk : KindOk x k) (h1 : k.kind = 5) :
  Calls Tryz.prog 103 #[.pointer (some ⟨mb, 0, none⟩), x.agg, k.agg] w (MAns F0 Z0 wf base mb (σ.load x k).1 (.int .i64 (σ.load x k).2)) := by
 obtain ⟨op, dst, src, off, imm⟩ := x
 obtain ⟨kind, kop, wide, reg, sg, size⟩ := k
 have hsrc : 0 ≤ src := hx.src.1
 obtain ⟨d, rfl⟩ : ∃ d : Nat, src = d := ⟨src.toNat, by omega⟩
 have hdd : d ≤ 10 := by have := hk.src; simp at this; omega
 have hdst : 0 ≤ dst := hx.dst.1
 obtain ⟨t, rfl⟩ : ∃ d : Nat, dst = d := ⟨dst.toNat, by omega⟩
 have htt : t ≤ 10 := by have := hk.dst; simp at this; omega
 have HX := η hx
 have HM := η h
 have HSZ := η (hk.km (by omega) (by omega))
 obtain ⟨rb, lv, L, cm, HV, HRF, _⟩ := h.mem
 obtain ⟨h0, hl, l, g1, g2, g3⟩ := h
 have c2 := g1.cell (12 + d) (rcell_S σ l hdd)
 have HCM := η cm
 have hlt := heap_lt g1.head
 clear hx hk h0 g2 g3 hl h1 cm
 obtain ⟨res, hres⟩ : ∃ r, RS.load σ ⟨op, t, d, off, imm⟩ ⟨kind, kop, wide, reg, sg, size⟩ = r := ⟨_, rfl⟩
 rw [hres]
 have HRES := η hres
 clear hres g1
 have hd1 : (d : Int) ≤ 10 := by omega
 have hd2 : 0 ≤ (d : Int) := by omega
 have hd3 : (d : Int) < 11 := by omega
 cases hs : σ.S d
 all_goals
  rw [hs] at c2
  have HS := η hs
  clear hs
  go_enter Tryz.func103, Tryz.ntmps103
  go_upto_region 1 with fail
 ·go_quiet (fail)
  go_wp2_with fail
  go_returns
  obtain rfl : res = (σ, 110) := by rw [← HRES.out, RS.load, if_pos]; simpa using HS.out
  exact ⟨rfl, HM.out.go (by (repeat (first|exact xE0 _|assumption|refine xE1 ?_ _|refine xE2 ?_|refine xE3 ?_ _|refine xE4 ?_ (by assumption))))⟩
 ·go_cut [16] from 9 to 17 (fun v wx => v = .bool false ∧ Hid (Ext w wx ∧ wx.heap[w.heap.size]? = some (insObj ⟨op, t, d, off, imm⟩) ∧ wx.heap[w.heap.size + 1]? = some (whObj ⟨kind, kop, wide, reg, sg, size⟩)))
  case first =>
   go_quiet (fail)
   go_wp2_with fail
   go_meet
   exact ⟨by simp, η ⟨by (repeat (first|exact xE0 _|assumption|refine xE1 ?_ _|refine xE2 ?_|refine xE3 ?_ _|refine xE4 ?_ (by assumption))), obj_old _ (obj_top w _ rfl), obj_top _ _ (by simp)⟩⟩
  case rest =>
   obtain ⟨rfl, HC⟩ := hcut
   obtain ⟨hE1, b0, b1⟩ := HC.out
   have HE1 := η hE1
   have HO1 := η b0
   have HO3 := η b1
   have HM1 := η (HM.out.go hE1)
   have cm := hE1.cellOf HCM.out
   have HA := η (addr_rng σ d ⟨op, t, d, off, imm⟩)
   obtain ⟨A, hA⟩ : ∃ A, σ.addr d ⟨op, t, d, off, imm⟩ = A := ⟨_, rfl⟩
   have HADR := η (fun W (he : MRel F0 Z0 wf base W mb σ) => m_address ⟨op, t, d, off, imm⟩ d he HX.out hdd)
   rw [hA] at HA HADR
   obtain ⟨n, er, hL⟩ : ∃ n er, mload σ.V.1 A size = (n, er) := ⟨_, _, rfl⟩
   have HLD := η (fun W (he : Ext w W) => (ref_load base rb lv L A size W (HRF.out W he) HA.out.1 (η HA.out.2)).mono (R' := fun e w' => e = .returned (.tuple #[.int .u64 n, .int .i64 er]) ∧ Ext W w') (fun e w' h => by rw [RLoadAns, HV.out, hL] at h; exact h))
   have HLL := η hL
   have HAA := η hA
   clear hE1 b0 b1 HC c2 hA hL
   go_upto_region 3 with fail
   go_cut [7, 8] from 17 to 32 (fun v7 v8 wy => v7 = .int .u64 n ∧ v8 = .int .i64 er ∧ Hid (Ext w wy ∧ MRel F0 Z0 wf base wy mb σ ∧ wy.heap[w.heap.size]? = some (insObj ⟨op, t, d, off, imm⟩) ∧ wy.heap[w.heap.size + 1]? = some (whObj ⟨kind, kop, wide, reg, sg, size⟩)))
   case first =>
    (have o1 := HO1.out; have o3 := HO3.out; have a0 := cO (i := 0) o1; have a1 := cO (i := 1) o1; have a2 := cO (i := 2) o1; have a3 := cO (i := 3) o1; have a4 := cO (i := 4) o1; have q0 := cO (i := 0) o3; have q1 := cO (i := 1) o3; have q2 := cO (i := 2) o3; have q3 := cO (i := 3) o3; have q4 := cO (i := 4) o3; have q5 := cO (i := 5) o3; simp only [gA, gB, gC] at a0 a1 a2 a3 a4 q0 q1 q2 q3 q4 q5; clear o1 o3)
    have cmg := Grow.cell cm
    (have a0g := Grow.cell a0; have a1g := Grow.cell a1; have a2g := Grow.cell a2; have a3g := Grow.cell a3; have a4g := Grow.cell a4; have q0g := Grow.cell q0; have q1g := Grow.cell q1; have q2g := Grow.cell q2; have q3g := Grow.cell q3; have q4g := Grow.cell q4; have q5g := Grow.cell q5; clear a0 a1 a2 a3 a4 q0 q1 q2 q3 q4 q5)
    refine wp_region_grow (by kernel_rfl) (by kernel_rfl) ?_
    repeat (go_big_quiet_step (first | (go_at_call 141; exact Calls.grow (HADR.out _ (HM1.out.go (Grow.ext _)))) | (go_at_call 140; exact Calls.grow (HLD.out _ (HE1.out.trans' (Grow.ext _))))))
    refine wpQuiet_nil ?_
    rintro _ ⟨⟨wq, hwq⟩, rfl⟩
    go_wp2_with fail
    go_meet
    exact ⟨rfl, rfl, η ⟨HE1.out.trans' hwq, HM1.out.go hwq, hwq.obj HO1.out, hwq.obj HO3.out⟩⟩
   case rest =>
    obtain ⟨rfl, rfl, HC⟩ := hcut
    obtain ⟨hE2, hM2, b0, b1⟩ := HC.out
    clear HE1 HM1 HO1 HO3 cm HADR HLD
    have HE2 := η hE2
    have HM2 := η hM2
    have HO1 := η b0
    have HO3 := η b1
    clear hE2 hM2 b0 b1 HC
    by_cases her : (er != 0) = true
    ·(have o1 := HO1.out; have o3 := HO3.out; have a0 := cO (i := 0) o1; have a1 := cO (i := 1) o1; have a2 := cO (i := 2) o1; have a3 := cO (i := 3) o1; have a4 := cO (i := 4) o1; have q0 := cO (i := 0) o3; have q1 := cO (i := 1) o3; have q2 := cO (i := 2) o3; have q3 := cO (i := 3) o3; have q4 := cO (i := 4) o3; have q5 := cO (i := 5) o3; simp only [gA, gB, gC] at a0 a1 a2 a3 a4 q0 q1 q2 q3 q4 q5; clear o1 o3)
     go_wp2_with fail
     go_returns
     obtain rfl : res = (σ, er) := by rw [← HRES.out, RS.load, if_neg (by simpa using HS.out)]; simp only [Int.toNat_natCast, HAA.out, HLL.out]; rw [if_pos (by simpa using her)]
     exact ⟨rfl, HM2.out⟩
    ·obtain rfl : er = 0 := by simpa using her
     have HG := η (show res = (σ.setR t (if sg then signN n (8 * size) else n), 0) by rw [← HRES.out, RS.load, if_neg (by simpa using HS.out)]; simp only [Int.toNat_natCast, HAA.out, HLL.out]; simp)
     have HN := η (by have := mload_rng HM2.out.u8 A size; rw [HLL.out] at this; exact this : u64R n)
     clear her HRES
     cases sg
     ·have hg := HG.out
      simp only [Bool.false_eq_true, if_false] at hg
      subst hg
      (have o1 := HO1.out; have o3 := HO3.out; have a0 := cO (i := 0) o1; have a1 := cO (i := 1) o1; have a2 := cO (i := 2) o1; have a3 := cO (i := 3) o1; have a4 := cO (i := 4) o1; have q0 := cO (i := 0) o3; have q1 := cO (i := 1) o3; have q2 := cO (i := 2) o3; have q3 := cO (i := 3) o3; have q4 := cO (i := 4) o3; have q5 := cO (i := 5) o3; simp only [gA, gB, gC] at a0 a1 a2 a3 a4 q0 q1 q2 q3 q4 q5; clear o1 o3)
      go_wp2_with fail
      refine (m_set HM2.out t htt _).mono ?_
      rintro e w6 ⟨rfl, hM⟩
      go_wp2_with fail
      go_returns
      exact ⟨rfl, hM⟩
     ·have hg := HG.out
      simp only [if_true] at hg
      subst hg
      (have o1 := HO1.out; have o3 := HO3.out; have a0 := cO (i := 0) o1; have a1 := cO (i := 1) o1; have a2 := cO (i := 2) o1; have a3 := cO (i := 3) o1; have a4 := cO (i := 4) o1; have q0 := cO (i := 0) o3; have q1 := cO (i := 1) o3; have q2 := cO (i := 2) o3; have q3 := cO (i := 3) o3; have q4 := cO (i := 4) o3; have q5 := cO (i := 5) o3; simp only [gA, gB, gC] at a0 a1 a2 a3 a4 q0 q1 q2 q3 q4 q5; clear o1 o3)
      go_wp2_with fail
      have e8 : wrap64 (8 * size) = 8 * size := by rcases HSZ.out with h | h | h | h <;> (subst h; unfold wrap64; omega)
      rw [e8]
      refine (r_Sign n (8 * size) _ (by have := HSZ.out; simp only [wid]; omega) HN.out.1 HN.out.2).mono ?_
      rintro e w5 ⟨rfl, rfl⟩
      go_wp2_with fail
      refine (m_set HM2.out t htt _).mono ?_
      rintro e w6 ⟨rfl, hM⟩
      go_wp2_with fail
      go_returns
      exact ⟨rfl, hM⟩
set_option maxHeartbeats 4000000 in
theorem m_store (x : Ins) (k : Wh) (h : MRel F0 Z0 wf base w mb σ) (ho : σ.Ok) (hx : x.Ok) (hk : KindOk x k) (h1 : k.kind = 6 ∨ k.kind = 7 ∨ k.kind = 8) :
  Calls Tryz.prog 104 #[.pointer (some ⟨mb, 0, none⟩), x.agg, k.agg] w (MAns F0 Z0 wf base mb (σ.store x k).1 (.int .i64 (σ.store x k).2)) := by
 obtain ⟨op, dst, src, off, imm⟩ := x
 obtain ⟨kind, kop, wide, reg, sg, size⟩ := k
 have hdst : 0 ≤ dst := hx.dst.1
 obtain ⟨d, rfl⟩ : ∃ d : Nat, dst = d := ⟨dst.toNat, by omega⟩
 have hdd : d ≤ 10 := by have := hk.dst; simp at this; omega
 have HX := η hx
 have HK := η hk
 have HM := η h
 have HB := η (second_rng ho ⟨op, d, src, off, imm⟩ ⟨kind, kop, wide, reg, sg, size⟩ hk.src)
 have HSZ := η (hk.km (by omega) (by omega))
 have HDO := η hk.k8
 have HSEC := η (fun W (he : Ext w W) => m_second ⟨op, d, src, off, imm⟩ ⟨kind, kop, wide, reg, sg, size⟩ (HM.out.go he) HX.out HK.out.src)
 obtain ⟨b, ok, hb⟩ : ∃ b ok, σ.second ⟨op, d, src, off, imm⟩ ⟨kind, kop, wide, reg, sg, size⟩ = (b, ok) := ⟨_, _, rfl⟩
 rw [hb] at HSEC HB
 have HBB := η hb
 clear hx hk h1 hb ho h
 obtain ⟨res, hres⟩ : ∃ r, RS.store σ ⟨op, d, src, off, imm⟩ ⟨kind, kop, wide, reg, sg, size⟩ = r := ⟨_, rfl⟩
 rw [hres]
 have HRES := η hres
 clear hres
 have hd1 : (d : Int) ≤ 10 := by omega
 have hd2 : 0 ≤ (d : Int) := by omega
 have hd3 : (d : Int) < 11 := by omega
 go_enter Tryz.func104, Tryz.ntmps104
 go_upto_region 1 with fail
 go_cut [7, 8] from 12 to 19 (fun v7 v8 wx => v7 = .int .u64 b ∧ v8 = .bool ok ∧ Hid (Ext w wx ∧ wx.heap[w.heap.size]? = some (insObj ⟨op, d, src, off, imm⟩) ∧ wx.heap[w.heap.size + 1]? = some (whObj ⟨kind, kop, wide, reg, sg, size⟩)))
 case first =>
  go_wp2_with fail
  refine (HSEC.out _ (by (repeat (first|exact xE0 _|assumption|refine xE1 ?_ _|refine xE2 ?_|refine xE3 ?_ _|refine xE4 ?_ (by assumption))))).mono ?_
  rintro e w1 ⟨rfl, he⟩
  go_wp2_with fail
  go_meet
  exact ⟨rfl, rfl, η ⟨by (repeat (first|exact xE0 _|assumption|refine xE1 ?_ _|refine xE2 ?_|refine xE3 ?_ _|refine xE4 ?_ (by assumption))), he.obj (obj_old _ (obj_top w _ rfl)), he.obj (obj_top _ _ (by simp))⟩⟩
 case rest =>
  obtain ⟨rfl, rfl, HC⟩ := hcut
  obtain ⟨hE1, b0, b1⟩ := HC.out
  have HE1 := η hE1
  have HO1 := η b0
  have HO3 := η b1
  have HM1 := η (HM.out.go hE1)
  clear hE1 b0 b1 HC HM HSEC
  have bad : (ok = false ∨ σ.S d = false) → res = (σ, 110) := fun hg => by
   rw [← HRES.out, RS.store, HBB.out, if_pos]
   simpa using hg
  by_cases hg : ok = false ∨ σ.S d = false
  ·obtain rfl := bad hg
   obtain ⟨h0, hl, l, g1, g2, g3⟩ := HM1.out
   have c2 := g1.cell (12 + d) (rcell_S σ l hdd)
   have hlt := heap_lt g1.head
   clear h0 hl g1 g2 g3
   (have o1 := HO1.out; have o3 := HO3.out; have a0 := cO (i := 0) o1; have a1 := cO (i := 1) o1; have a2 := cO (i := 2) o1; have a3 := cO (i := 3) o1; have a4 := cO (i := 4) o1; have q0 := cO (i := 0) o3; have q1 := cO (i := 1) o3; have q2 := cO (i := 2) o3; have q3 := cO (i := 3) o3; have q4 := cO (i := 4) o3; have q5 := cO (i := 5) o3; simp only [gA, gB, gC] at a0 a1 a2 a3 a4 q0 q1 q2 q3 q4 q5; clear o1 o3)
   cases hok : ok <;> cases hs : σ.S d
   all_goals
    first
    | (exfalso; rw [hok, hs] at hg; revert hg; decide)
    | (rw [hs] at c2
       clear hg bad
       go_wp2_with fail
       go_quiet (fail)
       go_wp2_with fail
       go_returns
       exact ⟨rfl, HM1.out.go (by (repeat (first|exact xE0 _|assumption|refine xE1 ?_ _|refine xE2 ?_|refine xE3 ?_ _|refine xE4 ?_ (by assumption))))⟩)
  ·have hok : ok = true := by cases ok; exact absurd (.inl rfl) hg; rfl
   have hs : σ.S d = true := by cases hs : σ.S d; exact absurd (.inr hs) hg; rfl
   subst hok
   have HS := η hs
   clear bad hg
   go_upto_region 2 with fail
   go_cut [30] from 19 to 31 (fun v wx => v = .bool false ∧ Hid (Ext w wx ∧ wx.heap[w.heap.size]? = some (insObj ⟨op, d, src, off, imm⟩) ∧ wx.heap[w.heap.size + 1]? = some (whObj ⟨kind, kop, wide, reg, sg, size⟩) ∧ MRel F0 Z0 wf base wx mb σ))
   case first =>
    obtain ⟨h0, hl, l, g1, g2, g3⟩ := HM1.out
    have c2 := g1.cell (12 + d) (rcell_S σ l hdd)
    have hlt := heap_lt g1.head
    rw [hs] at c2
    clear h0 hl g1 g2 g3
    (have o1 := HO1.out; have o3 := HO3.out; have a0 := cO (i := 0) o1; have a1 := cO (i := 1) o1; have a2 := cO (i := 2) o1; have a3 := cO (i := 3) o1; have a4 := cO (i := 4) o1; have q0 := cO (i := 0) o3; have q1 := cO (i := 1) o3; have q2 := cO (i := 2) o3; have q3 := cO (i := 3) o3; have q4 := cO (i := 4) o3; have q5 := cO (i := 5) o3; simp only [gA, gB, gC] at a0 a1 a2 a3 a4 q0 q1 q2 q3 q4 q5; clear o1 o3)
    go_wp2_with fail
    go_quiet (fail)
    go_wp2_with fail
    go_meet
    exact ⟨rfl, η ⟨HE1.out.drewN' _, HO1.out, HO3.out, HM1.out.go ((Ext.rfl' _).drewN' _)⟩⟩
   case rest =>
    obtain ⟨rfl, HC⟩ := hcut
    obtain ⟨hE2, b0, b1, hM2⟩ := HC.out
    clear HE1 HO1 HO3 HM1 hs
    have HE1 := η hE2
    have HO1 := η b0
    have HO3 := η b1
    have HM1 := η hM2
    clear hE2 b0 b1 hM2 HC
    have HA := η (addr_rng σ d ⟨op, d, src, off, imm⟩)
    have HADR := η (fun W (he : MRel F0 Z0 wf base W mb σ) => m_address ⟨op, d, src, off, imm⟩ d he HX.out hdd)
    obtain ⟨A, hA⟩ : ∃ A, σ.addr d ⟨op, d, src, off, imm⟩ = A := ⟨_, rfl⟩
    rw [hA] at HA HADR
    have HAA := η hA
    clear hA
    go_upto_region 4 with fail
    go_cut [9] from 31 to 36 (fun v wy => v = .int .u64 A ∧ Hid (Ext w wy ∧ wy.heap[w.heap.size]? = some (insObj ⟨op, d, src, off, imm⟩) ∧ wy.heap[w.heap.size + 1]? = some (whObj ⟨kind, kop, wide, reg, sg, size⟩) ∧ MRel F0 Z0 wf base wy mb σ))
    case first =>
     (have o1 := HO1.out; have o3 := HO3.out; have a0 := cO (i := 0) o1; have a1 := cO (i := 1) o1; have a2 := cO (i := 2) o1; have a3 := cO (i := 3) o1; have a4 := cO (i := 4) o1; have q0 := cO (i := 0) o3; have q1 := cO (i := 1) o3; have q2 := cO (i := 2) o3; have q3 := cO (i := 3) o3; have q4 := cO (i := 4) o3; have q5 := cO (i := 5) o3; simp only [gA, gB, gC] at a0 a1 a2 a3 a4 q0 q1 q2 q3 q4 q5; clear o1 o3)
     go_wp2_with fail
     refine (HADR.out _ HM1.out).mono ?_
     rintro e w2 ⟨rfl, hE2⟩
     go_wp2_with fail
     go_meet
     exact ⟨rfl, η ⟨HE1.out.trans' hE2, hE2.obj HO1.out, hE2.obj HO3.out, HM1.out.go hE2⟩⟩
    case rest =>
     obtain ⟨rfl, HC⟩ := hcut
     obtain ⟨hE2, b0, b1, hM2⟩ := HC.out
     clear HE1 HO1 HO3 HM1 HADR
     have HE1 := η hE2
     have HO1 := η b0
     have HO3 := η b1
     have HM1 := η hM2
     clear hE2 b0 b1 hM2 HC
     by_cases hk8 : (kind == 8) = true
     ·have hk8' : kind = 8 := by simpa using hk8
      subst hk8'
      obtain ⟨rb, lv, L, cm, HV, HRF, _⟩ := HM1.out.mem
      obtain ⟨n, er, hL⟩ : ∃ n er, mload σ.V.1 A size = (n, er) := ⟨_, _, rfl⟩
      have HN := η (by have := mload_rng HM1.out.u8 A size; rw [hL] at this; exact this : u64R n)
      have HG := η (show res = if er ≠ 0 then (σ, er) else σ.putM A size (aluN kop true 0 n b) by rw [← HRES.out, RS.store, HBB.out, if_neg (by simp [HS.out]), if_pos rfl]; simp only [HAA.out, hL])
      have HLL := η hL
      clear HRES hL
      (have o1 := HO1.out; have o3 := HO3.out; have a0 := cO (i := 0) o1; have a1 := cO (i := 1) o1; have a2 := cO (i := 2) o1; have a3 := cO (i := 3) o1; have a4 := cO (i := 4) o1; have q0 := cO (i := 0) o3; have q1 := cO (i := 1) o3; have q2 := cO (i := 2) o3; have q3 := cO (i := 3) o3; have q4 := cO (i := 4) o3; have q5 := cO (i := 5) o3; simp only [gA, gB, gC] at a0 a1 a2 a3 a4 q0 q1 q2 q3 q4 q5; clear o1 o3)
      go_upto_region 6 with fail
      go_cut [10, 11] from 39 to 50 (fun v10 v11 wy => v10 = .int .u64 n ∧ v11 = .int .i64 er ∧ Hid (Ext wc wy))
      case first =>
       have cmg := Grow.cell cm
       (have a0g := Grow.cell a0; have a1g := Grow.cell a1; have a2g := Grow.cell a2; have a3g := Grow.cell a3; have a4g := Grow.cell a4; have q0g := Grow.cell q0; have q1g := Grow.cell q1; have q2g := Grow.cell q2; have q3g := Grow.cell q3; have q4g := Grow.cell q4; have q5g := Grow.cell q5; clear a0 a1 a2 a3 a4 q0 q1 q2 q3 q4 q5)
       have HLD := η (fun W (he : Ext wc W) => (ref_load base rb lv L A size W (HRF.out W he) HA.out.1 (η HA.out.2)).mono (R' := fun e w' => e = .returned (.tuple #[.int .u64 n, .int .i64 er]) ∧ Ext W w') (fun e w' h => by rw [RLoadAns, HV.out, HLL.out] at h; exact h))
       (refine wp_region_grow (by kernel_rfl) (by kernel_rfl) ?_; (repeat (go_big_quiet_step ((go_at_call 140; exact Calls.grow (HLD.out _ (Grow.ext _)))))); refine wpQuiet_nil ?_; rintro wz ⟨nz, hz⟩; have hwq := nz.ext; rw [← hz] at hwq; clear hz)
       go_wp2_with fail
       go_meet
       exact ⟨rfl, rfl, η hwq⟩
      case rest =>
       obtain ⟨rfl, rfl, HE3⟩ := hcut
       clear a0 a1 a2 a3 a4 q0 q1 q2 q3 q4 q5
       have HO1' := η (HE3.out.obj HO1.out)
       have HO3' := η (HE3.out.obj HO3.out)
       have HM2 := η (HM1.out.go HE3.out)
       clear HO1 HO3 cm HV HRF HM1
       have HO1 := HO1'
       have HO3 := HO3'
       clear HO1' HO3'
       by_cases her : (er != 0) = true
       ·obtain rfl : res = (σ, er) := by rw [HG.out, if_pos (by simpa using her)]
        (have o1 := HO1.out; have o3 := HO3.out; have a0 := cO (i := 0) o1; have a1 := cO (i := 1) o1; have a2 := cO (i := 2) o1; have a3 := cO (i := 3) o1; have a4 := cO (i := 4) o1; have q0 := cO (i := 0) o3; have q1 := cO (i := 1) o3; have q2 := cO (i := 2) o3; have q3 := cO (i := 3) o3; have q4 := cO (i := 4) o3; have q5 := cO (i := 5) o3; simp only [gA, gB, gC] at a0 a1 a2 a3 a4 q0 q1 q2 q3 q4 q5; clear o1 o3)
        go_wp2_with fail
        go_returns
        exact ⟨rfl, HM2.out⟩
       ·obtain rfl : er = 0 := by simpa using her
        obtain rfl := HG.out
        clear her HG HLL
        obtain ⟨rb, lv, L, cm, HV, HRF, HST⟩ := HM2.out.mem
        (have o1 := HO1.out; have o3 := HO3.out; have a0 := cO (i := 0) o1; have a1 := cO (i := 1) o1; have a2 := cO (i := 2) o1; have a3 := cO (i := 3) o1; have a4 := cO (i := 4) o1; have q0 := cO (i := 0) o3; have q1 := cO (i := 1) o3; have q2 := cO (i := 2) o3; have q3 := cO (i := 3) o3; have q4 := cO (i := 4) o3; have q5 := cO (i := 5) o3; simp only [gA, gB, gC] at a0 a1 a2 a3 a4 q0 q1 q2 q3 q4 q5; clear o1 o3)
        go_upto_region 9 with fail
        have HDD := η (fun W => r_do kop true 0 n b W (HDO.out rfl) HN.out.1 HN.out.2 HB.out.1 HB.out.2)
        have HRG := η (alu_rng (HDO.out rfl) HN.out HB.out)
        go_cut [7] from 53 to 61 (fun v wy => v = .int .u64 (aluN kop true 0 n b) ∧ Hid (Ext wc wy))
        case first =>
         go_wp2_with fail
         refine (HDD.out _).mono ?_
         rintro e w3 ⟨rfl, hE4⟩
         go_wp2_with fail
         go_meet
         exact ⟨rfl, η hE4⟩
        case rest =>
         obtain ⟨rfl, HE4⟩ := hcut
         clear a0 a1 a2 a3 a4 q0 q1 q2 q3 q4 q5
         have HO1' := η (HE4.out.obj HO1.out)
         have HO3' := η (HE4.out.obj HO3.out)
         have cm' := HE4.out.cellOf cm
         clear HO1 HO3 cm
         have HO1 := HO1'
         have HO3 := HO3'
         clear HO1' HO3'
         (have o1 := HO1.out; have o3 := HO3.out; have a0 := cO (i := 0) o1; have a1 := cO (i := 1) o1; have a2 := cO (i := 2) o1; have a3 := cO (i := 3) o1; have a4 := cO (i := 4) o1; have q0 := cO (i := 0) o3; have q1 := cO (i := 1) o3; have q2 := cO (i := 2) o3; have q3 := cO (i := 3) o3; have q4 := cO (i := 4) o3; have q5 := cO (i := 5) o3; simp only [gA, gB, gC] at a0 a1 a2 a3 a4 q0 q1 q2 q3 q4 q5; clear o1 o3)
         go_upto_region 10 with fail
         have cmg := Grow.cell cm'
         (have a0g := Grow.cell a0; have a1g := Grow.cell a1; have a2g := Grow.cell a2; have a3g := Grow.cell a3; have a4g := Grow.cell a4; have q0g := Grow.cell q0; have q1g := Grow.cell q1; have q2g := Grow.cell q2; have q3g := Grow.cell q3; have q4g := Grow.cell q4; have q5g := Grow.cell q5; clear a0 a1 a2 a3 a4 q0 q1 q2 q3 q4 q5)
         (refine wp_region_ext_tail 8 (by kernel_rfl) (by kernel_rfl) ?_; simp only [List.take_succ_cons, List.take_zero]; (repeat (go_big_quiet_step ((fail)))); refine wpQuiet_nil ?_; rintro wz ⟨nz, hz⟩; have hwq := nz.ext; rw [← hz] at hwq; simp only [List.drop_succ_cons, List.drop_zero]; clear hz)
         go_wp2_with fail
         refine (ref_store base rb lv L A size _ wz (HRF.out _ (HE4.out.trans' hwq)) HA.out.1 (η HA.out.2) HRG.out.1 (η HRG.out.2)).mono ?_
         intro e w3 hA3
         obtain ⟨rfl, hM3⟩ := HST.out _ _ _ _ _ _ (HE4.out.trans' hwq) hA3
         go_wp2_with fail
         go_returns
         exact ⟨rfl, hM3⟩
     ·have hk8' : (kind == 8) = false := by simpa using hk8
      have HG := η (show res = σ.putM A size b by rw [← HRES.out, RS.store, HBB.out, if_neg (by simp [HS.out]), if_neg (by simpa using hk8)]; simp only [HAA.out])
      clear HRES hk8
      obtain ⟨rb, lv, L, cm, HV, HRF, HST⟩ := HM1.out.mem
      obtain rfl := HG.out
      (have o1 := HO1.out; have o3 := HO3.out; have a0 := cO (i := 0) o1; have a1 := cO (i := 1) o1; have a2 := cO (i := 2) o1; have a3 := cO (i := 3) o1; have a4 := cO (i := 4) o1; have q0 := cO (i := 0) o3; have q1 := cO (i := 1) o3; have q2 := cO (i := 2) o3; have q3 := cO (i := 3) o3; have q4 := cO (i := 4) o3; have q5 := cO (i := 5) o3; simp only [gA, gB, gC] at a0 a1 a2 a3 a4 q0 q1 q2 q3 q4 q5; clear o1 o3)
      go_upto_region 10 with fail
      have cmg := Grow.cell cm
      (have a0g := Grow.cell a0; have a1g := Grow.cell a1; have a2g := Grow.cell a2; have a3g := Grow.cell a3; have a4g := Grow.cell a4; have q0g := Grow.cell q0; have q1g := Grow.cell q1; have q2g := Grow.cell q2; have q3g := Grow.cell q3; have q4g := Grow.cell q4; have q5g := Grow.cell q5; clear a0 a1 a2 a3 a4 q0 q1 q2 q3 q4 q5)
      (refine wp_region_ext_tail 8 (by kernel_rfl) (by kernel_rfl) ?_; simp only [List.take_succ_cons, List.take_zero]; (repeat (go_big_quiet_step ((fail)))); refine wpQuiet_nil ?_; rintro wz ⟨nz, hz⟩; have hwq := nz.ext; rw [← hz] at hwq; simp only [List.drop_succ_cons, List.drop_zero]; clear hz)
      go_wp2_with fail
      refine (ref_store base rb lv L A size b wz (HRF.out _ hwq) HA.out.1 (η HA.out.2) HB.out.1 (η HB.out.2)).mono ?_
      intro e w3 hA3
      obtain ⟨rfl, hM3⟩ := HST.out _ _ _ _ _ _ hwq hA3
      go_wp2_with fail
      go_returns
      exact ⟨rfl, hM3⟩
end
end Go.Proofs.YtppefchjoodgnaaGreat
