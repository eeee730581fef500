/- What the claim leans on: RT · TabC · TabD · TabE · RTG · RTB · RTC. -/
import Derived.Test.YtppefchjoodgnaaGreatPL03
namespace Go.Proofs.YtppefchjoodgnaaGreat
open Go.RowKit
set_option linter.unusedVariables false
set_option linter.unusedSimpArgs false
structure RM where
 la : Option Addr
 lc : Nat
 T : TM
def RM.lv (x : RM) : Value := .slice x.la x.T.slots.length x.lc
def RM.enc (x : RM) : List Value := [.bool x.T.hash, .int .i64 x.T.key, .int .i64 x.T.val, .int .i64 x.T.max, x.lv, .int .i64 (x.T.made : Nat)]
theorem enc_rm : Enc 6 RM.enc := ⟨fun _ => rfl, fun x u hu => by
 simp only [RM.enc, List.mem_cons, List.not_mem_nil, or_false] at hu
 rcases hu with rfl | rfl | rfl | rfl | rfl | rfl <;> rfl⟩
abbrev encKS : ByteArray × Nat → List Value := fun p => [.string p.1, .int .i64 (p.2 : Nat)]
theorem enc_ks : Enc 2 encKS := ⟨fun _ => rfl, fun x u hu => by
 simp only [encKS, List.mem_cons, List.not_mem_nil, or_false] at hu
 rcases hu with rfl | rfl <;> rfl⟩
theorem el_rm : El Tryz.prog 121 126 6 64 (.agg #[.bool false, .int .i64 0, .int .i64 0, .int .i64 0, .slice none 0 0, .int .i64 0]) := ⟨Tryz.underlying121, by kernel_rfl, rfl, by decide, fun _ => by kernel_rfl⟩
theorem el_rk : El Tryz.prog 124 129 2 24 (.agg #[.string ⟨#[]⟩, .int .i64 0]) := ⟨Tryz.underlying124, by kernel_rfl, rfl, by decide, fun _ => by kernel_rfl⟩
structure RTabs where
 rb : Nat
 lv : Value
 L : List RR
 mv : Value
 R : List RM
def rtfoot (tb : Nat) (S : RTabs) : List Nat := tb :: (S.mv.ownBlock.toList ++ (S.R.flatMap (fun x => x.lv.ownBlock.toList) ++ rfoot S.rb S.lv S.L))
structure RTabAt (w : World) (base tb : Nat) (S : RTabs) : Prop where
 head : w.heap[tb]? = some (.cells #[.pointer (some ⟨S.rb, 0, none⟩), S.mv] 123 (0, 0))
 low : base ≤ tb
 maps : Own w base 126 6 RM.enc S.mv S.R
 keys : ∀ x ∈ S.R, Own w base 129 2 encKS x.lv x.T.slots
 mem : RefAt w base S.rb S.lv S.L
 apart : (rtfoot tb S).Nodup
 few : S.R.length ≤ 8
 made : ∀ x ∈ S.R, x.T.made ≤ 1024 ∧ ∀ p ∈ x.T.slots, p.2 ≤ 1024
theorem RTabAt.keep {F : List Nat} {w w' : World} {base tb : Nat} {S : RTabs} (h : RTabAt w base tb S) (k : Keep F w w') (hF : ∀ j ∈ rtfoot tb S, j ∉ F) : RTabAt w' base tb S := by
 refine ⟨k.obj h.head (hF _ (by simp [rtfoot])), h.low, h.maps.keep k (fun j hj => hF j (by simp [rtfoot, hj])), fun x hx => (h.keys x hx).keep k (fun j hj => hF j ?_),
  h.mem.keep k (fun j hj => hF j ?_), h.apart, h.few, h.made⟩
 ·simp only [rtfoot, List.mem_cons, List.mem_append, List.mem_flatMap, Option.mem_toList]
  exact .inr (.inr (.inl ⟨x, hx, hj⟩))
 ·simp only [rtfoot, List.mem_cons, List.mem_append]
  exact .inr (.inr (.inr hj))
theorem RTabAt.ext {w w' : World} {base tb : Nat} {S : RTabs} (h : RTabAt w base tb S) (k : Ext w w') : RTabAt w' base tb S :=
 h.keep (F := []) (Keep.of_ext k) (fun _ _ => by simp)
theorem RTabAt.lt {w : World} {base tb : Nat} {S : RTabs} (h : RTabAt w base tb S) : ∀ j ∈ rtfoot tb S, base ≤ j ∧ j < w.heap.size := by
 intro j hj
 simp only [rtfoot, List.mem_cons, List.mem_append, List.mem_flatMap, Option.mem_toList] at hj
 rcases hj with rfl | hj | ⟨x, hx, hj⟩ | hj
 ·exact ⟨h.low, heap_lt h.head⟩
 ·exact h.maps.lt hj
 ·exact (h.keys x hx).lt hj
 ·exact h.mem.lt j hj
theorem tfind_no' {T : List TM} {i : Int} {n : Nat} (h : ∀ (j : Nat) t, i = j → T[j]? = some t → (n : Int) ≠ t.key) : tfind T i n = none := by
 unfold tfind pick
 split
 ·rfl
 ·cases hp : T[i.toNat]? with
  | none => rfl
  | some t => simp only [Option.bind_some]; rw [if_neg (h i.toNat t (by omega) hp)]
theorem tfind_at' {T : List TM} {i : Nat} {n : Nat} {t : TM} (hp : T[i]? = some t) (hk : (n : Int) = t.key) : tfind T i n = some t := by
 unfold tfind pick
 rw [if_neg (by omega), Int.toNat_natCast, hp]
 simp only [Option.bind_some]
 rw [if_pos hk]
theorem tfind_cases' (T : List TM) (i : Int) (n : Nat) : tfind T i n = none ∨ ∃ (j : Nat) (t : TM), i = j ∧ T[j]? = some t ∧ (n : Int) = t.key := by
 by_cases h : i < 0
 ·exact .inl (tfind_no' fun j t e => by omega)
 ·obtain ⟨j, rfl⟩ : ∃ j : Nat, i = j := ⟨i.toNat, by omega⟩
  cases hp : T[j]? with
  | none => exact .inl (tfind_no' fun q t e hq => by obtain rfl : q = j := by omega
                                                     rw [hp] at hq; cases hq)
  | some t =>
   by_cases hk : (n : Int) = t.key
   ·exact .inr ⟨j, t, rfl, hp, hk⟩
   ·exact .inl (tfind_no' fun q t' e hq => by obtain rfl : q = j := by omega
                                              rw [hp] at hq; injection hq with e; subst e; exact hk)
def rview (S : RTabs) : Areas × List TM := (viewR S.L, S.R.map (·.T))
theorem rm_cells {w : World} {v : Value} {L : List RM} (R : Rd w 6 RM.enc v L) {i : Nat} {x : RM} (hx : L[i]? = some x) :
  w.cell? (elt v (i * 6)) = some (.bool x.T.hash) ∧ w.cell? ⟨(elt v (i * 6)).block, (elt v (i * 6)).off + 1, none⟩ = some (.int .i64 x.T.key) ∧ w.cell? ⟨(elt v (i * 6)).block, (elt v (i * 6)).off + 2, none⟩ = some (.int .i64 x.T.val) ∧ w.cell? ⟨(elt v (i * 6)).block, (elt v (i * 6)).off + 3, none⟩ = some (.int .i64 x.T.max) ∧
  w.cell? ⟨(elt v (i * 6)).block, (elt v (i * 6)).off + 4, none⟩ = some x.lv ∧ w.cell? ⟨(elt v (i * 6)).block, (elt v (i * 6)).off + 5, none⟩ = some (.int .i64 (x.T.made : Nat)) := by
 have E := R.elt_add hx
 have F : ∀ (p : Addr) (j : Nat), j ≠ 0 → (⟨p.block, p.off + j, none⟩ : Addr) = p.add j := fun p j h => by simp [Addr.add, h]
 rw [F _ 1 (by decide), F _ 2 (by decide), F _ 3 (by decide), F _ 4 (by decide), F _ 5 (by decide), E, E, E, E, E]
 exact ⟨R.cell hx (j := 0) rfl, R.cell hx (j := 1) rfl, R.cell hx (j := 2) rfl, R.cell hx (j := 3) rfl, R.cell hx (j := 4) rfl, R.cell hx (j := 5) rfl⟩
theorem ks_cells {w : World} {v : Value} {L : List (ByteArray × Nat)} (R : Rd w 2 encKS v L) {i : Nat} {x : ByteArray × Nat} (hx : L[i]? = some x) :
  w.cell? (elt v (i * 2)) = some (.string x.1) ∧ w.cell? ⟨(elt v (i * 2)).block, (elt v (i * 2)).off + 1, none⟩ = some (.int .i64 (x.2 : Nat)) := by
 have E := R.elt_add hx
 have F : ∀ (p : Addr) (j : Nat), j ≠ 0 → (⟨p.block, p.off + j, none⟩ : Addr) = p.add j := fun p j h => by simp [Addr.add, h]
 rw [F _ 1 (by decide), E]
 exact ⟨R.cell hx (j := 0) rfl, R.cell hx (j := 1) rfl⟩
theorem rtab_area (i s : Int) (w : World) (h0 : 0 ≤ i) (h1 : i ≤ 16) (h2 : 0 ≤ s) (h3 : s ≤ 2048) : Calls Tryz.prog 63 #[.int .i64 i, .int .i64 s] w fun e w' => e = .returned (.int .i64 (tarea i s)) ∧ w' = w := by
 go_enter Tryz.func63, Tryz.ntmps63
 go_wp2
 go_returns
 exact ⟨rfl, rfl⟩
theorem rtab_minus (n : Int) (w : World) (h0 : 0 < n) (h1 : n ≤ 18446744073709551615) : Calls Tryz.prog 66 #[.int .u64 n] w fun e w' => e = .returned (.int .u64 (18446744073709551616 - n)) ∧ w' = w := by
 go_enter Tryz.func66, Tryz.ntmps66
 go_wp2
 go_returns
 exact ⟨ret_u64 (by simp only [IntKind.wrap_u64]; omega), rfl⟩
set_option maxHeartbeats 1000000 in
theorem rtab_may (base tb : Nat) (S : RTabs) (i : Int) (kv : Value) (ks : List Int) (w : World) (h : RTabAt w base tb S) (hk : Sl w .u8 kv ks) :
  Calls Tryz.prog 64 #[.pointer (some ⟨tb, 0, none⟩), .int .i64 i, kv] w fun e w' => e = .returned (.bool (tfind (S.R.map (·.T)) i ks.length).isSome) ∧ w' = w := by
 obtain ⟨ka, kn, kc, rfl, hkn, hKN⟩ := hk.val
 have hb1 := cO (i := 1) h.head
 simp only [gA, gB, gC] at hb1
 have RMM := η (h.maps.rd enc_rm)
 obtain ⟨ma, mn, mc, hmv, hmn, hMN⟩ := RMM.out.val
 rw [hmv] at hb1 RMM
 have hkk := hKN.out
 clear hk h hmv
 by_cases h0 : i < 0
 ·have ht : (tfind (S.R.map (·.T)) i ks.length).isSome = false := by rw [tfind_no' (fun j t e => by omega)]; rfl
  rw [ht]
  clear ht hkk
  go_enter Tryz.func64, Tryz.ntmps64
  go_wp2
  go_returns
  exact ⟨rfl, rfl⟩
 ·by_cases h1 : (mn : Int) ≤ i
  ·have ht : (tfind (S.R.map (·.T)) i ks.length).isSome = false := by
    rw [tfind_no' (fun j t e hj => by
     have := (List.getElem?_eq_some_iff.1 hj).1
     have := hMN.out
     simp at *
     omega)]; rfl
   rw [ht]
   clear ht hkk
   go_enter Tryz.func64, Tryz.ntmps64
   go_wp2
   go_returns
   exact ⟨rfl, rfl⟩
  ·obtain ⟨x, hx⟩ := at_of_lt (xs := S.R) (k := i.toNat) (by have := hMN.out; omega)
   have ix := fun W => RMM.out.run_at (P := Tryz.prog) el_rm.under el_rm.size .i64 i (by omega) (by omega) W
   obtain ⟨c0, c1, c2, c3, c4, c5⟩ := rm_cells RMM.out hx
   have ht : (tfind (S.R.map (·.T)) i ks.length).isSome = ((kn : Int) == x.T.key) := by
    have hp : pick (S.R.map (·.T)) i = some x.T := by rw [pick, if_neg h0, List.getElem?_map, hx]; rfl
    unfold tfind
    rw [hp, ← hkk]
    simp only [Option.bind_some]
    by_cases e : (kn : Int) = x.T.key
    ·rw [if_pos e]; simp [e]
    ·rw [if_neg e]; simp [e]
   rw [ht]
   have hi0 : 0 ≤ i := by omega
   have hi1 : i < (mn : Int) := by omega
   clear ht hkk hx c0 c2 c3 c4 c5
   go_enter Tryz.func64, Tryz.ntmps64
   go_wp2
   go_returns
   exact ⟨rfl, rfl⟩
theorem TabAt.memStep {w w' : World} {base tb : Nat} {S : Tabs} (h : TabAt w base tb S) (k : Keep (foot S.b S.r S.L) w w') {L' : List Rec} (hm : MemAt w' S.b S.r L') (hf : ∀ j ∈ foot S.b S.r L', j ∈ foot S.b S.r S.L ∨ w.heap.size ≤ j) :
  TabAt w' base tb { S with L := L' } ∧ (∀ j ∈ tfoot tb { S with L := L' }, j ∈ tfoot tb S ∨ w.heap.size ≤ j) := by
 have n0 := List.nodup_cons.1 h.apart
 have n1 := List.nodup_append.1 n0.2
 have n2 := List.nodup_append.1 n1.2.1
 have ht : tb ∉ foot S.b S.r S.L := fun hj => n0.1 (List.mem_append_right _ (List.mem_append_right _ hj))
 have hmv : ∀ j, S.mv.ownBlock = some j → j ∉ foot S.b S.r S.L := fun j hj hj' => n1.2.2 j (by simpa using hj) j (List.mem_append_right _ hj') rfl
 have hrec : ∀ x ∈ S.R, ∀ j ∈ TRec.blocks x, j ∉ foot S.b S.r S.L := fun x hx j hj hj' => n2.2.2 j (List.mem_flatMap.2 ⟨x, hx, hj⟩) j hj' rfl
 have hlt := h.lt
 refine ⟨⟨k.obj h.head ht, h.low, h.maps.keep k hmv, fun x hx => k.obj (h.ones x hx) (hrec x hx _ (by simp [TRec.blocks])), fun x hx => (h.slots x hx).keep k (hrec x hx _ (by simp [TRec.blocks])), hm, ?_, h.few, h.made⟩, ?_⟩
 ·have hnew : ∀ j ∈ foot S.b S.r L', j ∈ tfoot tb S → j ∈ foot S.b S.r S.L := fun j hj hj' => (hf j hj).elim id (fun hh => by have := hlt j hj'; omega)
  simp only [tfoot]
  rw [List.nodup_cons, List.nodup_append]
  refine ⟨?_, n1.1, ?_, ?_⟩
  ·intro hj
   rcases List.mem_append.1 hj with hj | hj
   ·exact n0.1 (List.mem_append_left _ hj)
   ·rcases List.mem_append.1 hj with hj | hj
    ·exact n0.1 (List.mem_append_right _ (List.mem_append_left _ hj))
    ·exact ht (hnew tb hj (by simp [tfoot]))
  ·rw [List.nodup_append]
   refine ⟨n2.1, hm.apart, ?_⟩
   intro a ha b hb e
   subst e
   obtain ⟨x, hx, hxa⟩ := List.mem_flatMap.1 ha
   exact hrec x hx a hxa (hnew a hb (by simp only [tfoot, List.mem_cons, List.mem_append]; exact .inr (.inr (.inl ha))))
  ·intro a ha b hb e
   subst e
   rcases List.mem_append.1 hb with hb | hb
   ·exact n1.2.2 a ha a (List.mem_append_left _ hb) rfl
   ·exact hmv a (by simpa using ha) (hnew a hb (by simp only [tfoot, List.mem_cons, List.mem_append]; exact .inr (.inl ha)))
 ·intro j hj
  simp only [tfoot, List.mem_cons, List.mem_append] at hj ⊢
  rcases hj with hj | hj | hj | hj
  ·exact .inl (.inl hj)
  ·exact .inl (.inr (.inl hj))
  ·exact .inl (.inr (.inr (.inl hj)))
  ·rcases hf j hj with h1 | h1
   ·exact .inl (.inr (.inr (.inr h1)))
   ·exact .inr h1
theorem mmake_err {M : Areas} {n : Int} {b : List Int} {x y : Bool} (h : (mmake M n b x y).2 ≠ 0) : (mmake M n b x y).1 = M := by
 revert h
 unfold mmake
 split
 ·simp
 ·split <;> simp
def mputs (M : Areas) (a : Int) (vs : List Int) : Nat → Areas
 | 0 => M
 | k + 1 => (mstore (mputs M a vs k) (mat a k) 1 (vs.getD k 0)).1
structure TDef where
 hash : Bool
 key : Int
 val : Int
 max : Int
def TDef.enc (d : TDef) : List Value := [.bool d.hash, .int .i64 d.key, .int .i64 d.val, .int .i64 d.max]
theorem el_def : El Tryz.prog 24 102 4 32 (.agg #[.bool false, .int .i64 0, .int .i64 0, .int .i64 0]) := ⟨Tryz.underlying24, by kernel_rfl, rfl, by decide, fun _ => by kernel_rfl⟩
def mayD (d : TDef) : Bool := (if d.hash then decide (1 ≤ d.key) && decide (d.key ≤ 16) else d.key == 4) && decide (8 ≤ d.val) && decide (d.val ≤ 64) && d.val % 8 == 0 && decide (1 ≤ d.max) && decide (d.max ≤ 16)
def TDef.agg (d : TDef) : Value := .agg #[.bool d.hash, .int .i64 d.key, .int .i64 d.val, .int .i64 d.max]
def BoolAns (b : Bool) (w : World) (e : Ending) (w' : World) : Prop := e = .returned (.bool b) ∧ Ext w w'
theorem def_cells {w : World} {v : Value} {L : List TDef} (R : Rd w 4 TDef.enc v L) {i : Nat} {x : TDef} (hx : L[i]? = some x) :
  w.cell? (elt v (i * 4)) = some (.bool x.hash) ∧ w.cell? ⟨(elt v (i * 4)).block, (elt v (i * 4)).off + 1, none⟩ = some (.int .i64 x.key) ∧ w.cell? ⟨(elt v (i * 4)).block, (elt v (i * 4)).off + 2, none⟩ = some (.int .i64 x.val) ∧ w.cell? ⟨(elt v (i * 4)).block, (elt v (i * 4)).off + 3, none⟩ = some (.int .i64 x.max) := by
 have E := R.elt_add hx
 have F : ∀ (p : Addr) (j : Nat), j ≠ 0 → (⟨p.block, p.off + j, none⟩ : Addr) = p.add j := fun p j h => by simp [Addr.add, h]
 rw [F _ 1 (by decide), F _ 2 (by decide), F _ 3 (by decide), E, E, E]
 exact ⟨R.cell hx (j := 0) rfl, R.cell hx (j := 1) rfl, R.cell hx (j := 2) rfl, R.cell hx (j := 3) rfl⟩
def rightL (ds : List TDef) : Bool := decide (ds.length ≤ 8) && ds.all mayD
def numKey (n : Int) : ByteArray := strOfNums [n % 256, 0, 0, 0]
theorem may_iff (d : TDef) : mayD d = true ↔ ((d.hash = true ∧ 1 ≤ d.key ∧ d.key ≤ 16) ∨ (d.hash = false ∧ d.key = 4)) ∧ 8 ≤ d.val ∧ d.val ≤ 64 ∧ d.val % 8 = 0 ∧ 1 ≤ d.max ∧ d.max ≤ 16 := by
 unfold mayD
 cases d.hash <;> simp [and_assoc]
theorem right_no {ds : List TDef} {j : Nat} {d : TDef} (hd : ds[j]? = some d) (h : ¬ mayD d = true) : rightL ds = false := by
 unfold rightL
 have : ds.all mayD = false := by
  rw [Bool.eq_false_iff]
  intro h'
  exact h (List.all_eq_true.1 h' d (List.mem_of_getElem? hd))
 rw [this]; simp
set_option maxRecDepth 20000 in
set_option maxHeartbeats 4000000 in
theorem rtab_right (dv : Value) (ds : List TDef) (w : World) (h : Rd w 4 TDef.enc dv ds) : Calls Tryz.prog 62 #[dv] w (BoolAns (rightL ds) w) := by
 obtain ⟨a, n, c, rfl, hn, hN⟩ := h.val
 have HD := η h
 clear h
 go_enter Tryz.func62, Tryz.ntmps62
 go_wp2_with fail
 go_loopw [3] (fun q wr => ∃ (j : Nat), j ≤ n ∧ q = .int .i64 j ∧ Ext w wr ∧ Hid (∀ (q : Nat) d, q < j → ds[q]? = some d → mayD d = true)) (fun q _ => n - (intOf q).toNat)
 case atStart => exact ⟨0, Nat.zero_le _, rfl, Ext.rfl' _, η (fun q d h => by omega)⟩
 case round =>
  obtain ⟨j, hj, rfl, hwr, HALL⟩ := hrel
  by_cases hlt : (j : Int) < n
  ·obtain ⟨d, hd⟩ := at_of_lt (xs := ds) (k := j) (by have := hN.out; omega)
   have ix := fun W => HD.out.run_at (P := Tryz.prog) el_def.under el_def.size .i64 (j : Int) (by omega) (by omega) W
   simp only [Int.toNat_natCast] at ix
   obtain ⟨c0, c1, c2, c3⟩ := def_cells (HD.out.ext hwr) hd
   have HDJ := η hd
   clear hd
   obtain ⟨dh, dk, dl, dm⟩ := d
   have HM := η (may_iff ⟨dh, dk, dl, dm⟩)
   simp only at c0 c1 c2 c3 HM
   by_cases h8 : dl < 8
   ·have HNO : Hid (rightL ds = false) := η (right_no HDJ.out (by rw [HM.out]; omega))
    cases dh
    all_goals
     go_wp2_with fail
     all_goals
      go_returns
      exact ⟨by rw [HNO.out]; rfl, by (repeat (first|exact xE0 _|assumption|refine xE1 ?_ _|refine xE2 ?_|refine xE3 ?_ _|refine xE4 ?_ (by assumption)))⟩
   have ht : dl.tmod 8 = dl % 8 := Int.tmod_eq_emod_of_nonneg (by omega)
   cases dh
   all_goals
    go_wp2_with fail
    all_goals first
     | (go_returns
        have HNO : rightL ds = false := right_no HDJ.out (by rw [HM.out]; simp; omega)
        exact ⟨by rw [HNO]; rfl, by (repeat (first|exact xE0 _|assumption|refine xE1 ?_ _|refine xE2 ?_|refine xE3 ?_ _|refine xE4 ?_ (by assumption)))⟩)
     | (go_roundw
        case rel => exact ⟨j + 1, by omega, by go_num, by (repeat (first|exact xE0 _|assumption|refine xE1 ?_ _|refine xE2 ?_|refine xE3 ?_ _|refine xE4 ?_ (by assumption))), η (fun q d hq hd => by
         by_cases e : q = j
         ·subst e; rw [HDJ.out] at hd; injection hd with hd; subst hd; rw [HM.out]; simp; omega
         ·exact HALL.out q d (by omega) hd)⟩
        case measure => simp [intOf]; omega)
  ·have HALL2 : Hid (ds.all mayD = true) := η (List.all_eq_true.2 fun d hd => by
    obtain ⟨q, hq⟩ := List.getElem?_of_mem hd
    exact HALL.out q d (by have := (List.getElem?_eq_some_iff.1 hq).1; have := hN.out; omega) hq)
   have HR : Hid (rightL ds = decide ((n : Int) ≤ 8)) := η (by unfold rightL; rw [HALL2.out, Bool.and_true]; have := hN.out; subst this; rw [decide_eq_decide]; omega)
   go_wp2_with fail
   go_returns
   refine ⟨?_, hwr⟩
   rw [HR.out]
   rfl
def slotOf (o : Option Nat) : Int := match o with | some s => (s : Nat) | none => -1
def RFindT (o : Option Nat) (w : World) (e : Ending) (w' : World) : Prop := e = .returned (.int .i64 (slotOf o)) ∧ Ext w w'
theorem lookup_not {L : List (ByteArray × Nat)} {s : ByteArray} (h : ∀ (q : Nat) p, L[q]? = some p → p.1 ≠ s) : L.lookup s = none := by
 cases hl : L.lookup s with
 | none => rfl
 | some v =>
  obtain ⟨q, hq⟩ := List.getElem?_of_mem (lookup_mem' hl)
  exact absurd rfl (h q _ hq)
theorem lookup_first {L : List (ByteArray × Nat)} {s : ByteArray} {i : Nat} {p : ByteArray × Nat} (hi : L[i]? = some p) (hp : p.1 = s) (h : ∀ (q : Nat) p, q < i → L[q]? = some p → p.1 ≠ s) : L.lookup s = some p.2 := by
 induction L generalizing i with
 | nil => simp at hi
 | cons y L ih =>
  obtain ⟨m, u⟩ := y
  cases i with
  | zero => simp at hi; subst hi; simp only at hp; subst hp; simp [List.lookup]
  | succ i =>
   have hm := h 0 (m, u) (by omega) rfl
   simp only [List.lookup, ba_ne (fun e => hm e.symm : s ≠ m)]
   exact ih (i := i) (by simpa using hi) (fun q p hq hp' => h (q + 1) p (by omega) (by simpa using hp'))
set_option maxRecDepth 20000 in
set_option maxHeartbeats 2000000 in
theorem rtab_find (base tb : Nat) (S : RTabs) (i : Nat) (x : RM) (kv : Value) (ks : List Int) (w : World) (h : RTabAt w base tb S) (hk : Sl w .u8 kv ks) (hx : S.R[i]? = some x) :
  Calls Tryz.prog 65 #[.pointer (some ⟨tb, 0, none⟩), .int .i64 (i : Nat), kv] w (RFindT (x.T.slots.lookup (strOfNums ks)) w) := by
 obtain ⟨ka, kn, kc, rfl, hkn, hKN⟩ := hk.val
 have hb1 := cO (i := 1) h.head
 simp only [gA, gB, gC] at hb1
 have RMM := η (h.maps.rd enc_rm)
 obtain ⟨ma, mn, mc, hmv, hmn, hMN⟩ := RMM.out.val
 rw [hmv] at hb1 RMM
 have hlt : i < S.R.length := (List.getElem?_eq_some_iff.1 hx).1
 have hi1 : ((i : Nat) : Int) < (mn : Int) := by have := hMN.out; omega
 have RK := η ((h.keys x (List.mem_of_getElem? hx)).rd enc_ks)
 obtain ⟨la, ln, lc, hlv, hln, hLN⟩ := RK.out.val
 rw [hlv] at RK
 have ix := fun W => RMM.out.run_at (P := Tryz.prog) el_rm.under el_rm.size .i64 (i : Int) (by omega) (by omega) W
 obtain ⟨c0, c1, c2, c3, c4, c5⟩ := rm_cells RMM.out hx
 simp only [Int.toNat_natCast] at ix
 rw [hlv] at c4
 have HK := η hk
 clear hk h hmv hx hlv hlt c0 c1 c2 c3 c5
 go_enter Tryz.func65, Tryz.ntmps65
 go_wp2_with fail
 go_loopw [7] (fun q wr => ∃ (j : Nat), j ≤ ln ∧ q = .int .i64 j ∧ Ext w wr ∧ Hid (∀ (q : Nat) p, q < j → x.T.slots[q]? = some p → p.1 ≠ strOfNums ks)) (fun q _ => ln - (intOf q).toNat)
 case atStart => exact ⟨0, Nat.zero_le _, rfl, Ext.rfl' _, η (fun q p h => by omega)⟩
 case round =>
  obtain ⟨j, hj, rfl, hwr, HNO⟩ := hrel
  have d1 := hwr.cellOf hb1
  have d4 := hwr.cellOf c4
  by_cases hlt : (j : Int) < ln
  ·obtain ⟨p, hp⟩ := at_of_lt (xs := x.T.slots) (k := j) (by have := hLN.out; omega)
   have iy := fun W => RK.out.run_at (P := Tryz.prog) el_rk.under el_rk.size .i64 (j : Int) (by omega) (by omega) W
   simp only [Int.toNat_natCast] at iy
   obtain ⟨y0, y1⟩ := ks_cells (RK.out.ext hwr) hp
   have st := fun n => ((HK.out.ext hwr).ext ((Ext.rfl' _).drewN' n)).run_str (P := Tryz.prog) Tryz.underlying23 Tryz.underlying5 Tryz.underlying9
   have HP := η hp
   clear hp
   by_cases he : p.1 = strOfNums ks
   ·have HRET : Hid (x.T.slots.lookup (strOfNums ks) = some p.2) := η (lookup_first HP.out he HNO.out)
    rw [HRET.out]
    rw [he] at y0
    generalize strOfNums ks = sk at *
    clear he
    go_wp2_with fail
    go_quiet (fail)
    go_wp2_with fail
    go_returns
    exact ⟨rfl, hwr.drewN' _⟩
   ·have hb : (p.1.toList == (strOfNums ks).toList) = false := by rw [← beq_toListBytes]; exact ba_ne he
    have HE := η he
    clear he
    generalize hsk : strOfNums ks = sk at *
    clear hsk
    go_wp2_with fail
    go_quiet (fail)
    go_wp2_with fail
    go_roundw
    case rel => exact ⟨j + 1, by omega, by go_num, hwr.drewN' _, η (fun q p' hq hp' => by
     by_cases e : q = j
     ·subst e; rw [HP.out] at hp'; injection hp' with e; subst e; exact HE.out
     ·exact HNO.out q p' (by omega) hp')⟩
    case measure => simp [intOf]; omega
  ·have HRET : Hid (x.T.slots.lookup (strOfNums ks) = none) := η (lookup_not fun q p hp => HNO.out q p (by have := (List.getElem?_eq_some_iff.1 hp).1; have := hLN.out; omega) hp)
   go_wp2_with fail
   go_returns
   exact ⟨by rw [HRET.out]; rfl, hwr⟩
theorem rpick (S : RTabs) (j : Nat) (t : TM) (h : (S.R.map (·.T))[j]? = some t) : ∃ x, S.R[j]? = some x ∧ x.T = t ∧ x ∈ S.R := by
 rw [List.getElem?_map, Option.map_eq_some_iff] at h
 obtain ⟨x, hx, rfl⟩ := h
 exact ⟨x, hx, rfl, List.mem_of_getElem? hx⟩
def RLookT (S : RTabs) (i : Int) (ks : List Int) (w : World) (e : Ending) (w' : World) : Prop :=
 e = .returned (.tuple #[.int .u64 (tlook (rview S).2 i ks).1, .int .i64 (tlook (rview S).2 i ks).2]) ∧ Ext w w'
set_option maxHeartbeats 1000000 in
theorem rtab_look (base tb : Nat) (S : RTabs) (i : Int) (kv : Value) (ks : List Int) (w : World) (h : RTabAt w base tb S) (hk : Sl w .u8 kv ks) :
  Calls Tryz.prog 146 #[.pointer (some ⟨tb, 0, none⟩), .int .i64 i, kv] w (RLookT S i ks w) := by
 obtain ⟨ka, kn, kc, rfl, hkn, hKN⟩ := hk.val
 have HT := η h
 have HK := η hk
 clear h hk
 rcases tfind_cases' (S.R.map (·.T)) i ks.length with h0 | ⟨j, t, rfl, hp, hkk⟩
 ·have hr : tlook (rview S).2 i ks = (0, 1) := by rw [tlook, rview, h0]
  have HR := η hr
  have H0 := η h0
  clear hr h0
  go_enter Tryz.func146, Tryz.ntmps146
  go_wp2_with fail
  refine (rtab_may base tb S i _ ks w HT.out HK.out).mono ?_
  rintro e w1 ⟨rfl, rfl⟩
  rw [H0.out]
  go_wp2_with fail
  go_returns
  exact ⟨by rw [HR.out]; rfl, Ext.rfl' _⟩
 ·obtain ⟨x, hx, hxt, hxm⟩ := rpick S j t hp
  have hf : tfind (S.R.map (·.T)) j ks.length = some t := tfind_at' hp hkk
  have hj8 : j < S.R.length := (List.getElem?_eq_some_iff.1 hx).1
  have h8 := HT.out.few
  have hmd := HT.out.made x hxm
  have HF := η hf
  have HX := η hx
  have HXT := η hxt
  clear hf hx hxt hp hkk
  go_enter Tryz.func146, Tryz.ntmps146
  go_wp2_with fail
  refine (rtab_may base tb S j _ ks w HT.out HK.out).mono ?_
  rintro e w1 ⟨rfl, rfl⟩
  rw [HF.out]
  go_wp2_with fail
  refine (rtab_find base tb S j x _ ks _ HT.out HK.out HX.out).mono ?_
  rintro e w1 ⟨rfl, he1⟩
  cases hl : x.T.slots.lookup (strOfNums ks) with
  | none =>
   have HR : Hid (tlook (rview S).2 (j : Int) ks = (0, 0)) := η (by rw [tlook, rview, HF.out]; simp only; rw [← HXT.out, hl])
   simp only [slotOf]
   clear hl hmd
   go_wp2_with fail
   go_returns
   exact ⟨by rw [HR.out]; rfl, he1⟩
  | some s =>
   have HR : Hid (tlook (rview S).2 (j : Int) ks = (mat (tarea j s) 0, 0)) := η (by rw [tlook, rview, HF.out]; simp only; rw [← HXT.out, hl])
   have hs : s ≤ 1024 := hmd.2 _ (lookup_mem' hl)
   simp only [slotOf]
   clear hl hmd
   go_wp2_with fail
   refine (rtab_area j s w1 (by omega) (by omega) (by omega) (by omega)).mono ?_
   rintro e w2 ⟨rfl, rfl⟩
   go_wp2_with fail
   refine (ref_at (tarea j s) 0 _).mono ?_
   rintro e w2 ⟨rfl, rfl⟩
   go_wp2_with fail
   go_returns
   exact ⟨by rw [HR.out]; rfl, he1⟩
theorem flat_field {α : Type} {sz : Nat} {enc : α → List Value} (E : ∀ x, (enc x).length = sz) {u : Value} {y : α} {j : Nat} (hj : j < sz) : ∀ (xs : List α) (i : Nat) (x : α), xs[i]? = some x → enc y = (enc x).set j u → (xs.set i y).flatMap enc = (xs.flatMap enc).set (i * sz + j) u
 | [], i, x, hx, _ => by simp at hx
 | z :: xs, 0, x, hx, hy => by
  simp at hx; subst hx
  rw [List.set_cons_zero, List.flatMap_cons, List.flatMap_cons, hy, List.set_append_left _ _ (by rw [E]; omega)]
  simp
 | z :: xs, i + 1, x, hx, hy => by
  rw [List.set_cons_succ, List.flatMap_cons, List.flatMap_cons, flat_field E hj xs i x (by simpa using hx) hy, List.set_append_right _ _ (by rw [E, Nat.add_mul]; omega), E]
  congr 2
  rw [Nat.add_mul]; omega
theorem Own.field {α : Type} {w : World} {base : Nat} {e : TypeId} {sz : Nat} {enc : α → List Value} (E : Enc sz enc) {v : Value} {xs : List α} (h : Own w base e sz enc v xs) {i : Nat} {x : α} (hx : xs[i]? = some x) {j : Nat} (hj : j < sz) :
  w.cell? (elt v (i * sz + j)) = (enc x)[j]? ∧ w.frozen? (elt v (i * sz + j)) = false ∧ v.ownBlock = some (elt v (i * sz + j)).block ∧ (elt v (i * sz + j)).block < w.heap.size ∧
  ∀ (y : α) (u : Value), enc y = (enc x).set j u → Own (w.setCell (elt v (i * sz + j)) u) base e sz enc v (xs.set i y) := by
 have hlt : i < xs.length := (List.getElem?_eq_some_iff.1 hx).1
 have hrd := h.rd E
 have hO := h
 rcases h.2 with ⟨_, hn⟩ | ⟨g, cap, cur, rfl, hb, hg, r⟩
 ·omega
 ·have he : elt (.slice (some ⟨g, 0, none⟩) xs.length cap) (i * sz + j) = ⟨g, i * sz + j, none⟩ := by simp [elt, Addr.add_lit]
  have hjl : j < (enc x).length := by rw [E.len]; exact hj
  have hc := hrd.cell hx (List.getElem?_eq_getElem hjl)
  refine ⟨hc.trans (List.getElem?_eq_getElem hjl).symm, ?_, ?_, ?_, fun y u hy => ?_⟩
  ·rw [he]; exact World.ownsRow.frozenAt (h := hO) (i * sz + j)
  ·rw [he]; rfl
  ·rw [he]; exact (Array.getElem?_eq_some_iff.1 hg).1
  ·rw [he]
   have h2 := (World.ownsRow.stored (h := hO) (i * sz + j) u).1
   show World.ownsRow _ _ _ _ _ _ _
   rw [flat_field E.len hj xs i x hx hy, List.length_set]
   exact h2
theorem rfoot_sub (tb : Nat) (S : RTabs) : ∀ j ∈ rfoot S.rb S.lv S.L, j ∈ rtfoot tb S := fun j hj => by simp only [rtfoot, List.mem_cons, List.mem_append]; exact .inr (.inr (.inr hj))
theorem RTabAt.memStep {w w' : World} {base tb : Nat} {S : RTabs} (h : RTabAt w base tb S) (k : Keep (rfoot S.rb S.lv S.L) w w') {lv' : Value} {L' : List RR} (hm : RefAt w' base S.rb lv' L') (hf : ∀ j ∈ rfoot S.rb lv' L', j ∈ rfoot S.rb S.lv S.L ∨ w.heap.size ≤ j) :
  RTabAt w' base tb { S with lv := lv', L := L' } ∧ (∀ j ∈ rtfoot tb { S with lv := lv', L := L' }, j ∈ rtfoot tb S ∨ w.heap.size ≤ j) := by
 have n0 := List.nodup_cons.1 h.apart
 have n1 := List.nodup_append.1 n0.2
 have n2 := List.nodup_append.1 n1.2.1
 have ht : tb ∉ rfoot S.rb S.lv S.L := fun hj => n0.1 (List.mem_append_right _ (List.mem_append_right _ hj))
 have hmv : ∀ j, S.mv.ownBlock = some j → j ∉ rfoot S.rb S.lv S.L := fun j hj hj' => n1.2.2 j (by simpa using hj) j (List.mem_append_right _ hj') rfl
 have hrec : ∀ x ∈ S.R, ∀ j, x.lv.ownBlock = some j → j ∉ rfoot S.rb S.lv S.L := fun x hx j hj hj' => n2.2.2 j (List.mem_flatMap.2 ⟨x, hx, by simpa using hj⟩) j hj' rfl
 have hlt := h.lt
 refine ⟨⟨k.obj h.head ht, h.low, h.maps.keep k hmv, fun x hx => (h.keys x hx).keep k (hrec x hx), hm, ?_, h.few, h.made⟩, ?_⟩
 ·have hnew : ∀ j ∈ rfoot S.rb lv' L', j ∈ rtfoot tb S → j ∈ rfoot S.rb S.lv S.L := fun j hj hj' => (hf j hj).elim id (fun hh => by have := (hlt j hj').2; omega)
  simp only [rtfoot]
  rw [List.nodup_cons, List.nodup_append]
  refine ⟨?_, n1.1, ?_, ?_⟩
  ·intro hj
   rcases List.mem_append.1 hj with hj | hj
   ·exact n0.1 (List.mem_append_left _ hj)
   ·rcases List.mem_append.1 hj with hj | hj
    ·exact n0.1 (List.mem_append_right _ (List.mem_append_left _ hj))
    ·exact ht (hnew tb hj (by simp [rtfoot]))
  ·rw [List.nodup_append]
   refine ⟨n2.1, hm.apart, ?_⟩
   intro a ha b hb e
   subst e
   obtain ⟨x, hx, hxa⟩ := List.mem_flatMap.1 ha
   exact hrec x hx a (by simpa using hxa) (hnew a hb (by simp only [rtfoot, List.mem_cons, List.mem_append]; exact .inr (.inr (.inl ha))))
  ·intro a ha b hb e
   subst e
   rcases List.mem_append.1 hb with hb | hb
   ·exact n1.2.2 a ha a (List.mem_append_left _ hb) rfl
   ·exact hmv a (by simpa using ha) (hnew a hb (by simp only [rtfoot, List.mem_cons, List.mem_append]; exact .inr (.inl ha)))
 ·intro j hj
  simp only [rtfoot, List.mem_cons, List.mem_append] at hj ⊢
  rcases hj with hj | hj | hj | hj
  ·exact .inl (.inl hj)
  ·exact .inl (.inr (.inl hj))
  ·exact .inl (.inr (.inr (.inl hj)))
  ·rcases hf j hj with h1 | h1
   ·exact .inl (.inr (.inr (.inr h1)))
   ·exact .inr h1
theorem opt_nodup'' (o : Option Nat) : o.toList.Nodup := by cases o <;> simp
theorem RTabAt.set {w w' : World} {base tb : Nat} {S : RTabs} {x y : RM} {i : Nat} (h : RTabAt w base tb S) (hx : S.R[i]? = some x) (k : Keep S.mv.ownBlock.toList w w') (hm : Own w' base 126 6 RM.enc S.mv (S.R.set i y))
  (hy : Own w' base 129 2 encKS y.lv y.T.slots) (hf : ∀ j, y.lv.ownBlock = some j → x.lv.ownBlock = some j ∨ w.heap.size ≤ j) (ht : y.T.made ≤ 1024 ∧ ∀ p ∈ y.T.slots, p.2 ≤ 1024) :
  RTabAt w' base tb { S with R := S.R.set i y } ∧ (∀ j ∈ rtfoot tb { S with R := S.R.set i y }, j ∈ rtfoot tb S ∨ w.heap.size ≤ j) := by
 have hi := (List.getElem?_eq_some_iff.1 hx).1
 have hmem : x ∈ S.R := List.mem_of_getElem? hx
 have n0 := List.nodup_cons.1 h.apart
 have n1 := List.nodup_append.1 n0.2
 have n2 := List.nodup_append.1 n1.2.1
 have hlt := h.lt
 have hin : ∀ z ∈ S.R, ∀ j, z.lv.ownBlock = some j → j ∈ S.R.flatMap (fun x => x.lv.ownBlock.toList) := fun z hz j hj => List.mem_flatMap.2 ⟨z, hz, by simpa using hj⟩
 have hft : ∀ z ∈ S.R, ∀ j, z.lv.ownBlock = some j → j ∈ rtfoot tb S := fun z hz j hj => by simp only [rtfoot, List.mem_cons, List.mem_append]; exact .inr (.inr (.inl (hin z hz j hj)))
 -- where the others' keys lie
 have hget : ∀ (q : Nat) z, (S.R.set i y)[q]? = some z → (q = i ∧ z = y) ∨ (q ≠ i ∧ S.R[q]? = some z) := fun q z hz => by
  rw [List.getElem?_set] at hz
  by_cases e : i = q
  ·subst e; simp [hi] at hz; exact .inl ⟨rfl, hz.symm⟩
  ·rw [if_neg e] at hz; exact .inr ⟨fun h => e h.symm, hz⟩
 have hmv : ∀ z ∈ S.R, ∀ j, z.lv.ownBlock = some j → j ∉ S.mv.ownBlock.toList := fun z hz j hj hj' => n1.2.2 j hj' j (List.mem_append_left _ (hin z hz j hj)) rfl
 have hpw : ∀ (p q : Nat) (a b : RM) (j : Nat), p ≠ q → S.R[p]? = some a → S.R[q]? = some b → a.lv.ownBlock = some j → b.lv.ownBlock = some j → False := fun p q a b j hpq ha hb h1 h2 => by
  have hpw := (List.pairwise_flatMap.1 n2.1).2
  rw [List.pairwise_iff_getElem] at hpw
  have ap := List.getElem?_eq_some_iff.1 ha
  have bp := List.getElem?_eq_some_iff.1 hb
  rcases Nat.lt_or_gt_of_ne hpq with h | h
  ·have := hpw p q ap.1 bp.1 h
   rw [ap.2, bp.2] at this
   exact this j (by simpa using h1) j (by simpa using h2) rfl
  ·have := hpw q p bp.1 ap.1 h
   rw [ap.2, bp.2] at this
   exact this j (by simpa using h2) j (by simpa using h1) rfl
 refine ⟨⟨k.obj h.head (fun hj => n0.1 (List.mem_append_left _ hj)), h.low, hm, fun z hz => ?_, h.mem.keep k (fun j hj hj' => n1.2.2 j hj' j (List.mem_append_right _ hj) rfl), ?_, by simpa using h.few, fun z hz => ?_⟩, fun j hj => ?_⟩
 ·obtain ⟨q, hq⟩ := List.getElem?_of_mem hz
  rcases hget q z hq with ⟨-, rfl⟩ | ⟨-, hz'⟩
  ·exact hy
  ·have hzm := List.mem_of_getElem? hz'
   exact (h.keys z hzm).keep k (hmv z hzm)
 ·-- apart
  have hnew : ∀ j, y.lv.ownBlock = some j → j ∈ rtfoot tb S → x.lv.ownBlock = some j := fun j hj hj' => (hf j hj).elim id (fun h => by have := (hlt j hj').2; omega)
  have hyin : ∀ j ∈ (S.R.set i y).flatMap (fun x => x.lv.ownBlock.toList), j ∈ S.R.flatMap (fun x => x.lv.ownBlock.toList) ∨ y.lv.ownBlock = some j := fun j hj => by
   obtain ⟨z, hz, hzj⟩ := List.mem_flatMap.1 hj
   obtain ⟨q, hq⟩ := List.getElem?_of_mem hz
   rcases hget q z hq with ⟨-, rfl⟩ | ⟨-, hz'⟩
   ·exact .inr (by simpa using hzj)
   ·exact .inl (hin z (List.mem_of_getElem? hz') j (by simpa using hzj))
  simp only [rtfoot]
  rw [List.nodup_cons, List.nodup_append]
  refine ⟨?_, n1.1, ?_, ?_⟩
  ·intro hj
   rcases List.mem_append.1 hj with hj | hj
   ·exact n0.1 (List.mem_append_left _ hj)
   rcases List.mem_append.1 hj with hj | hj
   ·rcases hyin _ hj with hj | hj
    ·exact n0.1 (List.mem_append_right _ (List.mem_append_left _ hj))
    ·have := hnew tb hj (by simp [rtfoot])
     exact n0.1 (List.mem_append_right _ (List.mem_append_left _ (hin x hmem tb this)))
   ·exact n0.1 (List.mem_append_right _ (List.mem_append_right _ hj))
  ·rw [List.nodup_append]
   refine ⟨?_, h.mem.apart, ?_⟩
   ·refine List.pairwise_flatMap.2 ⟨fun z hz => opt_nodup'' _, ?_⟩
    rw [List.pairwise_iff_getElem]
    intro p q hp hq hpq a ha b hb e
    subst e
    have e1 := hget p _ (List.getElem?_eq_getElem hp)
    have e2 := hget q _ (List.getElem?_eq_getElem hq)
    have ha' : ((S.R.set i y)[p]).lv.ownBlock = some a := by simpa using ha
    have hb' : ((S.R.set i y)[q]).lv.ownBlock = some a := by simpa using hb
    rcases e1 with ⟨p1, p2⟩ | ⟨p1, p2⟩ <;> rcases e2 with ⟨q1, q2⟩ | ⟨q1, q2⟩
    ·omega
    ·rw [p2] at ha'
     exact hpw i q x _ a (fun e => q1 e.symm) hx q2 (hnew a ha' (hft _ (List.mem_of_getElem? q2) a hb')) hb'
    ·rw [q2] at hb'
     exact hpw i p x _ a (fun e => p1 e.symm) hx p2 (hnew a hb' (hft _ (List.mem_of_getElem? p2) a ha')) ha'
    ·exact hpw p q _ _ a (by omega) p2 q2 ha' hb'
   ·intro a ha b hb e
    subst e
    rcases hyin a ha with ha | ha
    ·exact n2.2.2 a ha a hb rfl
    ·exact n2.2.2 a (hin x hmem a (hnew a ha (rfoot_sub tb S a hb))) a hb rfl
  ·intro a ha b hb e
   subst e
   rcases List.mem_append.1 hb with hb | hb
   ·rcases hyin a hb with hb | hb
    ·exact n1.2.2 a ha a (List.mem_append_left _ hb) rfl
    ·exact n1.2.2 a ha a (List.mem_append_left _ (hin x hmem a (hnew a hb (by simp only [rtfoot, List.mem_cons, List.mem_append]; exact .inr (.inl ha))))) rfl
   ·exact n1.2.2 a ha a (List.mem_append_right _ hb) rfl
 ·obtain ⟨q, hq⟩ := List.getElem?_of_mem hz
  rcases hget q z hq with ⟨-, rfl⟩ | ⟨-, hz'⟩
  ·exact ht
  ·exact h.made z (List.mem_of_getElem? hz')
 ·simp only [rtfoot, List.mem_cons, List.mem_append] at hj ⊢
  rcases hj with hj | hj | hj | hj
  ·exact .inl (.inl hj)
  ·exact .inl (.inr (.inl hj))
  ·obtain ⟨z, hz, hzj⟩ := List.mem_flatMap.1 hj
   have hzj' : z.lv.ownBlock = some j := by simpa using hzj
   obtain ⟨q, hq⟩ := List.getElem?_of_mem hz
   rcases hget q z hq with ⟨-, rfl⟩ | ⟨-, hz'⟩
   ·rcases hf j hzj' with h1 | h1
    ·exact .inl (.inr (.inr (.inl (hin x hmem j h1))))
    ·exact .inr h1
   ·exact .inl (.inr (.inr (.inl (hin z (List.mem_of_getElem? hz') j hzj'))))
  ·exact .inl (.inr (.inr (.inr hj)))
def RFillT (base tb : Nat) (S : RTabs) (a : Int) (vs : List Int) (w : World) (e : Ending) (w' : World) : Prop :=
 e = .returned (.tuple #[]) ∧ Keep (rfoot S.rb S.lv S.L) w w' ∧ ∃ L', RTabAt w' base tb { S with L := L' } ∧ viewR L' = mputs (viewR S.L) a vs vs.length ∧ rfoot S.rb S.lv L' = rfoot S.rb S.lv S.L
set_option maxRecDepth 20000 in
set_option maxHeartbeats 2000000 in
theorem rtab_fill (base tb : Nat) (S : RTabs) (i n : Nat) (vv : Value) (vs : List Int) (w : World) (h : RTabAt w base tb S) (hi : i ≤ 16) (hn : n ≤ 2048) (hv : Sl w .u8 vv vs) (hu : ∀ q ∈ vs, 0 ≤ q ∧ q ≤ 255) (HST : Hid (∀ w', Keep (rfoot S.rb S.lv S.L) w w' → Sl w' .u8 vv vs)) :
  Calls Tryz.prog 67 #[.pointer (some ⟨tb, 0, none⟩), .int .i64 (i : Nat), .int .i64 (n : Nat), vv] w (RFillT base tb S (tarea i n) vs w) := by
 obtain ⟨va, vn, vc, rfl, hvn, hVN⟩ := hv.val
 have HT := η h
 have HV := η hv
 have HU := η hu
 clear h hv hu
 go_enter Tryz.func67, Tryz.ntmps67
 go_wp2_with fail
 go_loopw [8] (fun t wr => ∃ (j : Nat) (Lj : List RR), j ≤ vn ∧ t = .int .i64 j ∧ Hid (RTabAt wr base tb { S with L := Lj }) ∧ Hid (viewR Lj = mputs (viewR S.L) (tarea i n) vs j) ∧ Hid (Keep (rfoot S.rb S.lv S.L) w wr) ∧ Hid (rfoot S.rb S.lv Lj = rfoot S.rb S.lv S.L)) (fun t _ => vn - (intOf t).toNat)
 case atStart => exact ⟨0, S.L, Nat.zero_le _, rfl, HT, η rfl, η (Keep.rfl' _ _), η rfl⟩
 case round =>
  obtain ⟨j, Lj, hj, rfl, HTj, HVj, HKj, HFj⟩ := hrel
  by_cases hlt : (j : Int) < vn
  ·have hsl := HST.out wr HKj.out
   obtain ⟨v, hv⟩ := at_of_lt (xs := vs) (k := j) (by have := hVN.out; omega)
   have iv := fun W => HV.out.run_at (P := Tryz.prog) el_u8.under el_u8.size .i64 (j : Int) (by omega) (by omega) W
   have cv := hsl.cell hv (j := 0) rfl
   simp only [Nat.mul_one, Nat.add_zero, Int.toNat_natCast] at iv cv
   have hvr := HU.out v (List.mem_of_getElem? hv)
   have hv0 := hvr.1
   have hv1 := hvr.2
   have hwv : IntKind.u64.wrap v = v := by rw [IntKind.wrap_u64]; omega
   have HVD : Hid (vs.getD j 0 = v) := η (by rw [List.getD_eq_getElem?_getD, hv]; rfl)
   have cb := cO (i := 0) HTj.out.head
   simp only [List.getElem?_toArray, List.getElem?_cons_zero] at cb
   have HV1 : Hid (v ≤ 18446744073709551615) := η (by omega)
   have HS : Hid (∀ w5 : World, Keep (rfoot S.rb S.lv Lj) wr w5 → w5.cell? ⟨tb, 0, none⟩ = some (.pointer (some ⟨S.rb, 0, none⟩)) ∧ w5.cell? (elt (.slice va vn vc) j) = some (.int .u8 v)) := η fun w5 k => by
    have n0 := List.nodup_cons.1 HTj.out.apart
    refine ⟨cO (k.obj HTj.out.head (fun hj => n0.1 (List.mem_append_right _ (List.mem_append_right _ hj)))), ?_⟩
    have := (HST.out w5 (HKj.out.trans (k.mono fun q hq => .inl (by rw [HFj.out] at hq; exact hq)))).cell hv (j := 0) rfl
    simpa using this
   clear hsl hv hvr
   go_wp2_with fail
   go_region_held3 (fun w' => w'.cell? ⟨tb, 0, none⟩ = some (.pointer (some ⟨S.rb, 0, none⟩)) ∧ w'.cell? (elt (.slice va vn vc) j) = some (.int .u8 v))
    (first | exact ⟨cb, cv⟩ | exact s5)
    ((first
     | (go_at_call 63; refine (rtab_area i n _ (by omega) (by omega) (by omega) (by omega)).mono ?_; rintro e w2 ⟨rfl, rfl⟩)
     | (go_at_call 37; refine (ref_at (tarea i n) j _).mono ?_; rintro e w3 ⟨rfl, rfl⟩)
     | (go_at_call 109; (try rw [hwv]); refine (ref_store base S.rb S.lv Lj (mat (tarea i n) j) 1 v _ (HTj.out.mem.ext (by (repeat (first|exact xE0 _|assumption|refine xE1 ?_ _|refine xE2 ?_|refine xE3 ?_ _|refine xE4 ?_ (by assumption))))) (mat_le _ _).1 (η (mat_le _ _).2) hv0 HV1).mono ?_; rintro e w5 ⟨rfl, hk5, L5, hm5, hv5, hf5⟩; have hk5' : Keep (rfoot S.rb S.lv Lj) wr w5 := ⟨hk5.os, hk5.tape, hk5.output, hk5.size, hk5.block⟩; have s5 := HS.out w5 hk5'; have HM5 := η hm5; have HV5 := η hv5; have HF5 := η hf5; have HK5 := η hk5'; clear hk5 hm5 hv5 hf5 hk5')))
   all_goals
    have hst := HTj.out.memStep HK5.out HM5.out (fun q hq => .inl (by rw [HF5.out] at hq; exact hq))
    have HT5 := η hst.1
    clear hst
    go_wp2_with fail
    go_roundw
    case rel =>
     exact ⟨j + 1, L5, by omega, by go_num, HT5, η (by rw [HV5.out, HVj.out, mputs, HVD.out]), η (HKj.out.trans (HK5.out.mono fun q hq => .inl (by rw [HFj.out] at hq; exact hq))), η (by rw [HF5.out, HFj.out])⟩
    case measure => simp [intOf]; omega
  ·have hjn : j = vs.length := by have := hVN.out; omega
   have HJN := η hjn
   clear hjn
   go_wp2_with fail
   go_returns
   exact ⟨rfl, HKj.out, Lj, HTj.out, by rw [HVj.out, HJN.out], HFj.out⟩
end Go.Proofs.YtppefchjoodgnaaGreat
