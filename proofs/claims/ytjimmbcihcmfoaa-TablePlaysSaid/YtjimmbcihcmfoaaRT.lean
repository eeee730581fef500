/- The document's maps (reference 09): how they lie in the heap; may, find, Look. -/
import Derived.Test.YtjimmbcihcmfoaaRefD
import Derived.Test.YtjimmbcihcmfoaaTabB
namespace Go.Proofs.Ytjimmbcihcmfoaa
open Go.RowKit
set_option linter.unusedVariables false
set_option linter.unusedSimpArgs false

/-- A map of the document's: where its keys lie, and what it is (its keys with their slots, in its order). -/
structure RM where
  la : Option Addr
  lc : Nat
  T : TM
def RM.lv (x : RM) : Value := .slice x.la x.T.slots.length x.lc
def RM.enc (x : RM) : List Value := [.bool x.T.hash, .int .i64 x.T.key, .int .i64 x.T.val, .int .i64 x.T.max, x.lv, .int .i64 (x.T.made : Nat)]
theorem enc_rm : Enc 6 RM.enc := ⟨fun _ => rfl, fun x u hu => by
  simp only [RM.enc, List.mem_cons, List.not_mem_nil, or_false] at hu
  rcases hu with rfl | rfl | rfl | rfl | rfl | rfl <;> rfl⟩
abbrev encKS : ByteArray × Nat → List Value := fun p => [.string p.1, .int .i64 (p.2 : Nat)]
theorem enc_ks : Enc 2 encKS := ⟨fun _ => rfl, fun x u hu => by
  simp only [encKS, List.mem_cons, List.not_mem_nil, or_false] at hu
  rcases hu with rfl | rfl <;> rfl⟩
theorem el_rm : El Try.prog 82 87 6 64 (.agg #[.bool false, .int .i64 0, .int .i64 0, .int .i64 0, .slice none 0 0, .int .i64 0]) := ⟨Try.underlying82, by kernel_rfl, rfl, by decide, fun _ => by kernel_rfl⟩
theorem el_rk : El Try.prog 85 90 2 24 (.agg #[.string ⟨#[]⟩, .int .i64 0]) := ⟨Try.underlying85, by kernel_rfl, rfl, by decide, fun _ => by kernel_rfl⟩
structure RTabs where
  rb : Nat
  lv : Value
  L : List RR
  mv : Value
  R : List RM
def rtfoot (tb : Nat) (S : RTabs) : List Nat := tb :: (S.mv.ownBlock.toList ++ (S.R.flatMap (fun x => x.lv.ownBlock.toList) ++ rfoot S.rb S.lv S.L))
structure RTabAt (w : World) (base tb : Nat) (S : RTabs) : Prop where
  head : w.heap[tb]? = some (.cells #[.pointer (some ⟨S.rb, 0, none⟩), S.mv] 84 (0, 0))
  low : base ≤ tb
  maps : Own w base 87 6 RM.enc S.mv S.R
  keys : ∀ x ∈ S.R, Own w base 90 2 encKS x.lv x.T.slots
  mem : RefAt w base S.rb S.lv S.L
  apart : (rtfoot tb S).Nodup
  few : S.R.length ≤ 8
  made : ∀ x ∈ S.R, x.T.made ≤ 1024 ∧ ∀ p ∈ x.T.slots, p.2 ≤ 1024
theorem RTabAt.keep {F : List Nat} {w w' : World} {base tb : Nat} {S : RTabs} (h : RTabAt w base tb S) (k : Keep F w w') (hF : ∀ j ∈ rtfoot tb S, j ∉ F) : RTabAt w' base tb S := by
  refine ⟨k.obj h.head (hF _ (by simp [rtfoot])), h.low, h.maps.keep k (fun j hj => hF j (by simp [rtfoot, hj])), fun x hx => (h.keys x hx).keep k (fun j hj => hF j ?_),
    h.mem.keep k (fun j hj => hF j ?_), h.apart, h.few, h.made⟩
  · simp only [rtfoot, List.mem_cons, List.mem_append, List.mem_flatMap, Option.mem_toList]
    exact .inr (.inr (.inl ⟨x, hx, hj⟩))
  · simp only [rtfoot, List.mem_cons, List.mem_append]
    exact .inr (.inr (.inr hj))
theorem RTabAt.ext {w w' : World} {base tb : Nat} {S : RTabs} (h : RTabAt w base tb S) (k : Ext w w') : RTabAt w' base tb S :=
  h.keep (F := []) (Keep.of_ext k) (fun _ _ => by simp)
theorem RTabAt.lt {w : World} {base tb : Nat} {S : RTabs} (h : RTabAt w base tb S) : ∀ j ∈ rtfoot tb S, base ≤ j ∧ j < w.heap.size := by
  intro j hj
  simp only [rtfoot, List.mem_cons, List.mem_append, List.mem_flatMap, Option.mem_toList] at hj
  rcases hj with rfl | hj | ⟨x, hx, hj⟩ | hj
  · exact ⟨h.low, heap_lt h.head⟩
  · exact h.maps.lt hj
  · exact (h.keys x hx).lt hj
  · exact h.mem.lt j hj
theorem tfind_no' {T : List TM} {i : Int} {n : Nat} (h : ∀ (j : Nat) t, i = j → T[j]? = some t → (n : Int) ≠ t.key) : tfind T i n = none := by
  unfold tfind pick
  split
  · rfl
  · cases hp : T[i.toNat]? with
    | none => rfl
    | some t => simp only [Option.bind_some]; rw [if_neg (h i.toNat t (by omega) hp)]
theorem tfind_at' {T : List TM} {i : Nat} {n : Nat} {t : TM} (hp : T[i]? = some t) (hk : (n : Int) = t.key) : tfind T i n = some t := by
  unfold tfind pick
  rw [if_neg (by omega), Int.toNat_natCast, hp]
  simp only [Option.bind_some]
  rw [if_pos hk]
theorem tfind_cases' (T : List TM) (i : Int) (n : Nat) : tfind T i n = none ∨ ∃ (j : Nat) (t : TM), i = j ∧ T[j]? = some t ∧ (n : Int) = t.key := by
  by_cases h : i < 0
  · exact .inl (tfind_no' fun j t e => by omega)
  · obtain ⟨j, rfl⟩ : ∃ j : Nat, i = j := ⟨i.toNat, by omega⟩
    cases hp : T[j]? with
    | none => exact .inl (tfind_no' fun q t e hq => by obtain rfl : q = j := by omega
                                                       rw [hp] at hq; cases hq)
    | some t =>
      by_cases hk : (n : Int) = t.key
      · exact .inr ⟨j, t, rfl, hp, hk⟩
      · exact .inl (tfind_no' fun q t' e hq => by obtain rfl : q = j := by omega
                                                  rw [hp] at hq; injection hq with e; subst e; exact hk)
def rview (S : RTabs) : Areas × List TM := (viewR S.L, S.R.map (·.T))
/-- A map's cells. -/
theorem rm_cells {w : World} {v : Value} {L : List RM} (R : Rd w 6 RM.enc v L) {i : Nat} {x : RM} (hx : L[i]? = some x) :
    w.cell? (elt v (i * 6)) = some (.bool x.T.hash) ∧ w.cell? ⟨(elt v (i * 6)).block, (elt v (i * 6)).off + 1, none⟩ = some (.int .i64 x.T.key) ∧ w.cell? ⟨(elt v (i * 6)).block, (elt v (i * 6)).off + 2, none⟩ = some (.int .i64 x.T.val) ∧ w.cell? ⟨(elt v (i * 6)).block, (elt v (i * 6)).off + 3, none⟩ = some (.int .i64 x.T.max) ∧
    w.cell? ⟨(elt v (i * 6)).block, (elt v (i * 6)).off + 4, none⟩ = some x.lv ∧ w.cell? ⟨(elt v (i * 6)).block, (elt v (i * 6)).off + 5, none⟩ = some (.int .i64 (x.T.made : Nat)) := by
  have E := R.elt_add hx
  have F : ∀ (p : Addr) (j : Nat), j ≠ 0 → (⟨p.block, p.off + j, none⟩ : Addr) = p.add j := fun p j h => by simp [Addr.add, h]
  rw [F _ 1 (by decide), F _ 2 (by decide), F _ 3 (by decide), F _ 4 (by decide), F _ 5 (by decide), E, E, E, E, E]
  exact ⟨R.cell hx (j := 0) rfl, R.cell hx (j := 1) rfl, R.cell hx (j := 2) rfl, R.cell hx (j := 3) rfl, R.cell hx (j := 4) rfl, R.cell hx (j := 5) rfl⟩
theorem ks_cells {w : World} {v : Value} {L : List (ByteArray × Nat)} (R : Rd w 2 encKS v L) {i : Nat} {x : ByteArray × Nat} (hx : L[i]? = some x) :
    w.cell? (elt v (i * 2)) = some (.string x.1) ∧ w.cell? ⟨(elt v (i * 2)).block, (elt v (i * 2)).off + 1, none⟩ = some (.int .i64 (x.2 : Nat)) := by
  have E := R.elt_add hx
  have F : ∀ (p : Addr) (j : Nat), j ≠ 0 → (⟨p.block, p.off + j, none⟩ : Addr) = p.add j := fun p j h => by simp [Addr.add, h]
  rw [F _ 1 (by decide), E]
  exact ⟨R.cell hx (j := 0) rfl, R.cell hx (j := 1) rfl⟩

theorem rtab_area (i s : Int) (w : World) (h0 : 0 ≤ i) (h1 : i ≤ 16) (h2 : 0 ≤ s) (h3 : s ≤ 2048) : Calls Try.prog 22 #[.int .i64 i, .int .i64 s] w fun e w' => e = .returned (.int .i64 (tarea i s)) ∧ w' = w := by
  go_enter Try.func22, Try.ntmps22
  go_wp2
  go_returns
  exact ⟨rfl, rfl⟩
theorem rtab_minus (n : Int) (w : World) (h0 : 0 < n) (h1 : n ≤ 18446744073709551615) : Calls Try.prog 51 #[.int .u64 n] w fun e w' => e = .returned (.int .u64 (18446744073709551616 - n)) ∧ w' = w := by
  go_enter Try.func51, Try.ntmps51
  go_wp2
  go_returns
  exact ⟨ret_u64 (by simp only [IntKind.wrap_u64]; omega), rfl⟩
set_option maxHeartbeats 1000000 in
theorem rtab_may (base tb : Nat) (S : RTabs) (i : Int) (kv : Value) (ks : List Int) (w : World) (h : RTabAt w base tb S) (hk : Sl w .u8 kv ks) :
    Calls Try.prog 50 #[.pointer (some ⟨tb, 0, none⟩), .int .i64 i, kv] w fun e w' => e = .returned (.bool (tfind (S.R.map (·.T)) i ks.length).isSome) ∧ w' = w := by
  obtain ⟨ka, kn, kc, rfl, hkn, hKN⟩ := hk.val
  have hb1 := cell_obj (i := 1) h.head
  simp only [List.getElem?_toArray, List.getElem?_cons_zero, List.getElem?_cons_succ] at hb1
  have RMM := Lib.hid (h.maps.rd enc_rm)
  obtain ⟨ma, mn, mc, hmv, hmn, hMN⟩ := RMM.out.val
  rw [hmv] at hb1 RMM
  have hkk := hKN.out
  clear hk h hmv
  by_cases h0 : i < 0
  · have ht : (tfind (S.R.map (·.T)) i ks.length).isSome = false := by rw [tfind_no' (fun j t e => by omega)]; rfl
    rw [ht]
    clear ht hkk
    go_enter Try.func50, Try.ntmps50
    go_wp2
    go_returns
    exact ⟨rfl, rfl⟩
  · by_cases h1 : (mn : Int) ≤ i
    · have ht : (tfind (S.R.map (·.T)) i ks.length).isSome = false := by
        rw [tfind_no' (fun j t e hj => by
          have := (List.getElem?_eq_some_iff.1 hj).1
          have := hMN.out
          simp at *
          omega)]; rfl
      rw [ht]
      clear ht hkk
      go_enter Try.func50, Try.ntmps50
      go_wp2
      go_returns
      exact ⟨rfl, rfl⟩
    · obtain ⟨x, hx⟩ := at_of_lt (xs := S.R) (k := i.toNat) (by have := hMN.out; omega)
      have ix := fun W => RMM.out.run_at (P := Try.prog) el_rm.under el_rm.size .i64 i (by omega) (by omega) W
      obtain ⟨c0, c1, c2, c3, c4, c5⟩ := rm_cells RMM.out hx
      have ht : (tfind (S.R.map (·.T)) i ks.length).isSome = ((kn : Int) == x.T.key) := by
        have hp : pick (S.R.map (·.T)) i = some x.T := by rw [pick, if_neg h0, List.getElem?_map, hx]; rfl
        unfold tfind
        rw [hp, ← hkk]
        simp only [Option.bind_some]
        by_cases e : (kn : Int) = x.T.key
        · rw [if_pos e]; simp [e]
        · rw [if_neg e]; simp [e]
      rw [ht]
      have hi0 : 0 ≤ i := by omega
      have hi1 : i < (mn : Int) := by omega
      clear ht hkk hx c0 c2 c3 c4 c5
      go_enter Try.func50, Try.ntmps50
      go_wp2
      go_returns
      exact ⟨rfl, rfl⟩
end Go.Proofs.Ytjimmbcihcmfoaa
