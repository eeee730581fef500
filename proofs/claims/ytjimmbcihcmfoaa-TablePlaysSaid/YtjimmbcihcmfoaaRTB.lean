/- The document's maps: find, Look, Area of a value. -/
import Derived.Test.YtjimmbcihcmfoaaRT
namespace Go.Proofs.Ytjimmbcihcmfoaa
open Go.RowKit
set_option linter.unusedVariables false
set_option linter.unusedSimpArgs false

/-- What find tells: a slot, or -1. -/
def slotOf (o : Option Nat) : Int := match o with | some s => (s : Nat) | none => -1
def RFindT (o : Option Nat) (w : World) (e : Ending) (w' : World) : Prop := e = .returned (.int .i64 (slotOf o)) ∧ Ext w w'
theorem lookup_not {L : List (ByteArray × Nat)} {s : ByteArray} (h : ∀ (q : Nat) p, L[q]? = some p → p.1 ≠ s) : L.lookup s = none := by
  cases hl : L.lookup s with
  | none => rfl
  | some v =>
    obtain ⟨q, hq⟩ := List.getElem?_of_mem (lookup_mem' hl)
    exact absurd rfl (h q _ hq)
theorem lookup_first {L : List (ByteArray × Nat)} {s : ByteArray} {i : Nat} {p : ByteArray × Nat} (hi : L[i]? = some p) (hp : p.1 = s) (h : ∀ (q : Nat) p, q < i → L[q]? = some p → p.1 ≠ s) : L.lookup s = some p.2 := by
  induction L generalizing i with
  | nil => simp at hi
  | cons y L ih =>
    obtain ⟨m, u⟩ := y
    cases i with
    | zero => simp at hi; subst hi; simp only at hp; subst hp; simp [List.lookup]
    | succ i =>
      have hm := h 0 (m, u) (by omega) rfl
      simp only [List.lookup, ba_ne (fun e => hm e.symm : s ≠ m)]
      exact ih (i := i) (by simpa using hi) (fun q p hq hp' => h (q + 1) p (by omega) (by simpa using hp'))
set_option maxRecDepth 20000 in
set_option maxHeartbeats 2000000 in
theorem rtab_find (base tb : Nat) (S : RTabs) (i : Nat) (x : RM) (kv : Value) (ks : List Int) (w : World) (h : RTabAt w base tb S) (hk : Sl w .u8 kv ks) (hx : S.R[i]? = some x) :
    Calls Try.prog 52 #[.pointer (some ⟨tb, 0, none⟩), .int .i64 (i : Nat), kv] w (RFindT (x.T.slots.lookup (strOfNums ks)) w) := by
  obtain ⟨ka, kn, kc, rfl, hkn, hKN⟩ := hk.val
  have hb1 := cell_obj (i := 1) h.head
  simp only [List.getElem?_toArray, List.getElem?_cons_zero, List.getElem?_cons_succ] at hb1
  have RMM := Lib.hid (h.maps.rd enc_rm)
  obtain ⟨ma, mn, mc, hmv, hmn, hMN⟩ := RMM.out.val
  rw [hmv] at hb1 RMM
  have hlt : i < S.R.length := (List.getElem?_eq_some_iff.1 hx).1
  have hi1 : ((i : Nat) : Int) < (mn : Int) := by have := hMN.out; omega
  have RK := Lib.hid ((h.keys x (List.mem_of_getElem? hx)).rd enc_ks)
  obtain ⟨la, ln, lc, hlv, hln, hLN⟩ := RK.out.val
  rw [hlv] at RK
  have ix := fun W => RMM.out.run_at (P := Try.prog) el_rm.under el_rm.size .i64 (i : Int) (by omega) (by omega) W
  obtain ⟨c0, c1, c2, c3, c4, c5⟩ := rm_cells RMM.out hx
  simp only [Int.toNat_natCast] at ix
  rw [hlv] at c4
  have HK := Lib.hid hk
  clear hk h hmv hx hlv hlt c0 c1 c2 c3 c5
  go_enter Try.func52, Try.ntmps52
  go_wp2_with fail
  go_loopw [7] (fun q wr => ∃ (j : Nat), j ≤ ln ∧ q = .int .i64 j ∧ Ext w wr ∧ Hid (∀ (q : Nat) p, q < j → x.T.slots[q]? = some p → p.1 ≠ strOfNums ks)) (fun q _ => ln - (intOf q).toNat)
  case atStart => exact ⟨0, Nat.zero_le _, rfl, Ext.rfl' _, Lib.hid (fun q p h => by omega)⟩
  case round =>
    obtain ⟨j, hj, rfl, hwr, HNO⟩ := hrel
    have d1 := hwr.cellOf hb1
    have d4 := hwr.cellOf c4
    by_cases hlt : (j : Int) < ln
    · obtain ⟨p, hp⟩ := at_of_lt (xs := x.T.slots) (k := j) (by have := hLN.out; omega)
      have iy := fun W => RK.out.run_at (P := Try.prog) el_rk.under el_rk.size .i64 (j : Int) (by omega) (by omega) W
      simp only [Int.toNat_natCast] at iy
      obtain ⟨y0, y1⟩ := ks_cells (RK.out.ext hwr) hp
      have st := fun n => ((HK.out.ext hwr).ext ((Ext.rfl' _).drewN' n)).run_str (P := Try.prog) Try.underlying40 Try.underlying5 Try.underlying9
      have HP := Lib.hid hp
      clear hp
      by_cases he : p.1 = strOfNums ks
      · have HRET : Hid (x.T.slots.lookup (strOfNums ks) = some p.2) := Lib.hid (lookup_first HP.out he HNO.out)
        rw [HRET.out]
        rw [he] at y0
        generalize strOfNums ks = sk at *
        clear he
        go_wp2_with fail
        go_quiet (fail)
        go_wp2_with fail
        go_returns
        exact ⟨rfl, hwr.drewN' _⟩
      · have hb : (p.1.toList == (strOfNums ks).toList) = false := by rw [← beq_toListBytes]; exact ba_ne he
        have HE := Lib.hid he
        clear he
        generalize hsk : strOfNums ks = sk at *
        clear hsk
        go_wp2_with fail
        go_quiet (fail)
        go_wp2_with fail
        go_roundw
        case rel => exact ⟨j + 1, by omega, by go_num, hwr.drewN' _, Lib.hid (fun q p' hq hp' => by
          by_cases e : q = j
          · subst e; rw [HP.out] at hp'; injection hp' with e; subst e; exact HE.out
          · exact HNO.out q p' (by omega) hp')⟩
        case measure => simp [intOf]; omega
    · have HRET : Hid (x.T.slots.lookup (strOfNums ks) = none) := Lib.hid (lookup_not fun q p hp => HNO.out q p (by have := (List.getElem?_eq_some_iff.1 hp).1; have := hLN.out; omega) hp)
      go_wp2_with fail
      go_returns
      exact ⟨by rw [HRET.out]; rfl, hwr⟩
theorem rpick (S : RTabs) (j : Nat) (t : TM) (h : (S.R.map (·.T))[j]? = some t) : ∃ x, S.R[j]? = some x ∧ x.T = t ∧ x ∈ S.R := by
  rw [List.getElem?_map, Option.map_eq_some_iff] at h
  obtain ⟨x, hx, rfl⟩ := h
  exact ⟨x, hx, rfl, List.mem_of_getElem? hx⟩
def RLookT (S : RTabs) (i : Int) (ks : List Int) (w : World) (e : Ending) (w' : World) : Prop :=
  e = .returned (.tuple #[.int .u64 (tlook (rview S).2 i ks).1, .int .i64 (tlook (rview S).2 i ks).2]) ∧ Ext w w'
set_option maxHeartbeats 1000000 in
theorem rtab_look (base tb : Nat) (S : RTabs) (i : Int) (kv : Value) (ks : List Int) (w : World) (h : RTabAt w base tb S) (hk : Sl w .u8 kv ks) :
    Calls Try.prog 37 #[.pointer (some ⟨tb, 0, none⟩), .int .i64 i, kv] w (RLookT S i ks w) := by
  obtain ⟨ka, kn, kc, rfl, hkn, hKN⟩ := hk.val
  have HT := Lib.hid h
  have HK := Lib.hid hk
  clear h hk
  rcases tfind_cases' (S.R.map (·.T)) i ks.length with h0 | ⟨j, t, rfl, hp, hkk⟩
  · have hr : tlook (rview S).2 i ks = (0, 1) := by rw [tlook, rview, h0]
    have HR := Lib.hid hr
    have H0 := Lib.hid h0
    clear hr h0
    go_enter Try.func37, Try.ntmps37
    go_wp2_with fail
    refine (rtab_may base tb S i _ ks w HT.out HK.out).mono ?_
    rintro e w1 ⟨rfl, rfl⟩
    rw [H0.out]
    go_wp2_with fail
    go_returns
    exact ⟨by rw [HR.out]; rfl, Ext.rfl' _⟩
  · obtain ⟨x, hx, hxt, hxm⟩ := rpick S j t hp
    have hf : tfind (S.R.map (·.T)) j ks.length = some t := tfind_at' hp hkk
    have hj8 : j < S.R.length := (List.getElem?_eq_some_iff.1 hx).1
    have h8 := HT.out.few
    have hmd := HT.out.made x hxm
    have HF := Lib.hid hf
    have HX := Lib.hid hx
    have HXT := Lib.hid hxt
    clear hf hx hxt hp hkk
    go_enter Try.func37, Try.ntmps37
    go_wp2_with fail
    refine (rtab_may base tb S j _ ks w HT.out HK.out).mono ?_
    rintro e w1 ⟨rfl, rfl⟩
    rw [HF.out]
    go_wp2_with fail
    refine (rtab_find base tb S j x _ ks _ HT.out HK.out HX.out).mono ?_
    rintro e w1 ⟨rfl, he1⟩
    cases hl : x.T.slots.lookup (strOfNums ks) with
    | none =>
      have HR : Hid (tlook (rview S).2 (j : Int) ks = (0, 0)) := Lib.hid (by rw [tlook, rview, HF.out]; simp only; rw [← HXT.out, hl])
      simp only [slotOf]
      clear hl hmd
      go_wp2_with fail
      go_returns
      exact ⟨by rw [HR.out]; rfl, he1⟩
    | some s =>
      have HR : Hid (tlook (rview S).2 (j : Int) ks = (mat (tarea j s) 0, 0)) := Lib.hid (by rw [tlook, rview, HF.out]; simp only; rw [← HXT.out, hl])
      have hs : s ≤ 1024 := hmd.2 _ (lookup_mem' hl)
      simp only [slotOf]
      clear hl hmd
      go_wp2_with fail
      refine (rtab_area j s w1 (by omega) (by omega) (by omega) (by omega)).mono ?_
      rintro e w2 ⟨rfl, rfl⟩
      go_wp2_with fail
      refine (ref_at (tarea j s) 0 _).mono ?_
      rintro e w2 ⟨rfl, rfl⟩
      go_wp2_with fail
      go_returns
      exact ⟨by rw [HR.out]; rfl, he1⟩
end Go.Proofs.Ytjimmbcihcmfoaa
