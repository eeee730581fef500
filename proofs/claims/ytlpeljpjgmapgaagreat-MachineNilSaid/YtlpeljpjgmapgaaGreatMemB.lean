/- Memory: sizes, marks that are looked through, bytes that are cloned; Read. -/
import Derived.Test.YtlpeljpjgmapgaaGreatMemA
namespace Go.Proofs.YtlpeljpjgmapgaaGreat
open Go.RowKit
set_option linter.unusedVariables false
set_option linter.unusedSimpArgs false

theorem at_of_lt {α : Type} {xs : List α} {k : Nat} (h : k < xs.length) : ∃ x, xs[k]? = some x := ⟨xs[k], List.getElem?_eq_getElem h⟩
theorem sized_cases (n : Int) : n = 1 ∨ n = 2 ∨ n = 4 ∨ n = 8 ∨ ((n == 1) = false ∧ (n == 2) = false ∧ (n == 4) = false ∧ (n == 8) = false) := by
  simp only [beq_eq_false_iff_ne, ne_eq]; omega
set_option maxHeartbeats 400000 in
theorem mem_number (n : Int) (w : World) : Calls Tryz.prog 90 #[.int .i64 n] w fun e w' => e = .returned (.bool (sized n)) ∧ w' = w := by
  rcases sized_cases n with rfl | rfl | rfl | rfl | ⟨h1, h2, h4, h8⟩
  all_goals
    go_enter Tryz.func90, Tryz.ntmps90
    go_wp2
    go_returns
    exact ⟨ret_bool (by simp [sized, *]), rfl⟩

/-- Where a false is. -/
def IdxAns (xs : List Bool) (w : World) (e : Ending) (w' : World) : Prop := ∃ i : Int, e = .returned (.int .i64 i) ∧ w' = w ∧ (decide (0 ≤ i) = xs.contains false)
set_option maxHeartbeats 400000 in
theorem index_bool (v : Value) (xs : List Bool) (w : World) (h : Rd w 1 (fun x => [Value.bool x]) v xs) :
    Calls Tryz.prog 180 #[v, .bool false] w (IdxAns xs w) := by
  obtain ⟨a, n, c, rfl, hn, hN⟩ := h.val
  have HV := Lib.hid h
  clear h
  go_enter Tryz.func180, Tryz.ntmps180
  go_wp2
  go_loop [8] (fun i => ∃ k : Nat, k ≤ n ∧ i = .int .i64 k ∧ Hid ((xs.take k).contains false = false)) (fun i => n - (intOf i).toNat)
  case atStart => exact ⟨0, Nat.zero_le _, rfl, Lib.hid rfl⟩
  case round =>
    obtain ⟨k, hk, rfl, HK⟩ := hrel
    by_cases hlt : k < n
    · obtain ⟨x, hx⟩ := at_of_lt (xs := xs) (k := k) (by have := hN.out; omega)
      have ia := fun W => HV.out.run_at (P := Tryz.prog) el_bool.under el_bool.size .i64 (k : Int) (by omega) (by omega) W
      have ca := HV.out.cell hx (j := 0) rfl
      simp only [Nat.mul_one, Nat.add_zero, Int.toNat_natCast] at ia ca
      have HX := Lib.hid hx
      clear hx
      cases x with
      | false =>
        go_wp2
        go_returns
        refine ⟨k, rfl, rfl, ?_⟩
        have : false ∈ xs := List.mem_of_getElem? HX.out
        simp [this]
      | true =>
        go_wp2
        go_round
        case rel => exact ⟨k + 1, by omega, by go_num, Lib.hid (by rw [List.take_add_one, HX.out]; have := HK.out; simp_all)⟩
        case measure => simp [intOf]; omega
    · go_wp2
      go_returns
      refine ⟨-1, rfl, rfl, ?_⟩
      have h := HK.out
      rw [List.take_of_length_le (by have := hN.out; omega)] at h
      rw [h]; rfl
set_option maxHeartbeats 400000 in
theorem contains_bool (v : Value) (xs : List Bool) (w : World) (h : Rd w 1 (fun x => [Value.bool x]) v xs) :
    Calls Tryz.prog 171 #[v, .bool false] w fun e w' => e = .returned (.bool (xs.contains false)) ∧ w' = w := by
  have HV := Lib.hid h
  clear h
  go_enter Tryz.func171, Tryz.ntmps171
  go_wp2_with fail
  refine (index_bool v xs _ HV.out).mono ?_
  rintro e w' ⟨i, rfl, rfl, hi⟩
  have HI := Lib.hid hi
  clear hi
  go_wp2_with fail
  go_returns
  exact ⟨ret_bool HI.out, rfl⟩

/-- What a clone is: a slice of its own memory, of the same elements. -/
def CloneAns {α : Type} (e : TypeId) (sz : Nat) (enc : α → List Value) (xs : List α) (w : World) (r : Ending) (w' : World) : Prop :=
  ∃ v', r = .returned v' ∧ Own w' w.heap.size e sz enc v' xs ∧ Ext w w'

set_option maxHeartbeats 400000 in
theorem clone_u8 (v : Value) (xs : List Int) (w : World) (h : Rd w 1 (fun x => [Value.int .u8 x]) v xs) (hb : xs.length * 1 ≤ 140737488355328) :
    Calls Tryz.prog 29 #[v] w (CloneAns 5 1 (fun x => [Value.int .u8 x]) xs w) := by
  obtain ⟨a, n, c, rfl, hn, hN⟩ := h.val
  have hnil := fun W => h.run_nil (P := Tryz.prog) Tryz.underlying23 W
  have HS := Lib.hid h
  cases a with
  | none =>
    obtain ⟨rfl, rfl, rfl⟩ := h.of_isNil
    clear h
    go_enter Tryz.func29, Tryz.ntmps29
    go_wp2
    go_ret
    exact ⟨_, rfl, Own.nil _ _ _ _ _, Below.refl _ _⟩
  | some a =>
    clear h
    simp only [isNilV] at hnil
    go_enter Tryz.func29, Tryz.ntmps29
    go_wp2_with (at_builtin; refine app_own el_u8 (enc_int .u8) rfl _ _ rfl rfl (Own.made w w.heap.size _ _ _ rfl (Nat.le_refl _)) rfl (ys := xs) ?q1 ?q2 ?q3 ?q4)
    case q1 => exact HS.out.ext (by go_grown)
    case q2 => exact ⟨by simpa using hb, by simp; omega⟩
    case q3 => simp
    intro v' w1 hown hgrow hbel
    go_wp2
    go_ret
    exact ⟨v', rfl, by simpa using hown, hbel _ _ (by go_grown) (Nat.le_refl _)⟩


/-- What is read: its own memory. -/
def ReadAns (M : Areas) (p s : Int) (w : World) (e : Ending) (w' : World) : Prop :=
  ∃ v, e = .returned (.tuple #[v, .int .i64 (mread M p s).2]) ∧ Own w' w.heap.size 5 1 (fun x => [Value.int .u8 x]) v (mread M p s).1 ∧ Ext w w'
theorem read_bad {M : Areas} {p s : Int} (h : s < 0 ∨ 1024 < s) : mread M p s = ([], 1) := by rw [mread, if_pos h]
theorem read_none {M : Areas} {p s : Int} (h : ¬ (s < 0 ∨ 1024 < s)) (hf : mfind M p s = none) : mread M p s = ([], 80) := by rw [mread, if_neg h, hf]
theorem read_blank {M : Areas} {p s : Int} {A : Ar} {o : Nat} (h : ¬ (s < 0 ∨ 1024 < s)) (hf : mfind M p s = some (A, o)) (hc : (cutL A.put o s.toNat).contains false = true) : mread M p s = ([], 81) := by
  rw [mread, if_neg h, hf]; simp only [hc, if_true]
theorem read_ok {M : Areas} {p s : Int} {A : Ar} {o : Nat} (h : ¬ (s < 0 ∨ 1024 < s)) (hf : mfind M p s = some (A, o)) (hc : (cutL A.put o s.toNat).contains false = false) : mread M p s = (cutL A.bytes o s.toNat, 0) := by
  rw [mread, if_neg h, hf]; simp only [hc, Bool.false_eq_true, if_false]
theorem find_le {M : Areas} {p s : Int} {A : Ar} {o : Nat} (hp : 0 ≤ p) (hs : 0 ≤ s) (hf : mfind M p s = some (A, o)) : o + s.toNat ≤ A.bytes.length ∧ (o : Int) = p % 4294967296 := by
  unfold mfind at hf
  split at hf
  · cases hf
  · rename_i B hB
    split at hf
    · cases hf
    · rename_i hlt
      simp only [Option.some.injEq, Prod.mk.injEq] at hf
      obtain ⟨rfl, rfl⟩ := hf
      omega

set_option maxHeartbeats 1000000 in
theorem mem_read (b r : Nat) (L : List Rec) (p s : Int) (w : World) (h : MemAt w b r L) (hp : 0 ≤ p) (H : Hid (p ≤ 18446744073709551615)) :
    Calls Tryz.prog 143 #[.pointer (some ⟨b, 0, none⟩), .int .u64 p, .int .i64 s] w (ReadAns (view L) p s w) := by
  have HM := Lib.hid h
  clear h
  by_cases hbad : s < 0 ∨ 1024 < s
  · have e1 := read_bad (M := view L) (p := p) hbad
    have E1 := Lib.hid e1
    clear e1
    rcases hbad with hs | hs
    all_goals
      go_enter Tryz.func143, Tryz.ntmps143
      go_wp2_with fail
      go_returns
      exact ⟨.slice none 0 0, by rw [E1.out]; rfl, by rw [E1.out]; exact Own.nil _ _ _ _ _, by (repeat (first | exact Ext.rfl' _ | assumption | refine Ext.drewN' ?_ _ | refine Ext.drew' ?_ | refine Ext.alloc' ?_ _ | refine Ext.trans' ?_ (by assumption)))⟩
  · have HB := Lib.hid hbad
    have hs0 : 0 ≤ s := by omega
    have hs1 : s ≤ 1024 := by omega
    clear hbad
    go_enter Tryz.func143, Tryz.ntmps143
    go_wp2_with fail
    refine (mem_find b r L p s _ HM.out hp hs0 hs1 H).mono ?_
    rintro e w1 ⟨rfl, ⟨hf, rfl⟩ | ⟨x, hx, hxn, hf, rfl⟩⟩
    · have HF := Lib.hid hf
      clear hf
      go_wp2_with fail
      go_returns
      exact ⟨.slice none 0 0, by rw [read_none HB.out HF.out]; rfl, by rw [read_none HB.out HF.out]; exact Own.nil _ _ _ _ _, by (repeat (first | exact Ext.rfl' _ | assumption | refine Ext.drewN' ?_ _ | refine Ext.drew' ?_ | refine Ext.alloc' ?_ _ | refine Ext.trans' ?_ (by assumption)))⟩
    · have HF := Lib.hid hf
      have hR := HM.out.recs x hx
      have c0 := cell_obj (i := 0) hR.area
      have c1 := cell_obj (i := 1) hR.area
      obtain ⟨hle, hoo⟩ := find_le hp hs0 hf
      have hsm := hR.small
      have OB : Hid (Own w1 0 5 1 (fun x => [Value.int .u8 x]) (.slice (some ⟨x.g, 0, none⟩) x.A.bytes.length x.A.bytes.length) x.A.bytes) := Lib.hid (own_obj (enc_int .u8) hR.bytes (Nat.zero_le _) rfl (by simp only [maxLen]; omega))
      have OP : Hid (Own w1 0 4 1 (fun x => [Value.bool x]) (.slice (some ⟨x.p, 0, none⟩) x.A.bytes.length x.A.bytes.length) x.A.put) := Lib.hid (own_obj enc_bool hR.put (Nat.zero_le _) hR.len.symm (by have := hR.len; simp only [maxLen]; omega))
      have RB := Lib.hid (OB.out.rd (enc_int _))
      have RP := Lib.hid (OP.out.rd enc_bool)
      have HL := Lib.hid hR.len
      clear hf hx hxn hR OB OP
      obtain ⟨o, ho⟩ : ∃ o : Nat, (p % 4294967296).toNat = o := ⟨_, rfl⟩
      rw [ho] at hle hoo HF
      rw [← hoo]
      clear ho hoo
      have kb := fun W => RB.out.run_cut_lh (P := Tryz.prog) el_u8.under el_u8.size .i64 .i64 (o : Int) ((o : Int) + s) (by omega) (by omega) (by omega) W
      have kp := fun W => RP.out.run_cut_lh (P := Tryz.prog) el_bool.under el_bool.size .i64 .i64 (o : Int) ((o : Int) + s) (by omega) (by omega) (by omega) W
      have CB := Lib.hid (RB.out.cut (l := o) (m := o + s.toNat) (by omega) hle)
      have CP := Lib.hid (RP.out.cut (l := o) (m := o + s.toNat) (by omega) (by rw [HL.out]; exact hle))
      simp only [Int.toNat_natCast, show ((o : Int) + s).toNat = o + s.toNat from by omega] at kb kp
      simp only [show o + s.toNat - o = s.toNat from by omega] at CB CP
      go_wp2_with fail
      refine (contains_bool _ (cutL x.A.put o s.toNat) _ CP.out).mono ?_
      rintro e w2 ⟨rfl, rfl⟩
      cases hc : (cutL x.A.put o s.toNat).contains false with
      | true =>
        have HC := Lib.hid hc
        clear hc
        go_wp2_with fail
        go_returns
        exact ⟨.slice none 0 0, by rw [read_blank HB.out HF.out HC.out]; rfl, by rw [read_blank HB.out HF.out HC.out]; exact Own.nil _ _ _ _ _, by (repeat (first | exact Ext.rfl' _ | assumption | refine Ext.drewN' ?_ _ | refine Ext.drew' ?_ | refine Ext.alloc' ?_ _ | refine Ext.trans' ?_ (by assumption)))⟩
      | false =>
        have HC := Lib.hid hc
        clear hc
        go_wp2_with fail
        refine (clone_u8 _ (cutL x.A.bytes o s.toNat) _ CB.out (by simp only [cutL, List.length_take, List.length_drop]; omega)).mono ?_
        rintro e w3 ⟨v, rfl, hv, he⟩
        have HV := Lib.hid hv
        clear hv
        go_wp2_with fail
        go_returns
        exact ⟨v, by rw [read_ok HB.out HF.out HC.out]; rfl, by rw [read_ok HB.out HF.out HC.out]; exact HV.out, by (repeat (first | exact Ext.rfl' _ | assumption | refine Ext.drewN' ?_ _ | refine Ext.drew' ?_ | refine Ext.alloc' ?_ _ | refine Ext.trans' ?_ (by assumption)))⟩
end Go.Proofs.YtlpeljpjgmapgaaGreat
