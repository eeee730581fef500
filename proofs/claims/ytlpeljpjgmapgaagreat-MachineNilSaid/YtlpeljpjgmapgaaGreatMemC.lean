/- Memory: Load. -/
import Derived.Test.YtlpeljpjgmapgaaGreatMemB
namespace Go.Proofs.YtlpeljpjgmapgaaGreat
open Go.RowKit
set_option linter.unusedVariables false
set_option linter.unusedSimpArgs false

theorem lookup_mem {α : Type} {L : List (Int × α)} {k : Int} {x : α} (h : L.lookup k = some x) : ∃ n, (n, x) ∈ L := by
  induction L with
  | nil => simp at h
  | cons y L ih =>
    by_cases e : k == y.1
    · simp [List.lookup, e] at h
      exact ⟨y.1, by rw [← h]; exact List.mem_cons_self⟩
    · simp [List.lookup, e] at h
      obtain ⟨n, hn⟩ := ih h
      exact ⟨n, List.mem_cons_of_mem _ hn⟩
theorem le_snoc (l : List Int) (x : Int) : le (l ++ [x]) = le l + 256 ^ l.length * x := by
  induction l with
  | nil => simp [le]
  | cons y l ih => simp only [List.cons_append, le, ih, List.length_cons, Int.pow_succ]; rw [Int.mul_add, Int.add_assoc]; congr 2; rw [Int.mul_comm (256 ^ l.length) 256, Int.mul_assoc]
theorem le_step {l : List Int} {k : Nat} {x : Int} (hx : l[k]? = some x) : le (l.take (k + 1)) = le (l.take k) + 256 ^ k * x := by
  have hk : k < l.length := (List.getElem?_eq_some_iff.1 hx).1
  rw [List.take_add_one, hx]
  simp only [Option.toList_some]
  rw [le_snoc, List.length_take, Nat.min_eq_left (by omega)]
theorem le_lt (l : List Int) (h : ∀ x ∈ l, 0 ≤ x ∧ x ≤ 255) : 0 ≤ le l ∧ le l < 256 ^ l.length := by
  induction l with
  | nil => simp [le]
  | cons y l ih =>
    have h1 := h y List.mem_cons_self
    have h2 := ih (fun x hx => h x (List.mem_cons_of_mem _ hx))
    simp only [le, List.length_cons, Int.pow_succ]
    omega
theorem or_high (n x : Int) (k : Nat) (hk : k ≤ 7) (hn : 0 ≤ n ∧ n < 256 ^ k) (hx : 0 ≤ x ∧ x ≤ 255) : bits .or .u64 n (IntKind.u64.wrap (x * 2 ^ (8 * k))) = n + 256 ^ k * x := by
  obtain ⟨a, rfl⟩ := Int.eq_ofNat_of_zero_le hn.1
  obtain ⟨c, rfl⟩ := Int.eq_ofNat_of_zero_le hx.1
  have hp : (2 : Nat) ^ (8 * k) = 256 ^ k := by rw [Nat.pow_mul]
  have ha : a < 2 ^ (8 * k) := by rw [hp]; have h := hn.2; have e : ((256 ^ k : Nat) : Int) = (256 : Int) ^ k := Int.natCast_pow 256 k; rw [← e] at h; exact Int.ofNat_lt.1 h
  have hc : c ≤ 255 := by omega
  have hP : 2 ^ (8 * k) ≤ 72057594037927936 := by
    calc 2 ^ (8 * k) ≤ 2 ^ 56 := Nat.pow_le_pow_right (by decide) (by omega)
      _ = 72057594037927936 := by decide
  have hb : 2 ^ (8 * k) * c ≤ 72057594037927936 * 255 := Nat.mul_le_mul hP hc
  have e1 : IntKind.u64.wrap ((c : Int) * 2 ^ (8 * k)) = ((2 ^ (8 * k) * c : Nat) : Int) := by
    rw [IntKind.wrap_u64]
    have : (c : Int) * 2 ^ (8 * k) = ((2 ^ (8 * k) * c : Nat) : Int) := by rw [Int.natCast_mul, Int.natCast_pow, Int.mul_comm]; rfl
    rw [this]; omega
  rw [e1, bits_or_u64_nat a _ (by omega) (by omega), Nat.or_comm, ← Nat.two_pow_add_eq_or_of_lt ha c, hp]
  rw [Int.natCast_add, Int.natCast_mul, Int.natCast_pow, Int.add_comm]
  rfl
theorem mread_u8 {M : Areas} (hM : ∀ q ∈ M, ∀ x ∈ q.2.bytes, 0 ≤ x ∧ x ≤ 255) (p s : Int) : (∀ x ∈ (mread M p s).1, 0 ≤ x ∧ x ≤ 255) ∧ (mread M p s).1.length ≤ s.toNat := by
  unfold mread
  split
  · simp
  · split
    · simp
    · rename_i A o hf
      split
      · simp
      · have hA : ∃ n, (n, A) ∈ M := by
          unfold mfind at hf
          split at hf
          · cases hf
          · rename_i B hB
            split at hf
            · cases hf
            · simp only [Option.some.injEq, Prod.mk.injEq] at hf
              obtain ⟨rfl, _⟩ := hf
              exact lookup_mem hB
        obtain ⟨n, hn⟩ := hA
        refine ⟨fun x hx => hM _ hn x (List.mem_of_mem_drop (List.mem_of_mem_take hx)), ?_⟩
        simp only [cutL, List.length_take]; omega
theorem MemAt.u8 {w : World} {b r : Nat} {L : List Rec} (h : MemAt w b r L) : ∀ q ∈ view L, ∀ x ∈ q.2.bytes, 0 ≤ x ∧ x ≤ 255 := by
  intro q hq x hx
  obtain ⟨y, hy, rfl⟩ := List.mem_map.1 hq
  exact (h.recs y hy).u8 x hx
def LoadAns (M : Areas) (p s : Int) (w : World) (e : Ending) (w' : World) : Prop :=
  e = .returned (.tuple #[.int .u64 (mload M p s).1, .int .i64 (mload M p s).2]) ∧ Ext w w'
set_option maxHeartbeats 1000000 in
theorem mem_load (b r : Nat) (L : List Rec) (p s : Int) (w : World) (h : MemAt w b r L) (hp : 0 ≤ p) (H : Hid (p ≤ 18446744073709551615)) :
    Calls Tryz.prog 100 #[.pointer (some ⟨b, 0, none⟩), .int .u64 p, .int .i64 s] w (LoadAns (view L) p s w) := by
  have HM := Lib.hid h
  clear h
  cases hz : sized s with
  | false =>
    have HZ := Lib.hid hz
    clear hz
    go_enter Tryz.func100, Tryz.ntmps100
    go_wp2_with fail
    refine (mem_number s _).mono ?_
    rintro e w1 ⟨rfl, rfl⟩
    rw [HZ.out]
    go_wp2_with fail
    go_returns
    exact ⟨by simp [mload, HZ.out], by (repeat (first | exact Ext.rfl' _ | assumption | refine Ext.drewN' ?_ _ | refine Ext.drew' ?_ | refine Ext.alloc' ?_ _ | refine Ext.trans' ?_ (by assumption)))⟩
  | true =>
    have HZ := Lib.hid hz
    clear hz
    go_enter Tryz.func100, Tryz.ntmps100
    go_wp2_with fail
    refine (mem_number s _).mono ?_
    rintro e w1 ⟨rfl, rfl⟩
    rw [HZ.out]
    go_wp2_with fail
    refine (mem_read b r L p s _ HM.out hp H).mono ?_
    rintro e w2 ⟨v, rfl, hv, he⟩
    have RV := Lib.hid (hv.rd (enc_int _))
    have HU := Lib.hid (mread_u8 HM.out.u8 p s)
    have HS : Hid (s.toNat ≤ 8) := by
      have := HZ.out
      simp only [sized, Bool.or_eq_true, beq_iff_eq] at this
      show _ ≤ _; omega
    clear hv
    obtain ⟨va, vn, vc, rfl, hvn, hVN⟩ := RV.out.val
    go_wp2_with fail
    go_loop [29, 10] (fun i n => ∃ k : Nat, k ≤ vn ∧ i = .int .i64 k ∧ n = .int .u64 (le ((mread (view L) p s).1.take k))) (fun i _ => vn - (intOf i).toNat)
    case atStart => exact ⟨0, Nat.zero_le _, rfl, rfl⟩
    case round =>
      obtain ⟨k, hk, rfl, rfl⟩ := hrel
      by_cases hlt : k < vn
      · obtain ⟨x, hx⟩ := at_of_lt (xs := (mread (view L) p s).1) (k := k) (by have := hVN.out; omega)
        have ia := fun W => RV.out.run_at (P := Tryz.prog) el_u8.under el_u8.size .i64 (k : Int) (by omega) (by omega) W
        have ca := RV.out.cell hx (j := 0) rfl
        simp only [Nat.mul_one, Nat.add_zero, Int.toNat_natCast] at ia ca
        have HX := Lib.hid hx
        clear hx
        have hx0 : 0 ≤ x := (HU.out.1 x (List.mem_of_getElem? HX.out)).1
        have hx1 : x ≤ 255 := (HU.out.1 x (List.mem_of_getElem? HX.out)).2
        have hk7 : k ≤ 7 := by have h1 := HU.out.2; have h2 := HS.out; have h3 := hVN.out; omega
        have hb := le_lt ((mread (view L) p s).1.take k) (fun x hx => HU.out.1 x (List.mem_of_mem_take hx))
        rw [List.length_take, Nat.min_eq_left (by have := hVN.out; omega)] at hb
        have HO := Lib.hid (or_high _ x k hk7 hb ⟨hx0, hx1⟩)
        have hb0 := hb.1
        clear hb
        go_wp2
        go_round
        case rel => exact ⟨k + 1, by omega, by go_num, by rw [HO.out, le_step HX.out]⟩
        case measure => simp [intOf]; omega
      · go_wp2
        go_returns
        refine ⟨?_, by (repeat (first | exact Ext.rfl' _ | assumption | refine Ext.drewN' ?_ _ | refine Ext.drew' ?_ | refine Ext.alloc' ?_ _ | refine Ext.trans' ?_ (by assumption)))⟩
        have e1 : (mread (view L) p s).1.take k = (mread (view L) p s).1 := List.take_of_length_le (by have := hVN.out; omega)
        simp only [mload, HZ.out, if_true]
        rw [← e1]; simp [e1]
end Go.Proofs.YtlpeljpjgmapgaaGreat
