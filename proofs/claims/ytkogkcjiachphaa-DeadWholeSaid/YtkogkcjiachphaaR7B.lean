/- hackleref07: sizes, memory. -/
import Derived.Test.YtkogkcjiachphaaR7A
namespace Go.Proofs.Ytkogkcjiachphaa
open Go.RowKit
set_option linter.unusedVariables false
set_option linter.unusedSimpArgs false

def sizesF : List Int → List Int → Int → Int
  | n :: ns, x :: xs, y => if x = y then n else sizesF ns xs y
  | _, _, _ => 0
theorem rd_is (w : World) (xs : List Int) (b n : Nat) (hb : b = w.heap.size) (hn : n = xs.length) (hl : xs.length ≤ 1000) : Rd (w.alloc (.cells (xs.flatMap fun x => [Value.int .i64 x]).toArray 3)) 1 (fun x => [Value.int .i64 x]) (.slice (some ⟨b, 0, none⟩) n n) xs :=
  (Own.lit (enc_int .i64) (base := 0) (w := w) xs hb hn (Nat.zero_le _) (by simp [maxLen]; omega)).rd (enc_int _)
theorem sizesF_step {ns xs : List Int} {y n x : Int} {k : Nat} (hn : ns[k]? = some n) (hx : xs[k]? = some x) : sizesF (ns.drop k) (xs.drop k) y = if x = y then n else sizesF (ns.drop (k + 1)) (xs.drop (k + 1)) y := by
  obtain ⟨h1, rfl⟩ := List.getElem?_eq_some_iff.1 hn
  obtain ⟨h2, rfl⟩ := List.getElem?_eq_some_iff.1 hx
  rw [List.drop_eq_getElem_cons h1, List.drop_eq_getElem_cons h2, sizesF]
theorem sizesF_nil (ns : List Int) (y : Int) : sizesF ns [] y = 0 := by cases ns <;> rfl
set_option maxHeartbeats 1000000 in
theorem r_sizes (v : Value) (xs : List Int) (y : Int) (w : World) (h : Rd w 1 encU v xs) (hl : xs.length ≤ 4) :
    Calls Try.prog 107 #[v, .int .u8 y] w fun e w' => e = .returned (.int .i64 (sizesF [4, 2, 1, 8] xs y)) ∧ Ext w w' := by
  obtain ⟨a, n, c, rfl, hn, hN⟩ := h.val
  have hn4 : n ≤ 4 := by rw [hN.out]; exact hl
  have HV := Lib.hid h
  clear h hl
  go_enter Try.func107, Try.ntmps107
  go_upto_region 1 with fail
  go_cut [5] (fun v5 wx => v5 = .slice (some ⟨w.heap.size, 0, none⟩) 4 4 ∧ Hid (Ext w wx ∧ Rd wx 1 (fun x => [Value.int .i64 x]) v5 [4, 2, 1, 8]))
  case first =>
    go_wp2_with fail
    go_meet
    exact ⟨rfl, Lib.hid ⟨by (repeat (first | exact Ext.rfl' _ | assumption | refine Ext.drewN' ?_ _ | refine Ext.drew' ?_ | refine Ext.alloc' ?_ _ | refine Ext.trans' ?_ (by assumption))), rd_is w [4, 2, 1, 8] _ _ rfl rfl (by decide)⟩⟩
  case rest =>
    obtain ⟨rfl, HR⟩ := hcut
    have HV2 := Lib.hid (HV.out.ext HR.out.1)
    have HE := Lib.hid HR.out.1
    have HM := Lib.hid HR.out.2
    obtain ⟨am, cm, hvm⟩ : ∃ am cm, am = some (⟨w.heap.size, 0, none⟩ : Addr) ∧ cm = 4 := ⟨_, _, rfl, rfl⟩
    clear HR
    go_wp2
    go_loop [6] (fun i => ∃ k : Nat, k ≤ n ∧ i = .int .i64 k ∧ Hid (sizesF [4, 2, 1, 8] xs y = sizesF ([4, 2, 1, 8].drop k) (xs.drop k) y)) (fun i => n - (intOf i).toNat)
    case atStart => exact ⟨0, Nat.zero_le _, rfl, Lib.hid rfl⟩
    case round =>
      obtain ⟨k, hk, rfl, HK⟩ := hrel
      by_cases hlt : k < n
      · obtain ⟨x, hx⟩ := at_of_lt (xs := xs) (k := k) (by have := hN.out; omega)
        obtain ⟨m, hm⟩ := at_of_lt (xs := [(4 : Int), 2, 1, 8]) (k := k) (by simp; omega)
        have ia := fun W => HV2.out.run_at (P := Try.prog) el_u8.under el_u8.size .i64 (k : Int) (by omega) (by omega) W
        have ca := HV2.out.cell hx (j := 0) rfl
        have ib := fun W => HM.out.run_at (P := Try.prog) el_int.under el_int.size .i64 (k : Int) (by omega) (by omega) W
        have cb := HM.out.cell hm (j := 0) rfl
        simp only [Nat.mul_one, Nat.add_zero, Int.toNat_natCast] at ia ca ib cb
        have HST := Lib.hid (HK.out.trans (sizesF_step hm hx))
        clear hx hm
        by_cases hy : x = y
        · have hb : (x == y) = true := by simpa using hy
          have HR2 : Hid (sizesF [4, 2, 1, 8] xs y = m) := Lib.hid (by rw [HST.out, if_pos hy])
          clear hy
          go_wp2
          go_returns
          exact ⟨by rw [HR2.out]; rfl, HE.out⟩
        · have hb : (x == y) = false := by simpa using hy
          have HR2 := HST.out
          rw [if_neg hy] at HR2
          have HR3 := Lib.hid HR2
          clear hy HR2
          go_wp2
          go_round
          case rel => exact ⟨k + 1, by omega, by go_num, Lib.hid HR3.out⟩
          case measure => simp [intOf]; omega
      · have HR2 : Hid (sizesF [4, 2, 1, 8] xs y = 0) := Lib.hid (by rw [HK.out, List.drop_eq_nil_of_le (show xs.length ≤ k by have := hN.out; omega), sizesF_nil])
        go_wp2
        go_returns
        exact ⟨by rw [HR2.out]; rfl, HE.out⟩
theorem r_sizesL (xs : List Int) (y : Int) (w W : World) (b n : Nat) (hW : W = w.alloc (.cells (xs.flatMap encU).toArray 5)) (hb : b = w.heap.size) (hn : n = xs.length) (hl : xs.length ≤ 4) (z : Int) (hz : sizesF [4, 2, 1, 8] xs y = z) :
    Calls Try.prog 107 #[.slice (some ⟨b, 0, none⟩) n n, .int .u8 y] W fun e w' => e = .returned (.int .i64 z) ∧ Ext W w' := by
  subst hW; subst hz
  exact r_sizes _ xs y _ (rd_u8s w xs b n hb hn (by omega)) hl
theorem r_onlyX (x : Ins) (s o i z : Bool) (w : World) (hz : onlyS x s o i = z) : Calls Try.prog 94 #[x.agg, .bool s, .bool o, .bool i] w fun e w' => e = .returned (.bool z) ∧ Ext w w' :=
  (r_onlyE x s o i z w hz).mono fun e w' ⟨he, hw⟩ => ⟨he, by subst hw; exact Ext.alloc' (Ext.rfl' _) _⟩
def szL (op : Int) : Int := sizesF [4, 2, 1, 8] [97, 105, 113, 121] op
def szS (op : Int) : Int := sizesF [4, 2, 1, 8] [129, 137, 145] op
def szT (op : Int) : Int := sizesF [4, 2, 1, 8] [98, 106, 114, 122] op
def szU (op : Int) : Int := sizesF [4, 2, 1, 8] [99, 107, 115, 123] op
def memR (x : Ins) : Option Wh :=
  if 0 < szL x.op + szS x.op then (if ((x.dst != 10) && onlyS x true true false) = true then some ⟨5, 0, false, false, decide (szS x.op > 0), szL x.op + szS x.op⟩ else none)
  else if 0 < szT x.op then (if onlyS x false true true = true then some ⟨6, 0, false, false, false, szT x.op⟩ else none)
  else if 0 < szU x.op then (if onlyS x true true false = true then some ⟨7, 0, false, true, false, szU x.op⟩ else none)
  else if (x.op == 195 || x.op == 219) = true then (if (x.imm == 0 || (x.imm == 64 || (x.imm == 80 || x.imm == 160))) = true then some ⟨8, x.imm % 256, false, true, false, if (x.op == 219) = true then 8 else 4⟩ else none)
  else none
theorem sz_bound (op : Int) (h : 0 ≤ op ∧ op ≤ 255) : (0 ≤ szL op ∧ szL op ≤ 8) ∧ (0 ≤ szS op ∧ szS op ≤ 8) ∧ (0 ≤ szT op ∧ szT op ≤ 8) ∧ (0 ≤ szU op ∧ szU op ≤ 8) :=
  byte_all (fun op => (0 ≤ szL op ∧ szL op ≤ 8) ∧ (0 ≤ szS op ∧ szS op ≤ 8) ∧ (0 ≤ szT op ∧ szT op ≤ 8) ∧ (0 ≤ szU op ∧ szU op ≤ 8)) (by decide +kernel) op h
theorem mem_moves (x : Ins) (h : x.Ok) (hc : x.op % 8 = 0 ∨ x.op % 8 = 1 ∨ x.op % 8 = 2 ∨ x.op % 8 = 3) : memR x = if x.op % 8 = 0 then none else movesS x := by
  have e0 := byte_all (fun op => op % 8 = 0 → szL op + szS op = 0 ∧ szT op = 0 ∧ szU op = 0 ∧ (op == 195 || op == 219) = false) (by decide +kernel) x.op h.op
  have e1 := byte_all (fun op => op % 8 = 1 → ((0 < szL op + szS op) ↔ (op / 32 * 32 = 96 ∨ (op / 32 * 32 = 128 ∧ sizeS op < 8))) ∧ (0 < szL op + szS op → szL op + szS op = sizeS op) ∧ decide (szS op > 0) = ((op / 32 * 32 == 128) && decide (sizeS op < 8)) ∧ szT op = 0 ∧ szU op = 0 ∧ (op == 195 || op == 219) = false) (by decide +kernel) x.op h.op
  have e2 := byte_all (fun op => op % 8 = 2 → szL op + szS op = 0 ∧ ((0 < szT op) ↔ op / 32 * 32 = 96) ∧ (0 < szT op → szT op = sizeS op) ∧ szU op = 0 ∧ (op == 195 || op == 219) = false) (by decide +kernel) x.op h.op
  have e3 := byte_all (fun op => op % 8 = 3 → szL op + szS op = 0 ∧ szT op = 0 ∧ ((0 < szU op) ↔ op / 32 * 32 = 96) ∧ (0 < szU op → szU op = sizeS op) ∧ ((op == 195 || op == 219) = true ↔ (op / 32 * 32 = 192 ∧ 4 ≤ sizeS op)) ∧ ((op == 195 || op == 219) = true → (if (op == 219) = true then (8 : Int) else 4) = sizeS op)) (by decide +kernel) x.op h.op
  unfold memR movesS
  rcases hc with hc | hc | hc | hc
  · obtain ⟨a1, a2, a3, a4⟩ := e0 hc
    rw [a1, a2, a3, a4, hc]
    rfl
  · obtain ⟨a1, a2, a3, a4, a5, a6⟩ := e1 hc
    rw [hc, a4, a5, a6]
    simp only [if_true, show ¬ (1 : Int) = 0 by decide, if_false]
    by_cases hg : 0 < szL x.op + szS x.op
    · rw [if_pos hg, a2 hg, a3]
      have g := a1.1 hg
      have gs : ((x.op / 32 * 32 == 128) && decide (sizeS x.op < 8)) = (x.op / 32 * 32 == 128) := by
        rcases g with g | g
        · rw [g]; rfl
        · rw [decide_eq_true g.2, Bool.and_true]
      rw [gs]
      have : ((x.dst != 10) && onlyS x true true false) = true ↔ (x.dst ≠ 10 ∧ x.imm = 0 ∧ (x.op / 32 * 32 = 96 ∨ (x.op / 32 * 32 = 128 ∧ sizeS x.op < 8))) := by
        unfold onlyS
        simp [g]
      by_cases hq : ((x.dst != 10) && onlyS x true true false) = true
      · rw [if_pos hq, if_pos (this.1 hq)]
      · rw [if_neg hq, if_neg (fun h => hq (this.2 h))]
    · rw [if_neg hg, if_neg (by decide), if_neg (by decide), if_neg (by decide), if_neg (fun h => hg (a1.2 h.2.2))]
  · obtain ⟨a1, a2, a3, a4, a5⟩ := e2 hc
    rw [hc, a1, a4, a5]
    simp only [if_true, show ¬ (2 : Int) = 0 by decide, show ¬ (2 : Int) = 1 by decide, show ¬ (0 : Int) < 0 by decide, if_false]
    by_cases hg : 0 < szT x.op
    · rw [if_pos hg, a3 hg]
      have g := a2.1 hg
      unfold onlyS
      simp [g]
    · rw [if_neg hg, if_neg (by decide), if_neg (fun h => hg (a2.2 h.1))]
  · obtain ⟨a1, a2, a3, a4, a5, a6⟩ := e3 hc
    rw [hc, a1, a2]
    simp only [if_true, show ¬ (3 : Int) = 0 by decide, show ¬ (3 : Int) = 1 by decide, show ¬ (3 : Int) = 2 by decide, show ¬ (0 : Int) < 0 by decide, if_false]
    by_cases hg : 0 < szU x.op
    · rw [if_pos hg, a4 hg, if_pos (a3.1 hg)]
      unfold onlyS
      simp
    · rw [if_neg hg, if_neg (fun h => hg (a3.2 h))]
      by_cases hk : (x.op == 195 || x.op == 219) = true
      · rw [if_pos hk, a6 hk]
        have g := a5.1 hk
        simp [g.1, g.2]
      · rw [if_neg hk, if_neg (fun h => hk (a5.2 ⟨h.1, h.2.1⟩))]
end Go.Proofs.Ytkogkcjiachphaa
