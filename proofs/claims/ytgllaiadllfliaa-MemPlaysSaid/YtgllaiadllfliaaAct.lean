/- The acts of MemPlays: how they lie; few. -/
import Derived.Test.YtgllaiadllfliaaRefD
namespace Go.Proofs.Ytgllaiadllfliaa
open Go.RowKit
set_option linter.unusedVariables false
set_option linter.unusedSimpArgs false

/-- An act: its bytes as a slice (where it begins, how long, how much it may hold). -/
structure Act8 where
  kind : Int
  area : Int
  off : Int
  size : Int
  n : Int
  ba : Option Addr
  bn : Nat
  bc : Nat
  blank : Bool
  fixed : Bool
def Act8.bv (x : Act8) : Value := .slice x.ba x.bn x.bc
def Act8.enc (x : Act8) : List Value := [.int .u8 x.kind, .int .i64 x.area, .int .i64 x.off, .int .i64 x.size, .int .u64 x.n, x.bv, .bool x.blank, .bool x.fixed]
theorem enc_act : Enc 8 Act8.enc := ⟨fun _ => rfl, fun x u hu => by
  simp only [Act8.enc, List.mem_cons, List.not_mem_nil, or_false] at hu
  rcases hu with rfl | rfl | rfl | rfl | rfl | rfl | rfl | rfl <;> rfl⟩
theorem el_act : El Try.prog 40 47 8 72 (.agg #[.int .u8 0, .int .i64 0, .int .i64 0, .int .i64 0, .int .u64 0, .slice none 0 0, .bool false, .bool false]) := ⟨Try.underlying40, by kernel_rfl, rfl, by decide, fun _ => by kernel_rfl⟩
/-- What an act holds may be held. -/
structure ActOk (w : World) (x : Act8) : Prop where
  kind : 0 ≤ x.kind ∧ x.kind ≤ 255
  n : 0 ≤ x.n ∧ x.n ≤ 18446744073709551615
  bytes : ∃ xs : List Int, Sl w .u8 x.bv xs ∧ ∀ q ∈ xs, 0 ≤ q ∧ q ≤ 255
theorem act_cells {w : World} {v : Value} {L : List Act8} (R : Rd w 8 Act8.enc v L) {i : Nat} {x : Act8} (hx : L[i]? = some x) :
    w.cell? (elt v (i * 8)) = some (.int .u8 x.kind) ∧ w.cell? ⟨(elt v (i * 8)).block, (elt v (i * 8)).off + 1, none⟩ = some (.int .i64 x.area) ∧ w.cell? ⟨(elt v (i * 8)).block, (elt v (i * 8)).off + 2, none⟩ = some (.int .i64 x.off) ∧ w.cell? ⟨(elt v (i * 8)).block, (elt v (i * 8)).off + 3, none⟩ = some (.int .i64 x.size) ∧
    w.cell? ⟨(elt v (i * 8)).block, (elt v (i * 8)).off + 4, none⟩ = some (.int .u64 x.n) ∧ w.cell? ⟨(elt v (i * 8)).block, (elt v (i * 8)).off + 5, none⟩ = some x.bv ∧ w.cell? ⟨(elt v (i * 8)).block, (elt v (i * 8)).off + 6, none⟩ = some (.bool x.blank) ∧ w.cell? ⟨(elt v (i * 8)).block, (elt v (i * 8)).off + 7, none⟩ = some (.bool x.fixed) := by
  have E := R.elt_add hx
  have F : ∀ (p : Addr) (j : Nat), j ≠ 0 → (⟨p.block, p.off + j, none⟩ : Addr) = p.add j := fun p j h => by simp [Addr.add, h]
  rw [F _ 1 (by decide), F _ 2 (by decide), F _ 3 (by decide), F _ 4 (by decide), F _ 5 (by decide), F _ 6 (by decide), F _ 7 (by decide), E, E, E, E, E, E, E]
  exact ⟨R.cell hx (j := 0) rfl, R.cell hx (j := 1) rfl, R.cell hx (j := 2) rfl, R.cell hx (j := 3) rfl, R.cell hx (j := 4) rfl, R.cell hx (j := 5) rfl, R.cell hx (j := 6) rfl, R.cell hx (j := 7) rfl⟩
/-- Some of them, in a row of its own. -/
def FewAns (L : List Act8) (w : World) (e : Ending) (w' : World) : Prop :=
  ∃ v L', e = .returned v ∧ Own w' w.heap.size 47 8 Act8.enc v L' ∧ (∀ x ∈ L', x ∈ L ∧ x.bn ≤ 1100) ∧ Ext w w'
set_option maxHeartbeats 1000000 in
theorem few_any (v : Value) (L : List Act8) (w : World) (h : Rd w 8 Act8.enc v L) :
    Calls Try.prog 16 #[v] w (FewAns L w) := by
  obtain ⟨a, n, c, rfl, hn, hN⟩ := h.val
  have HL := Lib.hid h
  clear h
  go_enter Try.func16, Try.ntmps16
  go_wp2_with fail
  go_loopw [8, 3] (fun i v wr => ∃ (j : Nat) (L' : List Act8), j ≤ n ∧ i = .int .i64 j ∧ L'.length ≤ j ∧ (100 ≤ j → L'.length ≤ 100) ∧ Ext w wr ∧ (∀ x ∈ L', x ∈ L ∧ x.bn ≤ 1100) ∧ (∃ a n c, v = .slice a n c) ∧ Hid (Own wr w.heap.size 47 8 Act8.enc v L')) (fun i _ _ => n - (intOf i).toNat)
  case atStart => exact ⟨0, [], Nat.zero_le _, rfl, Nat.le_refl _, fun _ => Nat.zero_le _, Ext.rfl' _, fun x hx => by simp at hx, ⟨_, _, _, rfl⟩, Lib.hid (Own.nil _ _ _ _ _)⟩
  case round =>
    obtain ⟨j, L', hj, rfl, hl1, hl2, hwr, hmem, ⟨ra, rn, rc, rfl⟩, HO⟩ := hrel
    by_cases hlt : (j : Int) < n
    · obtain ⟨x, hx⟩ := at_of_lt (xs := L) (k := j) (by have := hN.out; omega)
      have ix := fun W => HL.out.run_at (P := Try.prog) el_act.under el_act.size .i64 (j : Int) (by omega) (by omega) W
      simp only [Int.toNat_natCast] at ix
      obtain ⟨c0, c1, c2, c3, c4, c5, c6, c7⟩ := act_cells (HL.out.ext hwr) hx
      rw [Act8.bv] at c5
      have HX := Lib.hid hx
      have HM := Lib.hid hmem
      clear hx hmem
      by_cases h1 : (j : Int) < 100
      · by_cases h2 : (x.bn : Int) ≤ 1100
        · have hal := ((Ext.rfl' wr).alloc' (.cells #[.int .u8 x.kind, .int .i64 x.area, .int .i64 x.off, .int .i64 x.size, .int .u64 x.n, .slice x.ba x.bn x.bc, .bool x.blank, .bool x.fixed] 47)).alloc' (.cells #[.int .u8 x.kind, .int .i64 x.area, .int .i64 x.off, .int .i64 x.size, .int .u64 x.n, .slice x.ba x.bn x.bc, .bool x.blank, .bool x.fixed] 47)
          go_wp2_with (at_builtin; refine app_own2 el_act enc_act rfl _ _ rfl rfl ((HO.out.alloc _).alloc _) rfl (ys := [x]) ?q1 ?q2 ?q3 ?q4)
          case q1 => exact (Own.lit enc_act (base := 0) (w := wr.alloc (.cells #[.int .u8 x.kind, .int .i64 x.area, .int .i64 x.off, .int .i64 x.size, .int .u64 x.n, .slice x.ba x.bn x.bc, .bool x.blank, .bool x.fixed] 47)) [x] (by simp) rfl (Nat.zero_le _) (by simp [maxLen])).rd enc_act
          case q2 => simp; omega
          case q3 => have := hwr.size; simp; omega
          intro v' w5 hown hgrow hmv
          have hk := (HO.out.alloc (.cells #[.int .u8 x.kind, .int .i64 x.area, .int .i64 x.off, .int .i64 x.size, .int .u64 x.n, .slice x.ba x.bn x.bc, .bool x.blank, .bool x.fixed] 47)).alloc (.cells #[.int .u8 x.kind, .int .i64 x.area, .int .i64 x.off, .int .i64 x.size, .int .u64 x.n, .slice x.ba x.bn x.bc, .bool x.blank, .bool x.fixed] 47)
          have hE5 : Ext w w5 := hk.below hgrow (hwr.trans' hal) (hwr.trans' hal).size (Nat.le_refl _)
          have HO5 := Lib.hid hown
          clear hown hgrow hmv hk hal
          obtain ⟨qa, qn, qc, rfl, hqn, hQN⟩ := (HO5.out.rd enc_act).val
          go_wp2_with fail
          go_roundw
          case rel =>
            refine ⟨j + 1, L' ++ [x], by omega, by go_num, by simp; omega, fun h => by simp; omega, hE5, fun y hy => ?_, ⟨_, _, _, rfl⟩, HO5⟩
            rcases List.mem_append.1 hy with hy | hy
            · exact HM.out y hy
            · rw [List.mem_singleton] at hy
              subst hy
              exact ⟨List.mem_of_getElem? HX.out, by omega⟩
          case measure => simp [intOf]; omega
        · go_wp2_with fail
          go_roundw
          case rel => exact ⟨j + 1, L', by omega, by go_num, by omega, fun _ => by omega, hwr.alloc' _, HM.out, ⟨_, _, _, rfl⟩, Lib.hid (HO.out.alloc _)⟩
          case measure => simp [intOf]; omega
      · go_wp2_with fail
        go_roundw
        case rel => exact ⟨j + 1, L', by omega, by go_num, by omega, fun _ => by omega, hwr.alloc' _, HM.out, ⟨_, _, _, rfl⟩, Lib.hid (HO.out.alloc _)⟩
        case measure => simp [intOf]; omega
    · have HM := Lib.hid hmem
      clear hmem
      go_wp2_with fail
      go_returns
      exact ⟨_, L', rfl, HO.out, HM.out, hwr⟩
end Go.Proofs.Ytgllaiadllfliaa
