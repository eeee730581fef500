/- The acts of layer 9: how they lie; few. -/
import Derived.Test.YtjimmbcihcmfoaaTabJ
namespace Go.Proofs.Ytjimmbcihcmfoaa
open Go.RowKit
set_option linter.unusedVariables false
set_option linter.unusedSimpArgs false

/-- An act: its bytes as slices (where they begin, how long, how much they may hold). -/
structure Act9 where
  kind : Int
  map : Int
  ka : Option Addr
  kn : Nat
  kc : Nat
  va : Option Addr
  vn : Nat
  vc : Nat
  flags : Int
def Act9.kv (x : Act9) : Value := .slice x.ka x.kn x.kc
def Act9.vv (x : Act9) : Value := .slice x.va x.vn x.vc
def Act9.enc (x : Act9) : List Value := [.int .u8 x.kind, .int .i64 x.map, x.kv, x.vv, .int .u64 x.flags]
theorem enc_act : Enc 5 Act9.enc := ⟨fun _ => rfl, fun x u hu => by
  simp only [Act9.enc, List.mem_cons, List.not_mem_nil, or_false] at hu
  rcases hu with rfl | rfl | rfl | rfl | rfl <;> rfl⟩
theorem el_act : El Try.prog 23 43 5 72 (.agg #[.int .u8 0, .int .i64 0, .slice none 0 0, .slice none 0 0, .int .u64 0]) := ⟨Try.underlying23, by kernel_rfl, rfl, by decide, fun _ => by kernel_rfl⟩
/-- What an act holds may be held. -/
structure ActOk (w : World) (x : Act9) : Prop where
  kind : 0 ≤ x.kind ∧ x.kind ≤ 255
  flags : 0 ≤ x.flags ∧ x.flags ≤ 18446744073709551615
  keys : ∃ xs : List Int, Sl w .u8 x.kv xs ∧ ∀ q ∈ xs, 0 ≤ q ∧ q ≤ 255
  vals : ∃ xs : List Int, Sl w .u8 x.vv xs ∧ ∀ q ∈ xs, 0 ≤ q ∧ q ≤ 255
theorem act_cells {w : World} {v : Value} {L : List Act9} (R : Rd w 5 Act9.enc v L) {i : Nat} {x : Act9} (hx : L[i]? = some x) :
    w.cell? (elt v (i * 5)) = some (.int .u8 x.kind) ∧ w.cell? ⟨(elt v (i * 5)).block, (elt v (i * 5)).off + 1, none⟩ = some (.int .i64 x.map) ∧ w.cell? ⟨(elt v (i * 5)).block, (elt v (i * 5)).off + 2, none⟩ = some x.kv ∧ w.cell? ⟨(elt v (i * 5)).block, (elt v (i * 5)).off + 3, none⟩ = some x.vv ∧
    w.cell? ⟨(elt v (i * 5)).block, (elt v (i * 5)).off + 4, none⟩ = some (.int .u64 x.flags) := by
  have E := R.elt_add hx
  have F : ∀ (p : Addr) (j : Nat), j ≠ 0 → (⟨p.block, p.off + j, none⟩ : Addr) = p.add j := fun p j h => by simp [Addr.add, h]
  rw [F _ 1 (by decide), F _ 2 (by decide), F _ 3 (by decide), F _ 4 (by decide), E, E, E, E]
  exact ⟨R.cell hx (j := 0) rfl, R.cell hx (j := 1) rfl, R.cell hx (j := 2) rfl, R.cell hx (j := 3) rfl, R.cell hx (j := 4) rfl⟩
/-- Some of them, in a row of its own. -/
def FewAns (L : List Act9) (w : World) (e : Ending) (w' : World) : Prop :=
  ∃ v L', e = .returned v ∧ Own w' w.heap.size 43 5 Act9.enc v L' ∧ (∀ x ∈ L', x ∈ L ∧ x.kn ≤ 80 ∧ x.vn ≤ 80) ∧ Ext w w'
def FewAns2 (L : List Act9) (w : World) (e : Ending) (w' : World) : Prop :=
  ∃ v L', e = .returned v ∧ Own w' w.heap.size 43 5 Act9.enc v L' ∧ (∀ x ∈ L', x ∈ L ∧ x.kn ≤ 80 ∧ x.vn ≤ 80) ∧ Ext w w' ∧ L'.length ≤ 150
set_option maxHeartbeats 1000000 in
theorem few_any2 (v : Value) (L : List Act9) (w : World) (h : Rd w 5 Act9.enc v L) :
    Calls Try.prog 14 #[v] w (FewAns2 L w) := by
  obtain ⟨a, n, c, rfl, hn, hN⟩ := h.val
  have HL := Lib.hid h
  clear h
  go_enter Try.func14, Try.ntmps14
  go_wp2_with fail
  go_loopw [8, 3] (fun i v wr => ∃ (j : Nat) (L' : List Act9), j ≤ n ∧ i = .int .i64 j ∧ L'.length ≤ j ∧ (150 ≤ j → L'.length ≤ 150) ∧ Ext w wr ∧ (∀ x ∈ L', x ∈ L ∧ x.kn ≤ 80 ∧ x.vn ≤ 80) ∧ (∃ a n c, v = .slice a n c) ∧ Hid (Own wr w.heap.size 43 5 Act9.enc v L')) (fun i _ _ => n - (intOf i).toNat)
  case atStart => exact ⟨0, [], Nat.zero_le _, rfl, Nat.le_refl _, fun _ => Nat.zero_le _, Ext.rfl' _, fun x hx => by simp at hx, ⟨_, _, _, rfl⟩, Lib.hid (Own.nil _ _ _ _ _)⟩
  case round =>
    obtain ⟨j, L', hj, rfl, hl1, hl2, hwr, hmem, ⟨ra, rn, rc, rfl⟩, HO⟩ := hrel
    by_cases hlt : (j : Int) < n
    · obtain ⟨x, hx⟩ := at_of_lt (xs := L) (k := j) (by have := hN.out; omega)
      have ix := fun W => HL.out.run_at (P := Try.prog) el_act.under el_act.size .i64 (j : Int) (by omega) (by omega) W
      simp only [Int.toNat_natCast] at ix
      obtain ⟨c0, c1, c2, c3, c4⟩ := act_cells (HL.out.ext hwr) hx
      rw [Act9.kv] at c2
      rw [Act9.vv] at c3
      have HX := Lib.hid hx
      have HM := Lib.hid hmem
      clear hx hmem
      by_cases h1 : (j : Int) < 150
      · by_cases h2 : (x.kn : Int) ≤ 80
        · by_cases h3 : (x.vn : Int) ≤ 80
          · have hal := ((Ext.rfl' wr).alloc' (.cells #[.int .u8 x.kind, .int .i64 x.map, .slice x.ka x.kn x.kc, .slice x.va x.vn x.vc, .int .u64 x.flags] 43)).alloc' (.cells #[.int .u8 x.kind, .int .i64 x.map, .slice x.ka x.kn x.kc, .slice x.va x.vn x.vc, .int .u64 x.flags] 43)
            go_wp2_with (at_builtin; refine app_own2 el_act enc_act rfl _ _ rfl rfl ((HO.out.alloc _).alloc _) rfl (ys := [x]) ?q1 ?q2 ?q3 ?q4)
            case q1 => exact (Own.lit enc_act (base := 0) (w := wr.alloc (.cells #[.int .u8 x.kind, .int .i64 x.map, .slice x.ka x.kn x.kc, .slice x.va x.vn x.vc, .int .u64 x.flags] 43)) [x] (by simp) rfl (Nat.zero_le _) (by simp [maxLen])).rd enc_act
            case q2 => simp; omega
            case q3 => have := hwr.size; simp; omega
            intro v' w5 hown hgrow hmv
            have hk := (HO.out.alloc (.cells #[.int .u8 x.kind, .int .i64 x.map, .slice x.ka x.kn x.kc, .slice x.va x.vn x.vc, .int .u64 x.flags] 43)).alloc (.cells #[.int .u8 x.kind, .int .i64 x.map, .slice x.ka x.kn x.kc, .slice x.va x.vn x.vc, .int .u64 x.flags] 43)
            have hE5 : Ext w w5 := hk.below hgrow (hwr.trans' hal) (hwr.trans' hal).size (Nat.le_refl _)
            have HO5 := Lib.hid hown
            clear hown hgrow hmv hk hal
            obtain ⟨qa, qn, qc, rfl, hqn, hQN⟩ := (HO5.out.rd enc_act).val
            go_wp2_with fail
            go_roundw
            case rel =>
              refine ⟨j + 1, L' ++ [x], by omega, by go_num, by simp; omega, fun h => by simp; omega, hE5, fun y hy => ?_, ⟨_, _, _, rfl⟩, HO5⟩
              rcases List.mem_append.1 hy with hy | hy
              · exact HM.out y hy
              · rw [List.mem_singleton] at hy
                subst hy
                exact ⟨List.mem_of_getElem? HX.out, by omega, by omega⟩
            case measure => simp [intOf]; omega
          · go_wp2_with fail
            go_roundw
            case rel => exact ⟨j + 1, L', by omega, by go_num, by omega, fun _ => by omega, hwr.alloc' _, HM.out, ⟨_, _, _, rfl⟩, Lib.hid (HO.out.alloc _)⟩
            case measure => simp [intOf]; omega
        · go_wp2_with fail
          go_roundw
          case rel => exact ⟨j + 1, L', by omega, by go_num, by omega, fun _ => by omega, hwr.alloc' _, HM.out, ⟨_, _, _, rfl⟩, Lib.hid (HO.out.alloc _)⟩
          case measure => simp [intOf]; omega
      · go_wp2_with fail
        go_roundw
        case rel => exact ⟨j + 1, L', by omega, by go_num, by omega, fun _ => by omega, hwr.alloc' _, HM.out, ⟨_, _, _, rfl⟩, Lib.hid (HO.out.alloc _)⟩
        case measure => simp [intOf]; omega
    · have HM := Lib.hid hmem
      clear hmem
      go_wp2_with fail
      go_returns
      exact ⟨_, L', rfl, HO.out, HM.out, hwr, by by_cases h : 150 ≤ j; exact hl2 h; omega⟩
theorem few_any (v : Value) (L : List Act9) (w : World) (h : Rd w 5 Act9.enc v L) : Calls Try.prog 14 #[v] w (FewAns L w) := by
  refine (few_any2 v L w h).mono ?_
  rintro e w' ⟨v, L', h1, h2, h3, h4, h5⟩
  exact ⟨v, L', h1, h2, h3, h4⟩
end Go.Proofs.Ytjimmbcihcmfoaa
