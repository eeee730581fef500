/- Maps of layer 9: what they are, as plain data; how they lie in the heap; find. -/
import Derived.Test.YtjimmbcihcmfoaaMemG
import Derived.Test.YtjimmbcihcmfoaaSMap
import Derived.Test.YtjimmbcihcmfoaaApp
import Derived.Test.YtjimmbcihcmfoaaStr
namespace Go.Proofs.Ytjimmbcihcmfoaa
open Go.RowKit
set_option linter.unusedVariables false
set_option linter.unusedSimpArgs false

/-- A map: what it is, its keys' slots in the order in which they came, how many came to be. -/
structure TM where
  hash : Bool
  key : Int
  val : Int
  max : Int
  slots : List (ByteArray × Nat)
  made : Nat
def TM.strs (T : TM) : Strs := T.slots.map fun p => (p.1, .int .i64 (p.2 : Int))
/-- Where a map lies: its struct's block, its slots'. -/
structure TRec where
  a : Nat
  r : Nat
  T : TM
def TRec.cells (x : TRec) : Array Value := #[.bool x.T.hash, .int .i64 x.T.key, .int .i64 x.T.val, .int .i64 x.T.max, .map (some x.r), .int .i64 x.T.made]
def TRec.blocks (x : TRec) : List Nat := [x.a, x.r]
abbrev encT : TRec → List Value := fun x => [.pointer (some ⟨x.a, 0, none⟩)]
theorem enc_t : Enc 1 encT := ⟨fun _ => rfl, fun x u hu => by simp at hu; subst hu; rfl⟩
theorem el_one : El Try.prog 73 76 1 8 (.pointer none) := ⟨Try.underlying73, by kernel_rfl, rfl, by decide, fun _ => by kernel_rfl⟩
/-- Maps and their memory. -/
structure Tabs where
  b : Nat
  r : Nat
  L : List Rec
  mv : Value
  R : List TRec
def tfoot (tb : Nat) (S : Tabs) : List Nat := tb :: (S.mv.ownBlock.toList ++ (S.R.flatMap TRec.blocks ++ foot S.b S.r S.L))
structure TabAt (w : World) (base tb : Nat) (S : Tabs) : Prop where
  head : w.heap[tb]? = some (.cells #[.pointer (some ⟨S.b, 0, none⟩), S.mv] 75 (0, 0))
  low : base ≤ tb
  maps : Own w base 76 1 encT S.mv S.R
  ones : ∀ x ∈ S.R, w.heap[x.a]? = some (.cells x.cells 79 (0, 0))
  slots : ∀ x ∈ S.R, SMap w x.r x.T.strs
  mem : MemAt w S.b S.r S.L
  apart : (tfoot tb S).Nodup
  few : S.R.length ≤ 8
  made : ∀ x ∈ S.R, x.T.made ≤ 1024 ∧ ∀ p ∈ x.T.slots, p.2 ≤ 1024
theorem TabAt.keep {F : List Nat} {w w' : World} {base tb : Nat} {S : Tabs} (h : TabAt w base tb S) (k : Keep F w w') (hF : ∀ j ∈ tfoot tb S, j ∉ F) : TabAt w' base tb S := by
  have hm : ∀ x ∈ S.R, ∀ j ∈ TRec.blocks x, j ∉ F := fun x hx j hj => hF j (by simp only [tfoot, List.mem_cons, List.mem_append, List.mem_flatMap]; exact .inr (.inr (.inl ⟨x, hx, hj⟩)))
  exact ⟨k.obj h.head (hF _ (by simp [tfoot])), h.low, h.maps.keep k (fun j hj => hF j (by simp [tfoot, hj])), fun x hx => k.obj (h.ones x hx) (hm x hx _ (by simp [TRec.blocks])), fun x hx => (h.slots x hx).keep k (hm x hx _ (by simp [TRec.blocks])),
    h.mem.keep k (fun j hj => hF j (by simp only [tfoot, List.mem_cons, List.mem_append]; exact .inr (.inr (.inr hj)))), h.apart, h.few, h.made⟩
theorem TabAt.ext {w w' : World} {base tb : Nat} {S : Tabs} (h : TabAt w base tb S) (k : Ext w w') : TabAt w' base tb S :=
  h.keep (F := []) (Keep.of_ext k) (fun _ _ => by simp)
theorem TabAt.lt {w : World} {base tb : Nat} {S : Tabs} (h : TabAt w base tb S) : ∀ j ∈ tfoot tb S, j < w.heap.size := by
  intro j hj
  simp only [tfoot, List.mem_cons, List.mem_append, List.mem_flatMap, Option.mem_toList] at hj
  rcases hj with rfl | hj | ⟨x, hx, hj⟩ | hj
  · exact heap_lt h.head
  · exact (h.maps.lt hj).2
  · simp only [TRec.blocks, List.mem_cons, List.not_mem_nil, or_false] at hj
    rcases hj with rfl | rfl
    · exact heap_lt (h.ones x hx)
    · exact (h.slots x hx).lt
  · exact h.mem.lt j hj

theorem zero_int (W : World) : (zeroValue 3).run Try.prog W = .ok (.int .i64 0) W := by kernel_rfl
theorem lookup_strs (T : TM) (s : ByteArray) : T.strs.lookup s = (T.slots.lookup s).map fun n => .int .i64 (n : Int) := by
  unfold TM.strs
  induction T.slots with
  | nil => rfl
  | cons p l ih =>
    obtain ⟨m, n⟩ := p
    by_cases h : s = m
    · subst h; simp [List.lookup]
    · simp only [List.map_cons, List.lookup, ba_ne h]; exact ih
theorem lookup_mem' {α : Type} {L : List (ByteArray × α)} {s : ByteArray} {v : α} (h : L.lookup s = some v) : (s, v) ∈ L := by
  induction L with
  | nil => simp at h
  | cons p L ih =>
    obtain ⟨m, u⟩ := p
    by_cases hm : s = m
    · subst hm; simp [List.lookup] at h; subst h; exact List.mem_cons_self
    · simp only [List.lookup, ba_ne hm] at h; exact List.mem_cons_of_mem _ (ih h)

/-- The map i, if there is one. -/
def pick {α : Type} (L : List α) (i : Int) : Option α := if i < 0 then none else L[i.toNat]?
/-- What find tells. -/
def FindT (S : Tabs) (i : Int) (n : Nat) (s : ByteArray) (w : World) (e : Ending) (w' : World) : Prop :=
  Ext w w' ∧ (((∀ x, pick S.R i = some x → ((n : Int) == x.T.key) = false) ∧ e = .returned (.tuple #[.pointer none, .int .i64 0, .bool false, .int .i64 1])) ∨
    ∃ x, pick S.R i = some x ∧ (n : Int) = x.T.key ∧ e = .returned (.tuple #[.pointer (some ⟨x.a, 0, none⟩), .int .i64 (((x.T.slots.lookup s).getD 0 : Nat) : Int), .bool (x.T.slots.lookup s).isSome, .int .i64 0]))
set_option maxRecDepth 20000 in
set_option maxHeartbeats 1000000 in
theorem tab_find (base tb : Nat) (S : Tabs) (i : Int) (kv : Value) (ks : List Int) (w : World) (h : TabAt w base tb S) (hk : Sl w .u8 kv ks) :
    Calls Try.prog 43 #[.pointer (some ⟨tb, 0, none⟩), .int .i64 i, kv] w (FindT S i ks.length (strOfNums ks) w) := by
  obtain ⟨ka, kn, kc, rfl, hkn, hKN⟩ := hk.val
  have HK := Lib.hid hk
  have HT := Lib.hid h
  have hb1 := cell_obj (i := 1) h.head
  simp only [List.getElem?_toArray, List.getElem?_cons_zero, List.getElem?_cons_succ] at hb1
  have RM := Lib.hid (h.maps.rd enc_t)
  obtain ⟨ma, mn, mc, hmv, hmn, hMN⟩ := RM.out.val
  rw [hmv] at hb1 RM
  have HMV := Lib.hid hmv
  clear hk h hmv
  by_cases h0 : i < 0
  · go_enter Try.func43, Try.ntmps43
    go_wp2_with fail
    go_returns
    exact ⟨by (repeat (first | exact Ext.rfl' _ | assumption | refine Ext.drewN' ?_ _ | refine Ext.drew' ?_ | refine Ext.alloc' ?_ _ | refine Ext.trans' ?_ (by assumption))), .inl ⟨fun x hx => by simp [pick, h0] at hx, rfl⟩⟩
  · by_cases h1 : (mn : Int) ≤ i
    · go_enter Try.func43, Try.ntmps43
      go_wp2_with fail
      go_returns
      refine ⟨by (repeat (first | exact Ext.rfl' _ | assumption | refine Ext.drewN' ?_ _ | refine Ext.drew' ?_ | refine Ext.alloc' ?_ _ | refine Ext.trans' ?_ (by assumption))), .inl ⟨fun x hx => ?_, rfl⟩⟩
      rw [pick, if_neg (by omega)] at hx
      have := (List.getElem?_eq_some_iff.1 hx).1
      have := hMN.out
      omega
    · obtain ⟨x, hx⟩ := at_of_lt (xs := S.R) (k := i.toNat) (by have := hMN.out; omega)
      have hmem := List.mem_of_getElem? hx
      have hp : pick S.R i = some x := by simp only [pick, h0, if_false]; exact hx
      have HP := Lib.hid hp
      have o1 := HT.out.ones x hmem
      have k1 := cell_obj (i := 1) o1
      have k4 := cell_obj (i := 4) o1
      simp only [TRec.cells, List.getElem?_toArray, List.getElem?_cons_zero, List.getElem?_cons_succ] at k1 k4
      have cm := RM.out.cell hx (j := 0) rfl
      have im := fun W => RM.out.run_at (P := Try.prog) el_one.under el_one.size .i64 i (by omega) (by omega) W
      simp only [Nat.mul_one, Nat.add_zero] at cm im
      have hi0 : decide (i < 0) = false := by simpa using h0
      have hi1 : decide ((mn : Int) ≤ i) = false := by simpa using h1
      have hle : 0 ≤ i := by omega
      have hlt : i < (mn : Int) := by omega
      by_cases h2 : (kn : Int) = x.T.key
      · have d2 : ((kn : Int) != x.T.key) = false := by simpa using h2
        have HEQ := Lib.hid h2
        have hxd := Ext.drew' (Ext.rfl' w)
        have st := (HK.out.ext hxd).run_str (P := Try.prog) Try.underlying40 Try.underlying5 Try.underlying9
        have lk := (run_lookup_str (P := Try.prog) Try.underlying77 Try.underlying9 zero_int ((HT.out.slots x hmem).ext hxd) (strOfNums ks)).2
        have e1 : ((x.T.strs).lookup (strOfNums ks)).getD (.int .i64 0) = .int .i64 (((x.T.slots.lookup (strOfNums ks)).getD 0 : Nat) : Int) := by
          rw [lookup_strs]; cases x.T.slots.lookup (strOfNums ks) <;> rfl
        have e2 : ((x.T.strs).lookup (strOfNums ks)).isSome = (x.T.slots.lookup (strOfNums ks)).isSome := by rw [lookup_strs]; simp
        rw [e1, e2] at lk
        have d1 := hxd.cellOf hb1
        have dm := hxd.cellOf cm
        have d4 := hxd.cellOf k4
        clear o1 hmem hx h2 hp hxd e1 e2
        go_enter Try.func43, Try.ntmps43
        go_wp2_with fail
        go_region_held3 (fun w' => w'.cell? ⟨tb, 1, none⟩ = some (.slice ma mn mc) ∧ w'.cell? (elt (.slice ma mn mc) i.toNat) = some (.pointer (some ⟨x.a, 0, none⟩)) ∧ w'.cell? ⟨x.a, 4, none⟩ = some (.map (some x.r)) ∧ (convert 40 9 (.slice ka kn kc)).run Try.prog w' = .ok (.string (strOfNums ks)) w' ∧ (Instr.lookup 77 (.map (some x.r)) (.string (strOfNums ks)) true).run Try.prog w' = .ok (.tuple #[.int .i64 (((x.T.slots.lookup (strOfNums ks)).getD 0 : Nat) : Int), .bool (x.T.slots.lookup (strOfNums ks)).isSome]) w')
          (exact ⟨d1, dm, d4, st, lk⟩) (skip)
        go_wp2_with fail
        go_returns
        exact ⟨by (repeat (first | exact Ext.rfl' _ | assumption | refine Ext.drewN' ?_ _ | refine Ext.drew' ?_ | refine Ext.alloc' ?_ _ | refine Ext.trans' ?_ (by assumption))), .inr ⟨x, HP.out, by have := hKN.out; have := HEQ.out; omega, rfl⟩⟩
      · have d2 : ((kn : Int) != x.T.key) = true := by simpa using h2
        have HEQ := Lib.hid h2
        clear o1 k4 hmem hx h2 hp
        go_enter Try.func43, Try.ntmps43
        go_wp2_with fail
        go_returns
        refine ⟨by (repeat (first | exact Ext.rfl' _ | assumption | refine Ext.drewN' ?_ _ | refine Ext.drew' ?_ | refine Ext.alloc' ?_ _ | refine Ext.trans' ?_ (by assumption))), .inl ⟨fun y hy => ?_, rfl⟩⟩
        rw [HP.out] at hy
        injection hy with hy
        subst hy
        have := hKN.out
        simpa [this] using HEQ.out
end Go.Proofs.Ytjimmbcihcmfoaa
