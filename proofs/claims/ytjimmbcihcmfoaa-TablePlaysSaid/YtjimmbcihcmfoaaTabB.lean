/- Maps of layer 9: Area, Look, Drop. -/
import Derived.Test.YtjimmbcihcmfoaaTab
import Derived.Deep.RegionLaw
namespace Go.Proofs.Ytjimmbcihcmfoaa
open Go.RowKit
set_option linter.unusedVariables false
set_option linter.unusedSimpArgs false

def tview (S : Tabs) : Areas × List TM := (view S.L, S.R.map (·.T))
theorem pick_map {α β : Type} (f : α → β) (L : List α) (i : Int) : pick (L.map f) i = (pick L i).map f := by
  unfold pick
  split
  · rfl
  · rw [List.getElem?_map]
/-- The map i, if it has keys of so many bytes. -/
def tfind (T : List TM) (i : Int) (n : Nat) : Option TM := (pick T i).bind fun t => if (n : Int) = t.key then some t else none
def tarea (i slot : Int) : Int := 4096 + 1024 * i + slot
def tlook (T : List TM) (i : Int) (ks : List Int) : Int × Int :=
  match tfind T i ks.length with
  | none => (0, 1)
  | some t => match t.slots.lookup (strOfNums ks) with | none => (0, 0) | some s => (mat (tarea i s) 0, 0)
def tdrop (T : List TM) (i : Int) (ks : List Int) : List TM × Int × Int :=
  match tfind T i ks.length with
  | none => (T, 0, 1)
  | some t => if t.hash = false then (T, 18446744073709551594, 0) else
    match t.slots.lookup (strOfNums ks) with
    | none => (T, 18446744073709551614, 0)
    | some _ => (T.set i.toNat { t with slots := t.slots.eraseP fun p => p.1 == strOfNums ks }, 0, 0)
theorem FindT.cases {S : Tabs} {i : Int} {ks : List Int} {w w' : World} {e : Ending} (h : FindT S i ks.length (strOfNums ks) w e w') : Ext w w' ∧
    ((tfind (S.R.map (·.T)) i ks.length = none ∧ e = .returned (.tuple #[.pointer none, .int .i64 0, .bool false, .int .i64 1])) ∨
    ∃ x, pick S.R i = some x ∧ tfind (S.R.map (·.T)) i ks.length = some x.T ∧ x ∈ S.R ∧ 0 ≤ i ∧ i.toNat < S.R.length ∧ S.R[i.toNat]? = some x ∧ e = .returned (.tuple #[.pointer (some ⟨x.a, 0, none⟩), .int .i64 (((x.T.slots.lookup (strOfNums ks)).getD 0 : Nat) : Int), .bool (x.T.slots.lookup (strOfNums ks)).isSome, .int .i64 0])) := by
  obtain ⟨he, h | ⟨x, hx, hk, rfl⟩⟩ := h
  · refine ⟨he, .inl ⟨?_, h.2⟩⟩
    unfold tfind
    rw [pick_map]
    cases hp : pick S.R i with
    | none => rfl
    | some x =>
      have := h.1 x hp
      simp at this
      simp [this]
  · have h0 : 0 ≤ i ∧ S.R[i.toNat]? = some x := by
      unfold pick at hx
      split at hx
      · cases hx
      · exact ⟨by omega, hx⟩
    refine ⟨he, .inr ⟨x, hx, ?_, List.mem_of_getElem? h0.2, h0.1, (List.getElem?_eq_some_iff.1 h0.2).1, h0.2, rfl⟩⟩
    unfold tfind
    rw [pick_map, hx]
    simp [hk]

theorem tab_area (i s : Int) (w : World) (h0 : 0 ≤ i) (h1 : i ≤ 16) (h2 : 0 ≤ s) (h3 : s ≤ 2048) : Calls Try.prog 20 #[.int .i64 i, .int .i64 s] w fun e w' => e = .returned (.int .i64 (tarea i s)) ∧ w' = w := by
  go_enter Try.func20, Try.ntmps20
  go_wp2
  go_returns
  exact ⟨ret_int rfl, rfl⟩
theorem tab_refused (n : Int) (w : World) (h0 : 0 < n) (h1 : n ≤ 18446744073709551615) : Calls Try.prog 44 #[.int .u64 n] w fun e w' => e = .returned (.tuple #[.int .u64 (18446744073709551616 - n), .int .i64 0]) ∧ w' = w := by
  go_enter Try.func44, Try.ntmps44
  go_wp2
  go_returns
  refine ⟨?_, rfl⟩
  have e : IntKind.u64.wrap (-n) = 18446744073709551616 - n := by rw [IntKind.wrap_u64]; omega
  simp [e]
def LookT (S : Tabs) (i : Int) (ks : List Int) (w : World) (e : Ending) (w' : World) : Prop :=
  e = .returned (.tuple #[.int .u64 (tlook (tview S).2 i ks).1, .int .i64 (tlook (tview S).2 i ks).2]) ∧ Ext w w'
set_option maxHeartbeats 1000000 in
theorem tab_look (base tb : Nat) (S : Tabs) (i : Int) (kv : Value) (ks : List Int) (w : World) (h : TabAt w base tb S) (hk : Sl w .u8 kv ks) :
    Calls Try.prog 24 #[.pointer (some ⟨tb, 0, none⟩), .int .i64 i, kv] w (LookT S i ks w) := by
  have HT := Lib.hid h
  have HK := Lib.hid hk
  clear h hk
  go_enter Try.func24, Try.ntmps24
  go_wp2_with fail
  refine (tab_find base tb S i kv ks _ HT.out HK.out).mono ?_
  intro e w1 hf
  obtain ⟨he, ⟨hn, rfl⟩ | ⟨x, hp, hx, hm, h0, hl, hg, rfl⟩⟩ := hf.cases
  · have HN := Lib.hid hn
    clear hn hf
    go_wp2_with fail
    go_returns
    exact ⟨by simp only [tlook, tview, HN.out]; rfl, he⟩
  · have HX := Lib.hid hx
    have hfew := HT.out.few
    have HM := Lib.hid (HT.out.made x hm)
    clear hp hx hg hf
    cases hlk : x.T.slots.lookup (strOfNums ks) with
    | none =>
      have HLK := Lib.hid hlk
      clear hlk
      go_wp2_with fail
      go_returns
      exact ⟨by simp only [tlook, tview, HX.out, HLK.out]; rfl, he⟩
    | some n =>
      have HLK := Lib.hid hlk
      have hn := HM.out.2 _ (lookup_mem' hlk)
      simp only at hn
      clear hlk
      simp only [Option.getD_some, Option.isSome_some]
      go_wp2_with fail
      refine (tab_area i n _ h0 (by omega) (by omega) (by omega)).mono ?_
      rintro e w2 ⟨rfl, rfl⟩
      go_wp2_with fail
      refine (mem_at (tarea i n) 0 _).mono ?_
      rintro e w3 ⟨rfl, rfl⟩
      go_wp2_with fail
      go_returns
      exact ⟨by simp only [tlook, tview, HX.out, HLK.out]; rfl, he⟩

theorem set_map {α β : Type} (f : α → β) (L : List α) (i : Nat) (x : α) : (L.set i x).map f = (L.map f).set i (f x) := List.map_set
/-- One map is another, in the same blocks. -/
theorem TabAt.put {w w' : World} {base tb : Nat} {S : Tabs} {x : TRec} {i : Nat} (h : TabAt w base tb S) (hx : S.R[i]? = some x) (T : TM) (ht : T.made ≤ 1024 ∧ ∀ p ∈ T.slots, p.2 ≤ 1024) {F : List Nat} (k : Keep F w w') (hF : ∀ j ∈ F, j ∈ TRec.blocks x)
    (h1 : w'.heap[x.a]? = some (.cells (TRec.cells { x with T := T }) 79 (0, 0))) (h2 : SMap w' x.r T.strs) :
    TabAt w' base tb { S with R := S.R.set i { x with T := T } } ∧ tfoot tb { S with R := S.R.set i { x with T := T } } = tfoot tb S := by
  have hi := (List.getElem?_eq_some_iff.1 hx).1
  have hxi := (List.getElem?_eq_some_iff.1 hx).2
  have hm : x ∈ S.R := List.mem_of_getElem? hx
  have e0 : ∀ {β : Type} (f : TRec → β), f { x with T := T } = f x → (S.R.set i { x with T := T }).map f = S.R.map f := by
    intro β f hf
    rw [List.map_set, hf]
    apply List.ext_getElem?
    intro j
    rw [List.getElem?_set]
    by_cases hj : i = j
    · subst hj; simp [hi, hxi]
    · simp [hj]
  have fm : ∀ {β : Type} (f : TRec → List β), f { x with T := T } = f x → (S.R.set i { x with T := T }).flatMap f = S.R.flatMap f := by
    intro β f hf
    rw [List.flatMap_def, List.flatMap_def, e0 f hf]
  have e1 := fm TRec.blocks rfl
  have e2 := fm encT rfl
  have n0 := List.nodup_cons.1 h.apart
  have n1 := List.nodup_append.1 n0.2
  have n2 := List.nodup_append.1 n1.2.1
  have hin : ∀ j ∈ TRec.blocks x, j ∈ S.R.flatMap TRec.blocks := fun j hj => List.mem_flatMap.2 ⟨x, hm, hj⟩
  have hother : ∀ y ∈ S.R.set i { x with T := T }, y = { x with T := T } ∨ (y ∈ S.R ∧ ∀ j ∈ TRec.blocks y, j ∉ F) := by
    intro y hy
    obtain ⟨j, hj⟩ := List.getElem?_of_mem hy
    rw [List.getElem?_set] at hj
    by_cases hij : i = j
    · subst hij
      simp [hi] at hj
      exact .inl hj.symm
    · simp [hij] at hj
      have hjl := (List.getElem?_eq_some_iff.1 hj).1
      refine .inr ⟨List.mem_of_getElem? hj, fun k hk hkF => ?_⟩
      have hpw := (List.pairwise_flatMap.1 n2.1).2
      have hkx := hF k hkF
      rw [List.pairwise_iff_getElem] at hpw
      rcases Nat.lt_or_gt_of_ne hij with hlt | hlt
      · have := hpw i j hi hjl hlt
        rw [hxi, (List.getElem?_eq_some_iff.1 hj).2] at this
        exact this k hkx k hk rfl
      · have := hpw j i hjl hi hlt
        rw [hxi, (List.getElem?_eq_some_iff.1 hj).2] at this
        exact this k hk k hkx rfl
  refine ⟨⟨k.obj h.head (fun hj => n0.1 ?_), h.low, ?_, ?_, ?_, h.mem.keep k (fun j hj hjF => ?_), ?_, by simpa using h.few, ?_⟩, by simp only [tfoot, e1]⟩
  · exact List.mem_append_right _ (List.mem_append_left _ (hin _ (hF _ hj)))
  · show World.ownsRow _ _ _ _ _ _ _
    rw [e2, List.length_set]
    exact h.maps.keep k (fun j hj hjF => n1.2.2 j (by simpa using hj) j (List.mem_append_left _ (hin j (hF j hjF))) rfl)
  · intro y hy
    rcases hother y hy with rfl | ⟨hy', ho⟩
    · exact h1
    · exact k.obj (h.ones y hy') (ho _ (by simp [TRec.blocks]))
  · intro y hy
    rcases hother y hy with rfl | ⟨hy', ho⟩
    · exact h2
    · exact (h.slots y hy').keep k (ho _ (by simp [TRec.blocks]))
  · exact n2.2.2 j (hin j (hF j hjF)) j hj rfl
  · simp only [tfoot, e1]; exact h.apart
  · intro y hy
    rcases hother y hy with rfl | ⟨hy', ho⟩
    · exact ht
    · exact h.made y hy'

theorem TabAt.rec_ne {w : World} {base tb : Nat} {S : Tabs} {x : TRec} (h : TabAt w base tb S) (hx : x ∈ S.R) : x.a ≠ x.r ∧ x.a ∈ tfoot tb S ∧ x.r ∈ tfoot tb S := by
  have n0 := List.nodup_cons.1 h.apart
  have n1 := List.nodup_append.1 n0.2
  have n2 := List.nodup_append.1 n1.2.1
  have h1 := (List.pairwise_flatMap.1 n2.1).1 x hx
  have hin : ∀ j ∈ TRec.blocks x, j ∈ tfoot tb S := fun j hj => by simp only [tfoot, List.mem_cons, List.mem_append, List.mem_flatMap]; exact .inr (.inr (.inl ⟨x, hx, hj⟩))
  exact ⟨by simpa [TRec.blocks] using h1, hin _ (by simp [TRec.blocks]), hin _ (by simp [TRec.blocks])⟩
def DropT (base tb : Nat) (S : Tabs) (i : Int) (ks : List Int) (w : World) (e : Ending) (w' : World) : Prop :=
  e = .returned (.tuple #[.int .u64 (tdrop (tview S).2 i ks).2.1, .int .i64 (tdrop (tview S).2 i ks).2.2]) ∧ Keep (tfoot tb S) w w' ∧ ∃ S', TabAt w' base tb S' ∧ tview S' = ((tview S).1, (tdrop (tview S).2 i ks).1) ∧ tfoot tb S' = tfoot tb S ∧ S'.b = S.b
theorem del_slots (T : TM) (s : ByteArray) : delKey T.strs s = TM.strs { T with slots := T.slots.eraseP fun p => p.1 == s } := by
  unfold delKey TM.strs
  induction T.slots with
  | nil => rfl
  | cons p l ih =>
    obtain ⟨m, n⟩ := p
    simp only [List.map_cons, List.eraseP_cons]
    by_cases h : m = s
    · subst h; simp
    · simp only [ba_ne h, Bool.false_eq_true, cond_false, List.map_cons, ih]
set_option maxRecDepth 20000 in
set_option maxHeartbeats 1000000 in
theorem tab_drop (base tb : Nat) (S : Tabs) (i : Int) (kv : Value) (ks : List Int) (w : World) (h : TabAt w base tb S) (hk : Sl w .u8 kv ks) :
    Calls Try.prog 23 #[.pointer (some ⟨tb, 0, none⟩), .int .i64 i, kv] w (DropT base tb S i ks w) := by
  have HT := Lib.hid h
  obtain ⟨ka, kn, kc, rfl, hkn, hKN⟩ := hk.val
  have HK := Lib.hid hk
  clear h hk
  go_enter Try.func23, Try.ntmps23
  go_wp2_with fail
  refine (tab_find base tb S i _ ks _ HT.out HK.out).mono ?_
  intro e w1 hf
  obtain ⟨he, ⟨hn, rfl⟩ | ⟨x, hp, hx, hm, h0, hl, hg, rfl⟩⟩ := hf.cases
  · have HN := Lib.hid hn
    clear hn hf
    go_wp2_with fail
    go_returns
    exact ⟨by simp only [tdrop, tview, HN.out]; rfl, Keep.of_ext he, S, HT.out.ext he, by simp only [tdrop, tview, HN.out], rfl, rfl⟩
  · have HX := Lib.hid hx
    have HG := Lib.hid hg
    have HM := Lib.hid hm
    have k0 := cell_obj (i := 0) ((HT.out.ext he).ones x hm)
    simp only [TRec.cells, List.getElem?_toArray, List.getElem?_cons_zero, List.getElem?_cons_succ] at k0
    clear hp hx hg hf hm
    cases hh : x.T.hash with
    | false =>
      have HH := Lib.hid hh
      rw [hh] at k0
      clear hh
      go_wp2_with fail
      refine (tab_refused 22 _ (by decide) (by decide)).mono ?_
      rintro e w2 ⟨rfl, rfl⟩
      go_wp2_with fail
      go_returns
      exact ⟨by simp only [tdrop, tview, HX.out, HH.out, if_true]; rfl, Keep.of_ext he, S, HT.out.ext he, by simp only [tdrop, tview, HX.out, HH.out, if_true], rfl, rfl⟩
    | true =>
      have HH := Lib.hid hh
      rw [hh] at k0
      clear hh
      cases hlk : x.T.slots.lookup (strOfNums ks) with
      | none =>
        have HLK := Lib.hid hlk
        clear hlk
        go_wp2_with fail
        refine (tab_refused 2 _ (by decide) (by decide)).mono ?_
        rintro e w2 ⟨rfl, rfl⟩
        go_wp2_with fail
        go_returns
        exact ⟨by simp only [tdrop, tview, HX.out, HH.out, HLK.out, Bool.true_eq_false, if_false]; rfl, Keep.of_ext he, S, HT.out.ext he, by simp only [tdrop, tview, HX.out, HH.out, HLK.out, Bool.true_eq_false, if_false], rfl, rfl⟩
      | some n =>
        have HLK := Lib.hid hlk
        clear hlk
        have k4 := cell_obj (i := 4) ((HT.out.ext he).ones x HM.out)
        simp only [TRec.cells, List.getElem?_toArray, List.getElem?_cons_zero, List.getElem?_cons_succ] at k4
        have st := (HK.out.ext (he.drew')).run_str (P := Try.prog) Try.underlying40 Try.underlying5 Try.underlying9
        have hs := Lib.hid ((HT.out.ext he.drew').slots x HM.out)
        have hk1 := Lib.hid (HT.out.ext he.drew')
        go_wp2_with fail
        go_region_law ((apply del_step; (case hw => rfl); (case hop => rfl); (case hT => exact Try.underlying77); (case hK => exact Try.underlying9); (case hm => rfl); (case h => exact hs.out); (case hx => rfl); intro w5 hs5 hk5))
        all_goals
          have hk6 : Keep [x.r] w1 w5 := ⟨hk5.os, hk5.tape, hk5.output, hk5.size, hk5.block⟩
          rw [del_slots] at hs5
          have H5 := Lib.hid hs5
          clear hs5 hk5
          go_wp2_with fail
          go_returns
          have hT1 := HT.out.ext he
          have hne := hT1.rec_ne HM.out
          have hmd := hT1.made x HM.out
          have hput := hT1.put HG.out { x.T with slots := x.T.slots.eraseP fun p => p.1 == strOfNums ks } ⟨hmd.1, fun p hp => hmd.2 p (List.mem_of_mem_eraseP hp)⟩ hk6 (by simp [TRec.blocks]) (hk6.obj (hT1.ones x HM.out) (by simpa using hne.1)) H5.out
          refine ⟨by simp only [tdrop, tview, HX.out, HH.out, HLK.out, Bool.true_eq_false, if_false]; rfl, (Keep.of_ext he).trans (hk6.mono fun j hj => .inl ?_), _, hput.1, ?_, hput.2, rfl⟩
          · simp at hj; subst hj; exact hne.2.2
          · simp only [tdrop, tview, HX.out, HH.out, HLK.out, Bool.true_eq_false, if_false, List.map_set]
end Go.Proofs.Ytjimmbcihcmfoaa
