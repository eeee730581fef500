/- What the claim leans on: TabB · RT · TabC. -/
import Derived.Test.YtppefchjoodgnaaGreatPN06
import Derived.Deep.RegionLaw
import Derived.Test.YtppefchjoodgnaaGreatPN05
namespace Go.Proofs.YtppefchjoodgnaaGreat
open Go.RowKit
set_option linter.unusedVariables false
set_option linter.unusedSimpArgs false
def tview (S : Tabs) : Areas × List TM := (view S.L, S.R.map (·.T))
theorem pick_map {α β : Type} (f : α → β) (L : List α) (i : Int) : pick (L.map f) i = (pick L i).map f := by
 unfold pick
 split
 ·rfl
 ·rw [List.getElem?_map]
def tfind (T : List TM) (i : Int) (n : Nat) : Option TM := (pick T i).bind fun t => if (n : Int) = t.key then some t else none
def tarea (i slot : Int) : Int := 4096 + 1024 * i + slot
def tlook (T : List TM) (i : Int) (ks : List Int) : Int × Int :=
 match tfind T i ks.length with
 | none => (0, 1)
 | some t => match t.slots.lookup (strOfNums ks) with | none => (0, 0) | some s => (mat (tarea i s) 0, 0)
def tdrop (T : List TM) (i : Int) (ks : List Int) : List TM × Int × Int :=
 match tfind T i ks.length with
 | none => (T, 0, 1)
 | some t => if t.hash = false then (T, 18446744073709551594, 0) else
  match t.slots.lookup (strOfNums ks) with
  | none => (T, 18446744073709551614, 0)
  | some _ => (T.set i.toNat { t with slots := t.slots.eraseP fun p => p.1 == strOfNums ks }, 0, 0)
theorem FindT.cases {S : Tabs} {i : Int} {ks : List Int} {w w' : World} {e : Ending} (h : FindT S i ks.length (strOfNums ks) w e w') : Ext w w' ∧
  ((tfind (S.R.map (·.T)) i ks.length = none ∧ e = .returned (.tuple #[.pointer none, .int .i64 0, .bool false, .int .i64 1])) ∨
  ∃ x, pick S.R i = some x ∧ tfind (S.R.map (·.T)) i ks.length = some x.T ∧ x ∈ S.R ∧ 0 ≤ i ∧ i.toNat < S.R.length ∧ S.R[i.toNat]? = some x ∧ e = .returned (.tuple #[.pointer (some ⟨x.a, 0, none⟩), .int .i64 (((x.T.slots.lookup (strOfNums ks)).getD 0 : Nat) : Int), .bool (x.T.slots.lookup (strOfNums ks)).isSome, .int .i64 0])) := by
 obtain ⟨he, h | ⟨x, hx, hk, rfl⟩⟩ := h
 ·refine ⟨he, .inl ⟨?_, h.2⟩⟩
  unfold tfind
  rw [pick_map]
  cases hp : pick S.R i with
  | none => rfl
  | some x =>
   have := h.1 x hp
   simp at this
   simp [this]
 ·have h0 : 0 ≤ i ∧ S.R[i.toNat]? = some x := by
   unfold pick at hx
   split at hx
   ·cases hx
   ·exact ⟨by omega, hx⟩
  refine ⟨he, .inr ⟨x, hx, ?_, List.mem_of_getElem? h0.2, h0.1, (List.getElem?_eq_some_iff.1 h0.2).1, h0.2, rfl⟩⟩
  unfold tfind
  rw [pick_map, hx]
  simp [hk]
theorem tab_area (i s : Int) (w : World) (h0 : 0 ≤ i) (h1 : i ≤ 16) (h2 : 0 ≤ s) (h3 : s ≤ 2048) : Calls Tryz.prog 90 #[.int .i64 i, .int .i64 s] w fun e w' => e = .returned (.int .i64 (tarea i s)) ∧ w' = w := by
 go_enter Tryz.func90, Tryz.ntmps90
 go_wp2
 go_returns
 exact ⟨ret_int rfl, rfl⟩
theorem tab_refused (n : Int) (w : World) (h0 : 0 < n) (h1 : n ≤ 18446744073709551615) : Calls Tryz.prog 88 #[.int .u64 n] w fun e w' => e = .returned (.tuple #[.int .u64 (18446744073709551616 - n), .int .i64 0]) ∧ w' = w := by
 go_enter Tryz.func88, Tryz.ntmps88
 go_wp2
 go_returns
 refine ⟨?_, rfl⟩
 have e : IntKind.u64.wrap (-n) = 18446744073709551616 - n := by rw [IntKind.wrap_u64]; omega
 simp [e]
def LookT (S : Tabs) (i : Int) (ks : List Int) (w : World) (e : Ending) (w' : World) : Prop :=
 e = .returned (.tuple #[.int .u64 (tlook (tview S).2 i ks).1, .int .i64 (tlook (tview S).2 i ks).2]) ∧ Ext w w'
set_option maxHeartbeats 1000000 in
theorem tab_look (base tb : Nat) (S : Tabs) (i : Int) (kv : Value) (ks : List Int) (w : World) (h : TabAt w base tb S) (hk : Sl w .u8 kv ks) :
  Calls Tryz.prog 173 #[.pointer (some ⟨tb, 0, none⟩), .int .i64 i, kv] w (LookT S i ks w) := by
 have HT := η h
 have HK := η hk
 clear h hk
 go_enter Tryz.func173, Tryz.ntmps173
 go_wp2_with fail
 refine (tab_find base tb S i kv ks _ HT.out HK.out).mono ?_
 intro e w1 hf
 obtain ⟨he, ⟨hn, rfl⟩ | ⟨x, hp, hx, hm, h0, hl, hg, rfl⟩⟩ := hf.cases
 ·have HN := η hn
  clear hn hf
  go_wp2_with fail
  go_returns
  exact ⟨by simp only [tlook, tview, HN.out]; rfl, he⟩
 ·have HX := η hx
  have hfew := HT.out.few
  have HM := η (HT.out.made x hm)
  clear hp hx hg hf
  cases hlk : x.T.slots.lookup (strOfNums ks) with
  | none =>
   have HLK := η hlk
   clear hlk
   go_wp2_with fail
   go_returns
   exact ⟨by simp only [tlook, tview, HX.out, HLK.out]; rfl, he⟩
  | some n =>
   have HLK := η hlk
   have hn := HM.out.2 _ (lookup_mem' hlk)
   simp only at hn
   clear hlk
   simp only [Option.getD_some, Option.isSome_some]
   go_wp2_with fail
   refine (tab_area i n _ h0 (by omega) (by omega) (by omega)).mono ?_
   rintro e w2 ⟨rfl, rfl⟩
   go_wp2_with fail
   refine (mem_at (tarea i n) 0 _).mono ?_
   rintro e w3 ⟨rfl, rfl⟩
   go_wp2_with fail
   go_returns
   exact ⟨by simp only [tlook, tview, HX.out, HLK.out]; rfl, he⟩
theorem TabAt.put {w w' : World} {base tb : Nat} {S : Tabs} {x : TRec} {i : Nat} (h : TabAt w base tb S) (hx : S.R[i]? = some x) (T : TM) (ht : T.made ≤ 1024 ∧ ∀ p ∈ T.slots, p.2 ≤ 1024) {F : List Nat} (k : Keep F w w') (hF : ∀ j ∈ F, j ∈ TRec.blocks x)
  (h1 : w'.heap[x.a]? = some (.cells (TRec.cells { x with T := T }) 158 (0, 0))) (h2 : SMap w' x.r T.strs) :
  TabAt w' base tb { S with R := S.R.set i { x with T := T } } ∧ tfoot tb { S with R := S.R.set i { x with T := T } } = tfoot tb S := by
 have hi := (List.getElem?_eq_some_iff.1 hx).1
 have hxi := (List.getElem?_eq_some_iff.1 hx).2
 have hm : x ∈ S.R := List.mem_of_getElem? hx
 have e0 : ∀ {β : Type} (f : TRec → β), f { x with T := T } = f x → (S.R.set i { x with T := T }).map f = S.R.map f := by
  intro β f hf
  rw [List.map_set, hf]
  apply List.ext_getElem?
  intro j
  rw [List.getElem?_set]
  by_cases hj : i = j
  ·subst hj; simp [hi, hxi]
  ·simp [hj]
 have fm : ∀ {β : Type} (f : TRec → List β), f { x with T := T } = f x → (S.R.set i { x with T := T }).flatMap f = S.R.flatMap f := by
  intro β f hf
  rw [List.flatMap_def, List.flatMap_def, e0 f hf]
 have e1 := fm TRec.blocks rfl
 have e2 := fm encT rfl
 have n0 := List.nodup_cons.1 h.apart
 have n1 := List.nodup_append.1 n0.2
 have n2 := List.nodup_append.1 n1.2.1
 have hin : ∀ j ∈ TRec.blocks x, j ∈ S.R.flatMap TRec.blocks := fun j hj => List.mem_flatMap.2 ⟨x, hm, hj⟩
 have hother : ∀ y ∈ S.R.set i { x with T := T }, y = { x with T := T } ∨ (y ∈ S.R ∧ ∀ j ∈ TRec.blocks y, j ∉ F) := by
  intro y hy
  obtain ⟨j, hj⟩ := List.getElem?_of_mem hy
  rw [List.getElem?_set] at hj
  by_cases hij : i = j
  ·subst hij
   simp [hi] at hj
   exact .inl hj.symm
  ·simp [hij] at hj
   have hjl := (List.getElem?_eq_some_iff.1 hj).1
   refine .inr ⟨List.mem_of_getElem? hj, fun k hk hkF => ?_⟩
   have hpw := (List.pairwise_flatMap.1 n2.1).2
   have hkx := hF k hkF
   rw [List.pairwise_iff_getElem] at hpw
   rcases Nat.lt_or_gt_of_ne hij with hlt | hlt
   ·have := hpw i j hi hjl hlt
    rw [hxi, (List.getElem?_eq_some_iff.1 hj).2] at this
    exact this k hkx k hk rfl
   ·have := hpw j i hjl hi hlt
    rw [hxi, (List.getElem?_eq_some_iff.1 hj).2] at this
    exact this k hk k hkx rfl
 refine ⟨⟨k.obj h.head (fun hj => n0.1 ?_), h.low, ?_, ?_, ?_, h.mem.keep k (fun j hj hjF => ?_), ?_, by simpa using h.few, ?_⟩, by simp only [tfoot, e1]⟩
 ·exact List.mem_append_right _ (List.mem_append_left _ (hin _ (hF _ hj)))
 ·show World.ownsRow _ _ _ _ _ _ _
  rw [e2, List.length_set]
  exact h.maps.keep k (fun j hj hjF => n1.2.2 j (by simpa using hj) j (List.mem_append_left _ (hin j (hF j hjF))) rfl)
 ·intro y hy
  rcases hother y hy with rfl | ⟨hy', ho⟩
  ·exact h1
  ·exact k.obj (h.ones y hy') (ho _ (by simp [TRec.blocks]))
 ·intro y hy
  rcases hother y hy with rfl | ⟨hy', ho⟩
  ·exact h2
  ·exact (h.slots y hy').keep k (ho _ (by simp [TRec.blocks]))
 ·exact n2.2.2 j (hin j (hF j hjF)) j hj rfl
 ·simp only [tfoot, e1]; exact h.apart
 ·intro y hy
  rcases hother y hy with rfl | ⟨hy', ho⟩
  ·exact ht
  ·exact h.made y hy'
theorem TabAt.rec_ne {w : World} {base tb : Nat} {S : Tabs} {x : TRec} (h : TabAt w base tb S) (hx : x ∈ S.R) : x.a ≠ x.r ∧ x.a ∈ tfoot tb S ∧ x.r ∈ tfoot tb S := by
 have n0 := List.nodup_cons.1 h.apart
 have n1 := List.nodup_append.1 n0.2
 have n2 := List.nodup_append.1 n1.2.1
 have h1 := (List.pairwise_flatMap.1 n2.1).1 x hx
 have hin : ∀ j ∈ TRec.blocks x, j ∈ tfoot tb S := fun j hj => by simp only [tfoot, List.mem_cons, List.mem_append, List.mem_flatMap]; exact .inr (.inr (.inl ⟨x, hx, hj⟩))
 exact ⟨by simpa [TRec.blocks] using h1, hin _ (by simp [TRec.blocks]), hin _ (by simp [TRec.blocks])⟩
def DropT (base tb : Nat) (S : Tabs) (i : Int) (ks : List Int) (w : World) (e : Ending) (w' : World) : Prop :=
 e = .returned (.tuple #[.int .u64 (tdrop (tview S).2 i ks).2.1, .int .i64 (tdrop (tview S).2 i ks).2.2]) ∧ Keep (tfoot tb S) w w' ∧ ∃ S', TabAt w' base tb S' ∧ tview S' = ((tview S).1, (tdrop (tview S).2 i ks).1) ∧ tfoot tb S' = tfoot tb S ∧ S'.b = S.b
theorem del_slots (T : TM) (s : ByteArray) : delKey T.strs s = TM.strs { T with slots := T.slots.eraseP fun p => p.1 == s } := by
 unfold delKey TM.strs
 induction T.slots with
 | nil => rfl
 | cons p l ih =>
  obtain ⟨m, n⟩ := p
  simp only [List.map_cons, List.eraseP_cons]
  by_cases h : m = s
  ·subst h; simp
  ·simp only [ba_ne h, Bool.false_eq_true, cond_false, List.map_cons, ih]
set_option maxRecDepth 20000 in
set_option maxHeartbeats 1000000 in
theorem tab_drop (base tb : Nat) (S : Tabs) (i : Int) (kv : Value) (ks : List Int) (w : World) (h : TabAt w base tb S) (hk : Sl w .u8 kv ks) :
  Calls Tryz.prog 174 #[.pointer (some ⟨tb, 0, none⟩), .int .i64 i, kv] w (DropT base tb S i ks w) := by
 have HT := η h
 obtain ⟨ka, kn, kc, rfl, hkn, hKN⟩ := hk.val
 have HK := η hk
 clear h hk
 go_enter Tryz.func174, Tryz.ntmps174
 go_wp2_with fail
 refine (tab_find base tb S i _ ks _ HT.out HK.out).mono ?_
 intro e w1 hf
 obtain ⟨he, ⟨hn, rfl⟩ | ⟨x, hp, hx, hm, h0, hl, hg, rfl⟩⟩ := hf.cases
 ·have HN := η hn
  clear hn hf
  go_wp2_with fail
  go_returns
  exact ⟨by simp only [tdrop, tview, HN.out]; rfl, Keep.of_ext he, S, HT.out.ext he, by simp only [tdrop, tview, HN.out], rfl, rfl⟩
 ·have HX := η hx
  have HG := η hg
  have HM := η hm
  have k0 := cO (i := 0) ((HT.out.ext he).ones x hm)
  simp only [TRec.cells, gA, gB, gC] at k0
  clear hp hx hg hf hm
  cases hh : x.T.hash with
  | false =>
   have HH := η hh
   rw [hh] at k0
   clear hh
   go_wp2_with fail
   refine (tab_refused 22 _ (by decide) (by decide)).mono ?_
   rintro e w2 ⟨rfl, rfl⟩
   go_wp2_with fail
   go_returns
   exact ⟨by simp only [tdrop, tview, HX.out, HH.out, if_true]; rfl, Keep.of_ext he, S, HT.out.ext he, by simp only [tdrop, tview, HX.out, HH.out, if_true], rfl, rfl⟩
  | true =>
   have HH := η hh
   rw [hh] at k0
   clear hh
   cases hlk : x.T.slots.lookup (strOfNums ks) with
   | none =>
    have HLK := η hlk
    clear hlk
    go_wp2_with fail
    refine (tab_refused 2 _ (by decide) (by decide)).mono ?_
    rintro e w2 ⟨rfl, rfl⟩
    go_wp2_with fail
    go_returns
    exact ⟨by simp only [tdrop, tview, HX.out, HH.out, HLK.out, Bool.true_eq_false, if_false]; rfl, Keep.of_ext he, S, HT.out.ext he, by simp only [tdrop, tview, HX.out, HH.out, HLK.out, Bool.true_eq_false, if_false], rfl, rfl⟩
   | some n =>
    have HLK := η hlk
    clear hlk
    have k4 := cO (i := 4) ((HT.out.ext he).ones x HM.out)
    simp only [TRec.cells, gA, gB, gC] at k4
    have st := (HK.out.ext (he.drew')).run_str (P := Tryz.prog) Tryz.underlying23 Tryz.underlying5 Tryz.underlying9
    have hs := η ((HT.out.ext he.drew').slots x HM.out)
    have hk1 := η (HT.out.ext he.drew')
    go_wp2_with fail
    go_region_law ((apply del_step; (case hw => rfl); (case hop => rfl); (case hT => exact Tryz.underlying156); (case hK => exact Tryz.underlying9); (case hm => rfl); (case h => exact hs.out); (case hx => rfl); intro w5 hs5 hk5))
    all_goals
     have hk6 : Keep [x.r] w1 w5 := ⟨hk5.os, hk5.tape, hk5.output, hk5.size, hk5.block⟩
     rw [del_slots] at hs5
     have H5 := η hs5
     clear hs5 hk5
     go_wp2_with fail
     go_returns
     have hT1 := HT.out.ext he
     have hne := hT1.rec_ne HM.out
     have hmd := hT1.made x HM.out
     have hput := hT1.put HG.out { x.T with slots := x.T.slots.eraseP fun p => p.1 == strOfNums ks } ⟨hmd.1, fun p hp => hmd.2 p (List.mem_of_mem_eraseP hp)⟩ hk6 (by simp [TRec.blocks]) (hk6.obj (hT1.ones x HM.out) (by simpa using hne.1)) H5.out
     refine ⟨by simp only [tdrop, tview, HX.out, HH.out, HLK.out, Bool.true_eq_false, if_false]; rfl, (Keep.of_ext he).trans (hk6.mono fun j hj => .inl ?_), _, hput.1, ?_, hput.2, rfl⟩
     ·simp at hj; subst hj; exact hne.2.2
     ·simp only [tdrop, tview, HX.out, HH.out, HLK.out, Bool.true_eq_false, if_false, List.map_set]
structure RM where
 la : Option Addr
 lc : Nat
 T : TM
def RM.lv (x : RM) : Value := .slice x.la x.T.slots.length x.lc
def RM.enc (x : RM) : List Value := [.bool x.T.hash, .int .i64 x.T.key, .int .i64 x.T.val, .int .i64 x.T.max, x.lv, .int .i64 (x.T.made : Nat)]
theorem enc_rm : Enc 6 RM.enc := ⟨fun _ => rfl, fun x u hu => by
 simp only [RM.enc, List.mem_cons, List.not_mem_nil, or_false] at hu
 rcases hu with rfl | rfl | rfl | rfl | rfl | rfl <;> rfl⟩
abbrev encKS : ByteArray × Nat → List Value := fun p => [.string p.1, .int .i64 (p.2 : Nat)]
theorem enc_ks : Enc 2 encKS := ⟨fun _ => rfl, fun x u hu => by
 simp only [encKS, List.mem_cons, List.not_mem_nil, or_false] at hu
 rcases hu with rfl | rfl <;> rfl⟩
theorem el_rm : El Tryz.prog 121 126 6 64 (.agg #[.bool false, .int .i64 0, .int .i64 0, .int .i64 0, .slice none 0 0, .int .i64 0]) := ⟨Tryz.underlying121, by kernel_rfl, rfl, by decide, fun _ => by kernel_rfl⟩
theorem el_rk : El Tryz.prog 124 129 2 24 (.agg #[.string ⟨#[]⟩, .int .i64 0]) := ⟨Tryz.underlying124, by kernel_rfl, rfl, by decide, fun _ => by kernel_rfl⟩
structure RTabs where
 rb : Nat
 lv : Value
 L : List RR
 mv : Value
 R : List RM
def rtfoot (tb : Nat) (S : RTabs) : List Nat := tb :: (S.mv.ownBlock.toList ++ (S.R.flatMap (fun x => x.lv.ownBlock.toList) ++ rfoot S.rb S.lv S.L))
structure RTabAt (w : World) (base tb : Nat) (S : RTabs) : Prop where
 head : w.heap[tb]? = some (.cells #[.pointer (some ⟨S.rb, 0, none⟩), S.mv] 123 (0, 0))
 low : base ≤ tb
 maps : Own w base 126 6 RM.enc S.mv S.R
 keys : ∀ x ∈ S.R, Own w base 129 2 encKS x.lv x.T.slots
 mem : RefAt w base S.rb S.lv S.L
 apart : (rtfoot tb S).Nodup
 few : S.R.length ≤ 8
 made : ∀ x ∈ S.R, x.T.made ≤ 1024 ∧ ∀ p ∈ x.T.slots, p.2 ≤ 1024
theorem RTabAt.keep {F : List Nat} {w w' : World} {base tb : Nat} {S : RTabs} (h : RTabAt w base tb S) (k : Keep F w w') (hF : ∀ j ∈ rtfoot tb S, j ∉ F) : RTabAt w' base tb S := by
 refine ⟨k.obj h.head (hF _ (by simp [rtfoot])), h.low, h.maps.keep k (fun j hj => hF j (by simp [rtfoot, hj])), fun x hx => (h.keys x hx).keep k (fun j hj => hF j ?_),
  h.mem.keep k (fun j hj => hF j ?_), h.apart, h.few, h.made⟩
 ·simp only [rtfoot, List.mem_cons, List.mem_append, List.mem_flatMap, Option.mem_toList]
  exact .inr (.inr (.inl ⟨x, hx, hj⟩))
 ·simp only [rtfoot, List.mem_cons, List.mem_append]
  exact .inr (.inr (.inr hj))
theorem RTabAt.ext {w w' : World} {base tb : Nat} {S : RTabs} (h : RTabAt w base tb S) (k : Ext w w') : RTabAt w' base tb S :=
 h.keep (F := []) (Keep.of_ext k) (fun _ _ => by simp)
theorem RTabAt.lt {w : World} {base tb : Nat} {S : RTabs} (h : RTabAt w base tb S) : ∀ j ∈ rtfoot tb S, base ≤ j ∧ j < w.heap.size := by
 intro j hj
 simp only [rtfoot, List.mem_cons, List.mem_append, List.mem_flatMap, Option.mem_toList] at hj
 rcases hj with rfl | hj | ⟨x, hx, hj⟩ | hj
 ·exact ⟨h.low, heap_lt h.head⟩
 ·exact h.maps.lt hj
 ·exact (h.keys x hx).lt hj
 ·exact h.mem.lt j hj
theorem tfind_no' {T : List TM} {i : Int} {n : Nat} (h : ∀ (j : Nat) t, i = j → T[j]? = some t → (n : Int) ≠ t.key) : tfind T i n = none := by
 unfold tfind pick
 split
 ·rfl
 ·cases hp : T[i.toNat]? with
  | none => rfl
  | some t => simp only [Option.bind_some]; rw [if_neg (h i.toNat t (by omega) hp)]
theorem tfind_at' {T : List TM} {i : Nat} {n : Nat} {t : TM} (hp : T[i]? = some t) (hk : (n : Int) = t.key) : tfind T i n = some t := by
 unfold tfind pick
 rw [if_neg (by omega), Int.toNat_natCast, hp]
 simp only [Option.bind_some]
 rw [if_pos hk]
theorem tfind_cases' (T : List TM) (i : Int) (n : Nat) : tfind T i n = none ∨ ∃ (j : Nat) (t : TM), i = j ∧ T[j]? = some t ∧ (n : Int) = t.key := by
 by_cases h : i < 0
 ·exact .inl (tfind_no' fun j t e => by omega)
 ·obtain ⟨j, rfl⟩ : ∃ j : Nat, i = j := ⟨i.toNat, by omega⟩
  cases hp : T[j]? with
  | none => exact .inl (tfind_no' fun q t e hq => by obtain rfl : q = j := by omega
                                                     rw [hp] at hq; cases hq)
  | some t =>
   by_cases hk : (n : Int) = t.key
   ·exact .inr ⟨j, t, rfl, hp, hk⟩
   ·exact .inl (tfind_no' fun q t' e hq => by obtain rfl : q = j := by omega
                                              rw [hp] at hq; injection hq with e; subst e; exact hk)
def rview (S : RTabs) : Areas × List TM := (viewR S.L, S.R.map (·.T))
theorem rm_cells {w : World} {v : Value} {L : List RM} (R : Rd w 6 RM.enc v L) {i : Nat} {x : RM} (hx : L[i]? = some x) :
  w.cell? (elt v (i * 6)) = some (.bool x.T.hash) ∧ w.cell? ⟨(elt v (i * 6)).block, (elt v (i * 6)).off + 1, none⟩ = some (.int .i64 x.T.key) ∧ w.cell? ⟨(elt v (i * 6)).block, (elt v (i * 6)).off + 2, none⟩ = some (.int .i64 x.T.val) ∧ w.cell? ⟨(elt v (i * 6)).block, (elt v (i * 6)).off + 3, none⟩ = some (.int .i64 x.T.max) ∧
  w.cell? ⟨(elt v (i * 6)).block, (elt v (i * 6)).off + 4, none⟩ = some x.lv ∧ w.cell? ⟨(elt v (i * 6)).block, (elt v (i * 6)).off + 5, none⟩ = some (.int .i64 (x.T.made : Nat)) := by
 have E := R.elt_add hx
 have F : ∀ (p : Addr) (j : Nat), j ≠ 0 → (⟨p.block, p.off + j, none⟩ : Addr) = p.add j := fun p j h => by simp [Addr.add, h]
 rw [F _ 1 (by decide), F _ 2 (by decide), F _ 3 (by decide), F _ 4 (by decide), F _ 5 (by decide), E, E, E, E, E]
 exact ⟨R.cell hx (j := 0) rfl, R.cell hx (j := 1) rfl, R.cell hx (j := 2) rfl, R.cell hx (j := 3) rfl, R.cell hx (j := 4) rfl, R.cell hx (j := 5) rfl⟩
theorem ks_cells {w : World} {v : Value} {L : List (ByteArray × Nat)} (R : Rd w 2 encKS v L) {i : Nat} {x : ByteArray × Nat} (hx : L[i]? = some x) :
  w.cell? (elt v (i * 2)) = some (.string x.1) ∧ w.cell? ⟨(elt v (i * 2)).block, (elt v (i * 2)).off + 1, none⟩ = some (.int .i64 (x.2 : Nat)) := by
 have E := R.elt_add hx
 have F : ∀ (p : Addr) (j : Nat), j ≠ 0 → (⟨p.block, p.off + j, none⟩ : Addr) = p.add j := fun p j h => by simp [Addr.add, h]
 rw [F _ 1 (by decide), E]
 exact ⟨R.cell hx (j := 0) rfl, R.cell hx (j := 1) rfl⟩
theorem rtab_area (i s : Int) (w : World) (h0 : 0 ≤ i) (h1 : i ≤ 16) (h2 : 0 ≤ s) (h3 : s ≤ 2048) : Calls Tryz.prog 63 #[.int .i64 i, .int .i64 s] w fun e w' => e = .returned (.int .i64 (tarea i s)) ∧ w' = w := by
 go_enter Tryz.func63, Tryz.ntmps63
 go_wp2
 go_returns
 exact ⟨rfl, rfl⟩
theorem rtab_minus (n : Int) (w : World) (h0 : 0 < n) (h1 : n ≤ 18446744073709551615) : Calls Tryz.prog 66 #[.int .u64 n] w fun e w' => e = .returned (.int .u64 (18446744073709551616 - n)) ∧ w' = w := by
 go_enter Tryz.func66, Tryz.ntmps66
 go_wp2
 go_returns
 exact ⟨ret_u64 (by simp only [IntKind.wrap_u64]; omega), rfl⟩
set_option maxHeartbeats 1000000 in
theorem rtab_may (base tb : Nat) (S : RTabs) (i : Int) (kv : Value) (ks : List Int) (w : World) (h : RTabAt w base tb S) (hk : Sl w .u8 kv ks) :
  Calls Tryz.prog 64 #[.pointer (some ⟨tb, 0, none⟩), .int .i64 i, kv] w fun e w' => e = .returned (.bool (tfind (S.R.map (·.T)) i ks.length).isSome) ∧ w' = w := by
 obtain ⟨ka, kn, kc, rfl, hkn, hKN⟩ := hk.val
 have hb1 := cO (i := 1) h.head
 simp only [gA, gB, gC] at hb1
 have RMM := η (h.maps.rd enc_rm)
 obtain ⟨ma, mn, mc, hmv, hmn, hMN⟩ := RMM.out.val
 rw [hmv] at hb1 RMM
 have hkk := hKN.out
 clear hk h hmv
 by_cases h0 : i < 0
 ·have ht : (tfind (S.R.map (·.T)) i ks.length).isSome = false := by rw [tfind_no' (fun j t e => by omega)]; rfl
  rw [ht]
  clear ht hkk
  go_enter Tryz.func64, Tryz.ntmps64
  go_wp2
  go_returns
  exact ⟨rfl, rfl⟩
 ·by_cases h1 : (mn : Int) ≤ i
  ·have ht : (tfind (S.R.map (·.T)) i ks.length).isSome = false := by
    rw [tfind_no' (fun j t e hj => by
     have := (List.getElem?_eq_some_iff.1 hj).1
     have := hMN.out
     simp at *
     omega)]; rfl
   rw [ht]
   clear ht hkk
   go_enter Tryz.func64, Tryz.ntmps64
   go_wp2
   go_returns
   exact ⟨rfl, rfl⟩
  ·obtain ⟨x, hx⟩ := at_of_lt (xs := S.R) (k := i.toNat) (by have := hMN.out; omega)
   have ix := fun W => RMM.out.run_at (P := Tryz.prog) el_rm.under el_rm.size .i64 i (by omega) (by omega) W
   obtain ⟨c0, c1, c2, c3, c4, c5⟩ := rm_cells RMM.out hx
   have ht : (tfind (S.R.map (·.T)) i ks.length).isSome = ((kn : Int) == x.T.key) := by
    have hp : pick (S.R.map (·.T)) i = some x.T := by rw [pick, if_neg h0, List.getElem?_map, hx]; rfl
    unfold tfind
    rw [hp, ← hkk]
    simp only [Option.bind_some]
    by_cases e : (kn : Int) = x.T.key
    ·rw [if_pos e]; simp [e]
    ·rw [if_neg e]; simp [e]
   rw [ht]
   have hi0 : 0 ≤ i := by omega
   have hi1 : i < (mn : Int) := by omega
   clear ht hkk hx c0 c2 c3 c4 c5
   go_enter Tryz.func64, Tryz.ntmps64
   go_wp2
   go_returns
   exact ⟨rfl, rfl⟩
theorem foot_sub (tb : Nat) (S : Tabs) : ∀ j ∈ foot S.b S.r S.L, j ∈ tfoot tb S := fun j hj => by simp only [tfoot, List.mem_cons, List.mem_append]; exact .inr (.inr (.inr hj))
theorem TabAt.memStep {w w' : World} {base tb : Nat} {S : Tabs} (h : TabAt w base tb S) (k : Keep (foot S.b S.r S.L) w w') {L' : List Rec} (hm : MemAt w' S.b S.r L') (hf : ∀ j ∈ foot S.b S.r L', j ∈ foot S.b S.r S.L ∨ w.heap.size ≤ j) :
  TabAt w' base tb { S with L := L' } ∧ (∀ j ∈ tfoot tb { S with L := L' }, j ∈ tfoot tb S ∨ w.heap.size ≤ j) := by
 have n0 := List.nodup_cons.1 h.apart
 have n1 := List.nodup_append.1 n0.2
 have n2 := List.nodup_append.1 n1.2.1
 have ht : tb ∉ foot S.b S.r S.L := fun hj => n0.1 (List.mem_append_right _ (List.mem_append_right _ hj))
 have hmv : ∀ j, S.mv.ownBlock = some j → j ∉ foot S.b S.r S.L := fun j hj hj' => n1.2.2 j (by simpa using hj) j (List.mem_append_right _ hj') rfl
 have hrec : ∀ x ∈ S.R, ∀ j ∈ TRec.blocks x, j ∉ foot S.b S.r S.L := fun x hx j hj hj' => n2.2.2 j (List.mem_flatMap.2 ⟨x, hx, hj⟩) j hj' rfl
 have hlt := h.lt
 refine ⟨⟨k.obj h.head ht, h.low, h.maps.keep k hmv, fun x hx => k.obj (h.ones x hx) (hrec x hx _ (by simp [TRec.blocks])), fun x hx => (h.slots x hx).keep k (hrec x hx _ (by simp [TRec.blocks])), hm, ?_, h.few, h.made⟩, ?_⟩
 ·have hnew : ∀ j ∈ foot S.b S.r L', j ∈ tfoot tb S → j ∈ foot S.b S.r S.L := fun j hj hj' => (hf j hj).elim id (fun hh => by have := hlt j hj'; omega)
  simp only [tfoot]
  rw [List.nodup_cons, List.nodup_append]
  refine ⟨?_, n1.1, ?_, ?_⟩
  ·intro hj
   rcases List.mem_append.1 hj with hj | hj
   ·exact n0.1 (List.mem_append_left _ hj)
   ·rcases List.mem_append.1 hj with hj | hj
    ·exact n0.1 (List.mem_append_right _ (List.mem_append_left _ hj))
    ·exact ht (hnew tb hj (by simp [tfoot]))
  ·rw [List.nodup_append]
   refine ⟨n2.1, hm.apart, ?_⟩
   intro a ha b hb e
   subst e
   obtain ⟨x, hx, hxa⟩ := List.mem_flatMap.1 ha
   exact hrec x hx a hxa (hnew a hb (by simp only [tfoot, List.mem_cons, List.mem_append]; exact .inr (.inr (.inl ha))))
  ·intro a ha b hb e
   subst e
   rcases List.mem_append.1 hb with hb | hb
   ·exact n1.2.2 a ha a (List.mem_append_left _ hb) rfl
   ·exact hmv a (by simpa using ha) (hnew a hb (by simp only [tfoot, List.mem_cons, List.mem_append]; exact .inr (.inl ha)))
 ·intro j hj
  simp only [tfoot, List.mem_cons, List.mem_append] at hj ⊢
  rcases hj with hj | hj | hj | hj
  ·exact .inl (.inl hj)
  ·exact .inl (.inr (.inl hj))
  ·exact .inl (.inr (.inr (.inl hj)))
  ·rcases hf j hj with h1 | h1
   ·exact .inl (.inr (.inr (.inr h1)))
   ·exact .inr h1
def addSlot (t : TM) (s : ByteArray) : TM := { t with slots := t.slots ++ [(s, t.made)], made := t.made + 1 }
def tslot (V : Areas × List TM) (i : Int) (s : ByteArray) (vs : List Int) : Option (Areas × List TM) :=
 match pick V.2 i with
 | none => none
 | some t => if 1024 ≤ t.made then none else if (mmake V.1 (tarea i t.made) vs false false).2 = 0 then some ((mmake V.1 (tarea i t.made) vs false false).1, V.2.set i.toNat (addSlot t s)) else none
theorem mmake_err {M : Areas} {n : Int} {b : List Int} {x y : Bool} (h : (mmake M n b x y).2 ≠ 0) : (mmake M n b x y).1 = M := by
 revert h
 unfold mmake
 split
 ·simp
 ·split <;> simp
theorem add_strs (T : TM) (s : ByteArray) (h : T.slots.lookup s = none) : putKey T.strs s (.int .i64 T.made) = (addSlot T s).strs := by
 unfold putKey
 rw [lookup_strs, h]
 simp [TM.strs, addSlot]
def SlotT (base tb : Nat) (S : Tabs) (i : Int) (s : ByteArray) (vs : List Int) (w : World) (e : Ending) (w' : World) : Prop :=
 e = .returned (.bool (tslot (tview S) i s vs).isSome) ∧ Keep (tfoot tb S) w w' ∧ ∃ S', TabAt w' base tb S' ∧ tview S' = (tslot (tview S) i s vs).getD (tview S) ∧ (∀ j ∈ tfoot tb S', j ∈ tfoot tb S ∨ w.heap.size ≤ j) ∧ S'.b = S.b ∧ S'.r = S.r ∧ S'.R.map (·.a) = S.R.map (·.a)
set_option maxRecDepth 20000 in
set_option maxHeartbeats 1000000 in
theorem tab_slot (base tb : Nat) (S : Tabs) (i : Int) (s : ByteArray) (vv : Value) (vs : List Int) (x : TRec) (w : World) (h : TabAt w base tb S) (hv : Sl w .u8 vv vs) (hu : ∀ q ∈ vs, 0 ≤ q ∧ q ≤ 255) (hp : pick S.R i = some x) (hl : x.T.slots.lookup s = none) :
  Calls Tryz.prog 85 #[.pointer (some ⟨tb, 0, none⟩), .int .i64 i, .string s, vv] w (SlotT base tb S i s vs w) := by
 obtain ⟨va, vn, vc, rfl, hvn, hVN⟩ := hv.val
 have HV := η hv
 have HU := η hu
 have HT := η h
 have HL := η hl
 have hi : 0 ≤ i ∧ S.R[i.toNat]? = some x := by
  unfold pick at hp
  split at hp
  ·cases hp
  ·exact ⟨by omega, hp⟩
 obtain ⟨hi0, hx⟩ := hi
 have hm := List.mem_of_getElem? hx
 have hilt := (List.getElem?_eq_some_iff.1 hx).1
 have hfew := h.few
 have hp' : pick (tview S).2 i = some x.T := by simp only [tview]; rw [pick_map, hp]; rfl
 have HP := η hp'
 have HX := η hx
 have HM := η hm
 have hb0 := cO (i := 0) h.head
 have hb1 := cO (i := 1) h.head
 simp only [gA, gB, gC] at hb0 hb1
 have RM := η (h.maps.rd enc_t)
 obtain ⟨ma, mn, mc, hmv, hmn, hMN⟩ := RM.out.val
 rw [hmv] at hb1 RM
 have cm := RM.out.cell hx (j := 0) rfl
 have im := fun W => RM.out.run_at (P := Tryz.prog) el_one.under el_one.size .i64 i (by omega) (by have := hMN.out; omega) W
 simp only [Nat.mul_one, Nat.add_zero] at cm im
 have k5 := cO (i := 5) (h.ones x hm)
 simp only [TRec.cells, gA, gB, gC] at k5
 have hmade := (h.made x hm).1
 clear h hv hu hl hp hp' hx hm hmv
 by_cases hbig : (1024 : Int) ≤ x.T.made
 ·have hb : 1024 ≤ x.T.made := by omega
  have HB := η hb
  have hd : decide ((1024 : Int) ≤ x.T.made) = true := by simpa using hbig
  clear hb
  go_enter Tryz.func85, Tryz.ntmps85
  go_wp2_with fail
  go_quiet (fail)
  go_wp2_with fail
  go_returns
  have e : tslot (tview S) i s vs = none := by simp only [tslot, HP.out, HB.out, if_true]
  exact ⟨by rw [e]; rfl, Keep.of_ext (by (repeat (first|exact xE0 _|assumption|refine xE1 ?_ _|refine xE2 ?_|refine xE3 ?_ _|refine xE4 ?_ (by assumption)))), S, HT.out.ext (by (repeat (first|exact xE0 _|assumption|refine xE1 ?_ _|refine xE2 ?_|refine xE3 ?_ _|refine xE4 ?_ (by assumption)))), by rw [e]; rfl, fun j hj => .inl hj, rfl, rfl, rfl⟩
 ·have hb : ¬ 1024 ≤ x.T.made := by omega
  have HB := η hb
  have hd : decide ((1024 : Int) ≤ x.T.made) = false := by simpa using hbig
  clear hb
  go_enter Tryz.func85, Tryz.ntmps85
  go_wp2_with fail
  have HS : Hid (∀ w5 : World, Keep (foot S.b S.r S.L) w w5 → w5.cell? ⟨tb, 0, none⟩ = some (.pointer (some ⟨S.b, 0, none⟩)) ∧ w5.cell? ⟨x.a, 5, none⟩ = some (.int .i64 x.T.made)) := η fun w5 k => by
   have n0 := List.nodup_cons.1 HT.out.apart
   have n2 := List.nodup_append.1 (List.nodup_append.1 n0.2).2.1
   exact ⟨cO (k.obj HT.out.head (fun hj => n0.1 (List.mem_append_right _ (List.mem_append_right _ hj)))), cO (k.obj (HT.out.ones x HM.out) (fun hj => n2.2.2 x.a (List.mem_flatMap.2 ⟨x, HM.out, by simp [TRec.blocks]⟩) x.a hj rfl))⟩
  go_region_held3 (fun w' => w'.cell? ⟨tb, 0, none⟩ = some (.pointer (some ⟨S.b, 0, none⟩)) ∧ w'.cell? ⟨x.a, 5, none⟩ = some (.int .i64 x.T.made))
   (first | go_keep | exact s5)
   ((first
    | (go_at_call 90; refine (tab_area i x.T.made _ hi0 (by omega) (by omega) (by omega)).mono ?_; rintro e w2 ⟨rfl, rfl⟩)
    | (go_at_call 52; refine (mem_make S.b S.r S.L (tarea i x.T.made) _ vs false false _ (HT.out.mem.ext (by (repeat (first|exact xE0 _|assumption|refine xE1 ?_ _|refine xE2 ?_|refine xE3 ?_ _|refine xE4 ?_ (by assumption))))) (HV.out.ext (by (repeat (first|exact xE0 _|assumption|refine xE1 ?_ _|refine xE2 ?_|refine xE3 ?_ _|refine xE4 ?_ (by assumption))))) HU.out).mono ?_; rintro e w5 ⟨rfl, hk5, L5, hm5, hv5, hf5⟩; have hk5' : Keep (foot S.b S.r S.L) w w5 := ⟨hk5.os, hk5.tape, hk5.output, hk5.size, hk5.block⟩; have s5 := HS.out w5 hk5'; have HM5 := η hm5; have HV5 := η hv5; have HF5 := η hf5; have HK5 := η hk5'; clear hk5 hk5' hm5 hv5 hf5)))
  all_goals
   have hst := HT.out.memStep HK5.out HM5.out (fun j hj => (HF5.out j hj).imp id (fun h => h))
   have HT5 := η hst.1
   have HF6 := η hst.2
   clear hst s5
   by_cases herr : (mmake (view S.L) (tarea i x.T.made) vs false false).2 = 0
   case neg =>
    have d2 : ((mmake (view S.L) (tarea i x.T.made) vs false false).2 != 0) = true := by simpa using herr
    have HE := η herr
    clear herr
    go_wp2_with fail
    go_returns
    have e : tslot (tview S) i s vs = none := by
     simp only [tslot, HP.out, HB.out, if_false]
     rw [if_neg]
     exact HE.out
    exact ⟨by rw [e]; rfl, HK5.out.mono (fun j hj => .inl (foot_sub tb S j hj)), _, HT5.out, by rw [e]; simp only [tview, HV5.out, mmake_err HE.out, Option.getD_none], HF6.out, rfl, rfl, rfl⟩
   case pos =>
    have d2 : ((mmake (view S.L) (tarea i x.T.made) vs false false).2 != 0) = false := by simp [herr]
    have HE := η herr
    have o5 := HT5.out.ones x HM.out
    have j4 := cO (i := 4) o5
    have j5 := cO (i := 5) o5
    simp only [TRec.cells, gA, gB, gC] at j4 j5
    obtain ⟨w6, hrun, hs6, hk6⟩ := run_update_str (P := Tryz.prog) Tryz.underlying156 Tryz.underlying9 ((HT5.out.slots x HM.out).ext (Ext.drew' (Ext.rfl' w5))) s (.int .i64 x.T.made)
    have hne := HT5.out.rec_ne HM.out
    have hk6' : Keep [x.r] w5 w6 := ⟨hk6.os, hk6.tape, hk6.output, hk6.size, hk6.block⟩
    have o6 := hk6'.obj o5 (by simpa using hne.1)
    have c5 := cO (i := 5) o6
    have z5 := frozen_obj (i := 5) o6
    simp only [TRec.cells, gA, gB, gC] at c5
    rw [add_strs _ _ HL.out] at hs6
    have hst := heap_setCell_same w6 x.a 5 _ _ (.int .i64 ((x.T.made : Int) + 1)) o6
    have HS6 := η hs6
    have HK6 := η hk6'
    have HST := η hst
    have HNE := η hne
    clear herr o5 hs6 hk6 hk6' o6 hst hne
    go_wp2_with fail
    go_region
    go_wp2_with fail
    go_returns
    have e : tslot (tview S) i s vs = some ((mmake (view S.L) (tarea i x.T.made) vs false false).1, (tview S).2.set i.toNat (addSlot x.T s)) := by
     simp only [tslot, HP.out, HB.out, if_false]
     rw [if_pos]
     ·rfl
     ·exact HE.out
    have hne := HNE.out.1
    have hk7 : Keep (TRec.blocks x) w5 (w6.setCell ⟨x.a, 5, none⟩ (.int .i64 ((x.T.made : Int) + 1))) := (HK6.out.mono (fun j hj => .inl (by simp at hj; simp [TRec.blocks, hj]))).setCell (by simp [TRec.blocks]) _
    have hmd := HT5.out.made x HM.out
    have hput := HT5.out.put HX.out (addSlot x.T s) ⟨by have := HB.out; simp only [addSlot]; omega, fun p hp => by
     simp only [addSlot, List.mem_append, List.mem_singleton] at hp
     rcases hp with hp | rfl
     ·exact hmd.2 p hp
     ·exact hmd.1⟩ hk7 (fun j hj => hj) (by have := HST.out; simpa [TRec.cells, addSlot] using this) (HS6.out.keep ((Keep.rfl' [x.a] w6).setCell (by simp) _) (by simpa using fun e => hne e.symm))
    have hkk : Keep (tfoot tb S) w w5 := HK5.out.mono (fun j hj => .inl (foot_sub tb S j hj))
    refine ⟨by rw [e]; rfl, hkk.trans (hk7.mono fun j hj => .inl ?_), _, hput.1, ?_, fun j hj => HF6.out j (by rw [← hput.2]; exact hj), rfl, rfl, ?_⟩
    ·simp only [tfoot, List.mem_cons, List.mem_append, List.mem_flatMap]
     exact .inr (.inr (.inl ⟨x, HM.out, hj⟩))
    ·rw [e]
     simp only [tview, HV5.out, Option.getD_some, List.map_set]
    ·apply List.ext_getElem?
     intro q
     rw [List.getElem?_map, List.getElem?_map, List.getElem?_set]
     by_cases hq : i.toNat = q
     ·subst hq; rw [HX.out]; simp [hilt]
     ·simp [hq]
end Go.Proofs.YtppefchjoodgnaaGreat
