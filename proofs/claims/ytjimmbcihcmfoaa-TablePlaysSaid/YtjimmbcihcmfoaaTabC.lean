/- Maps of layer 9: slot. -/
import Derived.Test.YtjimmbcihcmfoaaTabB
namespace Go.Proofs.Ytjimmbcihcmfoaa
open Go.RowKit
set_option linter.unusedVariables false
set_option linter.unusedSimpArgs false

theorem foot_sub (tb : Nat) (S : Tabs) : ∀ j ∈ foot S.b S.r S.L, j ∈ tfoot tb S := fun j hj => by simp only [tfoot, List.mem_cons, List.mem_append]; exact .inr (.inr (.inr hj))
/-- The memory has turned, the maps have not. -/
theorem TabAt.memStep {w w' : World} {base tb : Nat} {S : Tabs} (h : TabAt w base tb S) (k : Keep (foot S.b S.r S.L) w w') {L' : List Rec} (hm : MemAt w' S.b S.r L') (hf : ∀ j ∈ foot S.b S.r L', j ∈ foot S.b S.r S.L ∨ w.heap.size ≤ j) :
    TabAt w' base tb { S with L := L' } ∧ (∀ j ∈ tfoot tb { S with L := L' }, j ∈ tfoot tb S ∨ w.heap.size ≤ j) := by
  have n0 := List.nodup_cons.1 h.apart
  have n1 := List.nodup_append.1 n0.2
  have n2 := List.nodup_append.1 n1.2.1
  have ht : tb ∉ foot S.b S.r S.L := fun hj => n0.1 (List.mem_append_right _ (List.mem_append_right _ hj))
  have hmv : ∀ j, S.mv.ownBlock = some j → j ∉ foot S.b S.r S.L := fun j hj hj' => n1.2.2 j (by simpa using hj) j (List.mem_append_right _ hj') rfl
  have hrec : ∀ x ∈ S.R, ∀ j ∈ TRec.blocks x, j ∉ foot S.b S.r S.L := fun x hx j hj hj' => n2.2.2 j (List.mem_flatMap.2 ⟨x, hx, hj⟩) j hj' rfl
  have hlt := h.lt
  refine ⟨⟨k.obj h.head ht, h.low, h.maps.keep k hmv, fun x hx => k.obj (h.ones x hx) (hrec x hx _ (by simp [TRec.blocks])), fun x hx => (h.slots x hx).keep k (hrec x hx _ (by simp [TRec.blocks])), hm, ?_, h.few, h.made⟩, ?_⟩
  · have hnew : ∀ j ∈ foot S.b S.r L', j ∈ tfoot tb S → j ∈ foot S.b S.r S.L := fun j hj hj' => (hf j hj).elim id (fun hh => by have := hlt j hj'; omega)
    simp only [tfoot]
    rw [List.nodup_cons, List.nodup_append]
    refine ⟨?_, n1.1, ?_, ?_⟩
    · intro hj
      rcases List.mem_append.1 hj with hj | hj
      · exact n0.1 (List.mem_append_left _ hj)
      · rcases List.mem_append.1 hj with hj | hj
        · exact n0.1 (List.mem_append_right _ (List.mem_append_left _ hj))
        · exact ht (hnew tb hj (by simp [tfoot]))
    · rw [List.nodup_append]
      refine ⟨n2.1, hm.apart, ?_⟩
      intro a ha b hb e
      subst e
      obtain ⟨x, hx, hxa⟩ := List.mem_flatMap.1 ha
      exact hrec x hx a hxa (hnew a hb (by simp only [tfoot, List.mem_cons, List.mem_append]; exact .inr (.inr (.inl ha))))
    · intro a ha b hb e
      subst e
      rcases List.mem_append.1 hb with hb | hb
      · exact n1.2.2 a ha a (List.mem_append_left _ hb) rfl
      · exact hmv a (by simpa using ha) (hnew a hb (by simp only [tfoot, List.mem_cons, List.mem_append]; exact .inr (.inl ha)))
  · intro j hj
    simp only [tfoot, List.mem_cons, List.mem_append] at hj ⊢
    rcases hj with hj | hj | hj | hj
    · exact .inl (.inl hj)
    · exact .inl (.inr (.inl hj))
    · exact .inl (.inr (.inr (.inl hj)))
    · rcases hf j hj with h1 | h1
      · exact .inl (.inr (.inr (.inr h1)))
      · exact .inr h1

def addSlot (t : TM) (s : ByteArray) : TM := { t with slots := t.slots ++ [(s, t.made)], made := t.made + 1 }
def tslot (V : Areas × List TM) (i : Int) (s : ByteArray) (vs : List Int) : Option (Areas × List TM) :=
  match pick V.2 i with
  | none => none
  | some t => if 1024 ≤ t.made then none else if (mmake V.1 (tarea i t.made) vs false false).2 = 0 then some ((mmake V.1 (tarea i t.made) vs false false).1, V.2.set i.toNat (addSlot t s)) else none
theorem mmake_err {M : Areas} {n : Int} {b : List Int} {x y : Bool} (h : (mmake M n b x y).2 ≠ 0) : (mmake M n b x y).1 = M := by
  revert h
  unfold mmake
  split
  · simp
  · split <;> simp
theorem add_strs (T : TM) (s : ByteArray) (h : T.slots.lookup s = none) : putKey T.strs s (.int .i64 T.made) = (addSlot T s).strs := by
  unfold putKey
  rw [lookup_strs, h]
  simp [TM.strs, addSlot]
def SlotT (base tb : Nat) (S : Tabs) (i : Int) (s : ByteArray) (vs : List Int) (w : World) (e : Ending) (w' : World) : Prop :=
  e = .returned (.bool (tslot (tview S) i s vs).isSome) ∧ Keep (tfoot tb S) w w' ∧ ∃ S', TabAt w' base tb S' ∧ tview S' = (tslot (tview S) i s vs).getD (tview S) ∧ (∀ j ∈ tfoot tb S', j ∈ tfoot tb S ∨ w.heap.size ≤ j) ∧ S'.b = S.b ∧ S'.r = S.r ∧ S'.R.map (·.a) = S.R.map (·.a)
set_option maxRecDepth 20000 in
set_option maxHeartbeats 1000000 in
theorem tab_slot (base tb : Nat) (S : Tabs) (i : Int) (s : ByteArray) (vv : Value) (vs : List Int) (x : TRec) (w : World) (h : TabAt w base tb S) (hv : Sl w .u8 vv vs) (hu : ∀ q ∈ vs, 0 ≤ q ∧ q ≤ 255) (hp : pick S.R i = some x) (hl : x.T.slots.lookup s = none) :
    Calls Try.prog 30 #[.pointer (some ⟨tb, 0, none⟩), .int .i64 i, .string s, vv] w (SlotT base tb S i s vs w) := by
  obtain ⟨va, vn, vc, rfl, hvn, hVN⟩ := hv.val
  have HV := Lib.hid hv
  have HU := Lib.hid hu
  have HT := Lib.hid h
  have HL := Lib.hid hl
  have hi : 0 ≤ i ∧ S.R[i.toNat]? = some x := by
    unfold pick at hp
    split at hp
    · cases hp
    · exact ⟨by omega, hp⟩
  obtain ⟨hi0, hx⟩ := hi
  have hm := List.mem_of_getElem? hx
  have hilt := (List.getElem?_eq_some_iff.1 hx).1
  have hfew := h.few
  have hp' : pick (tview S).2 i = some x.T := by simp only [tview]; rw [pick_map, hp]; rfl
  have HP := Lib.hid hp'
  have HX := Lib.hid hx
  have HM := Lib.hid hm
  have hb0 := cell_obj (i := 0) h.head
  have hb1 := cell_obj (i := 1) h.head
  simp only [List.getElem?_toArray, List.getElem?_cons_zero, List.getElem?_cons_succ] at hb0 hb1
  have RM := Lib.hid (h.maps.rd enc_t)
  obtain ⟨ma, mn, mc, hmv, hmn, hMN⟩ := RM.out.val
  rw [hmv] at hb1 RM
  have cm := RM.out.cell hx (j := 0) rfl
  have im := fun W => RM.out.run_at (P := Try.prog) el_one.under el_one.size .i64 i (by omega) (by have := hMN.out; omega) W
  simp only [Nat.mul_one, Nat.add_zero] at cm im
  have k5 := cell_obj (i := 5) (h.ones x hm)
  simp only [TRec.cells, List.getElem?_toArray, List.getElem?_cons_zero, List.getElem?_cons_succ] at k5
  have hmade := (h.made x hm).1
  clear h hv hu hl hp hp' hx hm hmv
  by_cases hbig : (1024 : Int) ≤ x.T.made
  · have hb : 1024 ≤ x.T.made := by omega
    have HB := Lib.hid hb
    have hd : decide ((1024 : Int) ≤ x.T.made) = true := by simpa using hbig
    clear hb
    go_enter Try.func30, Try.ntmps30
    go_wp2_with fail
    go_quiet (fail)
    go_wp2_with fail
    go_returns
    have e : tslot (tview S) i s vs = none := by simp only [tslot, HP.out, HB.out, if_true]
    exact ⟨by rw [e]; rfl, Keep.of_ext (by (repeat (first | exact Ext.rfl' _ | assumption | refine Ext.drewN' ?_ _ | refine Ext.drew' ?_ | refine Ext.alloc' ?_ _ | refine Ext.trans' ?_ (by assumption)))), S, HT.out.ext (by (repeat (first | exact Ext.rfl' _ | assumption | refine Ext.drewN' ?_ _ | refine Ext.drew' ?_ | refine Ext.alloc' ?_ _ | refine Ext.trans' ?_ (by assumption)))), by rw [e]; rfl, fun j hj => .inl hj, rfl, rfl, rfl⟩
  · have hb : ¬ 1024 ≤ x.T.made := by omega
    have HB := Lib.hid hb
    have hd : decide ((1024 : Int) ≤ x.T.made) = false := by simpa using hbig
    clear hb
    go_enter Try.func30, Try.ntmps30
    go_wp2_with fail
    have HS : Hid (∀ w5 : World, Keep (foot S.b S.r S.L) w w5 → w5.cell? ⟨tb, 0, none⟩ = some (.pointer (some ⟨S.b, 0, none⟩)) ∧ w5.cell? ⟨x.a, 5, none⟩ = some (.int .i64 x.T.made)) := Lib.hid fun w5 k => by
      have n0 := List.nodup_cons.1 HT.out.apart
      have n2 := List.nodup_append.1 (List.nodup_append.1 n0.2).2.1
      exact ⟨cell_obj (k.obj HT.out.head (fun hj => n0.1 (List.mem_append_right _ (List.mem_append_right _ hj)))), cell_obj (k.obj (HT.out.ones x HM.out) (fun hj => n2.2.2 x.a (List.mem_flatMap.2 ⟨x, HM.out, by simp [TRec.blocks]⟩) x.a hj rfl))⟩
    go_region_held3 (fun w' => w'.cell? ⟨tb, 0, none⟩ = some (.pointer (some ⟨S.b, 0, none⟩)) ∧ w'.cell? ⟨x.a, 5, none⟩ = some (.int .i64 x.T.made))
      (first | go_keep | exact s5)
      ((first
        | (go_at_call 20; refine (tab_area i x.T.made _ hi0 (by omega) (by omega) (by omega)).mono ?_; rintro e w2 ⟨rfl, rfl⟩)
        | (go_at_call 48; refine (mem_make S.b S.r S.L (tarea i x.T.made) _ vs false false _ (HT.out.mem.ext (by (repeat (first | exact Ext.rfl' _ | assumption | refine Ext.drewN' ?_ _ | refine Ext.drew' ?_ | refine Ext.alloc' ?_ _ | refine Ext.trans' ?_ (by assumption))))) (HV.out.ext (by (repeat (first | exact Ext.rfl' _ | assumption | refine Ext.drewN' ?_ _ | refine Ext.drew' ?_ | refine Ext.alloc' ?_ _ | refine Ext.trans' ?_ (by assumption))))) HU.out).mono ?_; rintro e w5 ⟨rfl, hk5, L5, hm5, hv5, hf5⟩; have hk5' : Keep (foot S.b S.r S.L) w w5 := ⟨hk5.os, hk5.tape, hk5.output, hk5.size, hk5.block⟩; have s5 := HS.out w5 hk5'; have HM5 := Lib.hid hm5; have HV5 := Lib.hid hv5; have HF5 := Lib.hid hf5; have HK5 := Lib.hid hk5'; clear hk5 hk5' hm5 hv5 hf5)))
    all_goals
      have hst := HT.out.memStep HK5.out HM5.out (fun j hj => (HF5.out j hj).imp id (fun h => h))
      have HT5 := Lib.hid hst.1
      have HF6 := Lib.hid hst.2
      clear hst s5
      by_cases herr : (mmake (view S.L) (tarea i x.T.made) vs false false).2 = 0
      case neg =>
        have d2 : ((mmake (view S.L) (tarea i x.T.made) vs false false).2 != 0) = true := by simpa using herr
        have HE := Lib.hid herr
        clear herr
        go_wp2_with fail
        go_returns
        have e : tslot (tview S) i s vs = none := by
          simp only [tslot, HP.out, HB.out, if_false]
          rw [if_neg]
          exact HE.out
        exact ⟨by rw [e]; rfl, HK5.out.mono (fun j hj => .inl (foot_sub tb S j hj)), _, HT5.out, by rw [e]; simp only [tview, HV5.out, mmake_err HE.out, Option.getD_none], HF6.out, rfl, rfl, rfl⟩
      case pos =>
        have d2 : ((mmake (view S.L) (tarea i x.T.made) vs false false).2 != 0) = false := by simp [herr]
        have HE := Lib.hid herr
        have o5 := HT5.out.ones x HM.out
        have j4 := cell_obj (i := 4) o5
        have j5 := cell_obj (i := 5) o5
        simp only [TRec.cells, List.getElem?_toArray, List.getElem?_cons_zero, List.getElem?_cons_succ] at j4 j5
        obtain ⟨w6, hrun, hs6, hk6⟩ := run_update_str (P := Try.prog) Try.underlying77 Try.underlying9 ((HT5.out.slots x HM.out).ext (Ext.drew' (Ext.rfl' w5))) s (.int .i64 x.T.made)
        have hne := HT5.out.rec_ne HM.out
        have hk6' : Keep [x.r] w5 w6 := ⟨hk6.os, hk6.tape, hk6.output, hk6.size, hk6.block⟩
        have o6 := hk6'.obj o5 (by simpa using hne.1)
        have c5 := cell_obj (i := 5) o6
        have z5 := frozen_obj (i := 5) o6
        simp only [TRec.cells, List.getElem?_toArray, List.getElem?_cons_zero, List.getElem?_cons_succ] at c5
        rw [add_strs _ _ HL.out] at hs6
        have hst := heap_setCell_same w6 x.a 5 _ _ (.int .i64 ((x.T.made : Int) + 1)) o6
        have HS6 := Lib.hid hs6
        have HK6 := Lib.hid hk6'
        have HST := Lib.hid hst
        have HNE := Lib.hid hne
        clear herr o5 hs6 hk6 hk6' o6 hst hne
        go_wp2_with fail
        go_region
        go_wp2_with fail
        go_returns
        have e : tslot (tview S) i s vs = some ((mmake (view S.L) (tarea i x.T.made) vs false false).1, (tview S).2.set i.toNat (addSlot x.T s)) := by
          simp only [tslot, HP.out, HB.out, if_false]
          rw [if_pos]
          · rfl
          · exact HE.out
        have hne := HNE.out.1
        have hk7 : Keep (TRec.blocks x) w5 (w6.setCell ⟨x.a, 5, none⟩ (.int .i64 ((x.T.made : Int) + 1))) := (HK6.out.mono (fun j hj => .inl (by simp at hj; simp [TRec.blocks, hj]))).setCell (by simp [TRec.blocks]) _
        have hmd := HT5.out.made x HM.out
        have hput := HT5.out.put HX.out (addSlot x.T s) ⟨by have := HB.out; simp only [addSlot]; omega, fun p hp => by
          simp only [addSlot, List.mem_append, List.mem_singleton] at hp
          rcases hp with hp | rfl
          · exact hmd.2 p hp
          · exact hmd.1⟩ hk7 (fun j hj => hj) (by have := HST.out; simpa [TRec.cells, addSlot] using this) (HS6.out.keep ((Keep.rfl' [x.a] w6).setCell (by simp) _) (by simpa using fun e => hne e.symm))
        have hkk : Keep (tfoot tb S) w w5 := HK5.out.mono (fun j hj => .inl (foot_sub tb S j hj))
        refine ⟨by rw [e]; rfl, hkk.trans (hk7.mono fun j hj => .inl ?_), _, hput.1, ?_, fun j hj => HF6.out j (by rw [← hput.2]; exact hj), rfl, rfl, ?_⟩
        · simp only [tfoot, List.mem_cons, List.mem_append, List.mem_flatMap]
          exact .inr (.inr (.inl ⟨x, HM.out, hj⟩))
        · rw [e]
          simp only [tview, HV5.out, Option.getD_some, List.map_set]
        · apply List.ext_getElem?
          intro q
          rw [List.getElem?_map, List.getElem?_map, List.getElem?_set]
          by_cases hq : i.toNat = q
          · subst hq; rw [HX.out]; simp [hilt]
          · simp [hq]
end Go.Proofs.Ytjimmbcihcmfoaa
