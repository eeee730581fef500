/- Maps of layer 9: Items. -/
import Derived.Test.YtjimmbcihcmfoaaTabH
import Derived.Sort.KeysCollected
namespace Go.Proofs.Ytjimmbcihcmfoaa
open Go.RowKit
set_option linter.unusedVariables false
set_option linter.unusedSimpArgs false

/-- An item: where its key's and its value's bytes are, and what they are. -/
structure IT where
  ka : Option Addr
  kc : Nat
  va : Option Addr
  vc : Nat
  key : List Int
  val : List Int
def IT.kv (x : IT) : Value := .slice x.ka x.key.length x.kc
def IT.vv (x : IT) : Value := .slice x.va x.val.length x.vc
def IT.enc (x : IT) : List Value := [x.kv, x.vv]
theorem enc_it : Enc 2 IT.enc := ⟨fun _ => rfl, fun x u hu => by
  simp only [IT.enc, List.mem_cons, List.not_mem_nil, or_false] at hu
  rcases hu with rfl | rfl <;> rfl⟩
theorem el_item : El Try.prog 46 60 2 48 (.agg #[.slice none 0 0, .slice none 0 0]) := ⟨Try.underlying46, by kernel_rfl, rfl, by decide, fun _ => by kernel_rfl⟩
/-- A map's keys, rising, and the values that memory holds there. -/
def titems (V : Areas × List TM) (i : Int) : List (ByteArray × List Int) :=
  match pick V.2 i with
  | none => []
  | some t => (sortK (t.slots.map (·.1))).map fun k => (k, (marea V.1 (tarea i (((t.slots.lookup k).getD 0 : Nat) : Int))).1)
def IsItems (w : World) (v : Value) (l : List (ByteArray × List Int)) : Prop :=
  ∃ I : List IT, Rd w 2 IT.enc v I ∧ (∀ x ∈ I, Sl w .u8 x.kv x.key ∧ Sl w .u8 x.vv x.val) ∧ I.map (fun x => (strOfNums x.key, x.val)) = l
def ItemsT (l : List (ByteArray × List Int)) (w : World) (e : Ending) (w' : World) : Prop := ∃ v, e = .returned v ∧ IsItems w' v l ∧ Ext w w'
def lenV : Value → Nat
  | .slice _ n _ => n
  | _ => 0
theorem sortK_of_perm {a b : List ByteArray} (h : a.Perm b) : sortK a = sortK b := by
  unfold sortK
  rw [mergeSort_of_perm (h.map fun k => k.data.toList)]
set_option maxRecDepth 20000 in
set_option maxHeartbeats 4000000 in
theorem tab_items (base tb : Nat) (S : Tabs) (i : Int) (w : World) (h : TabAt w base tb S) (HB : Hid (∀ x ∈ S.R, x.T.slots.length ≤ 1000 ∧ ∀ p ∈ x.T.slots, p.1.size ≤ 1000)) :
    Calls Try.prog 17 #[.pointer (some ⟨tb, 0, none⟩), .int .i64 i] w (ItemsT (titems (tview S) i) w) := by
  have HT := Lib.hid h
  have hb1 := cell_obj (i := 1) h.head
  simp only [List.getElem?_toArray, List.getElem?_cons_zero, List.getElem?_cons_succ] at hb1
  have RM := Lib.hid (h.maps.rd enc_t)
  obtain ⟨ma, mn, mc, hmv, hmn, hMN⟩ := RM.out.val
  rw [hmv] at hb1 RM
  have hfew := h.few
  clear h hmv
  by_cases h0 : i < 0
  · go_enter Try.func17, Try.ntmps17
    go_wp2_with fail
    go_returns
    exact ⟨_, rfl, ⟨[], Rd.nil _ _ _, by simp, by simp [titems, pick, h0]⟩, by (repeat (first | exact Ext.rfl' _ | assumption | refine Ext.drewN' ?_ _ | refine Ext.drew' ?_ | refine Ext.alloc' ?_ _ | refine Ext.trans' ?_ (by assumption)))⟩
  by_cases h1 : (mn : Int) ≤ i
  · have hpk : pick (tview S).2 i = none := by
      simp only [pick, h0, if_false, tview]
      rw [List.getElem?_eq_none]
      have := hMN.out
      rw [List.length_map]; omega
    have HPK := Lib.hid hpk
    clear hpk
    go_enter Try.func17, Try.ntmps17
    go_wp2_with fail
    go_returns
    exact ⟨_, rfl, ⟨[], Rd.nil _ _ _, by simp, by simp [titems, HPK.out]⟩, by (repeat (first | exact Ext.rfl' _ | assumption | refine Ext.drewN' ?_ _ | refine Ext.drew' ?_ | refine Ext.alloc' ?_ _ | refine Ext.trans' ?_ (by assumption)))⟩
  obtain ⟨x, hx⟩ := at_of_lt (xs := S.R) (k := i.toNat) (by have := hMN.out; omega)
  have hmem := List.mem_of_getElem? hx
  have hp : pick (tview S).2 i = some x.T := by simp only [pick, h0, if_false, tview]; rw [List.getElem?_map, hx]; rfl
  have HP := Lib.hid hp
  have HM := Lib.hid hmem
  have k4 := cell_obj (i := 4) (HT.out.ones x hmem)
  simp only [TRec.cells, List.getElem?_toArray, List.getElem?_cons_zero, List.getElem?_cons_succ] at k4
  have cm := RM.out.cell hx (j := 0) rfl
  have im := fun W => RM.out.run_at (P := Try.prog) el_one.under el_one.size .i64 i (by omega) (by omega) W
  simp only [Nat.mul_one, Nat.add_zero] at cm im
  have hle : 0 ≤ i := by omega
  have hlt : i < (mn : Int) := by omega
  have hi16 : i ≤ 16 := by have := hMN.out; omega
  have hi0 : decide (i < 0) = false := by simpa using h0
  have hi1 : decide ((mn : Int) ≤ i) = false := by simpa using h1
  have HSM := Lib.hid (HT.out.slots x hmem)
  have HBX := Lib.hid (HB.out x hmem)
  have hsl : x.T.strs.length = x.T.slots.length := by simp [TM.strs]
  have HSL := Lib.hid hsl
  have hkm : x.T.strs.map (·.1) = x.T.slots.map (·.1) := by simp [TM.strs]
  have HKM := Lib.hid hkm
  clear hx hmem hp h0 h1 HB hsl hkm
  go_enter Try.func17, Try.ntmps17
  go_wp2_with (at_range; refine range_own (L := x.T.strs) rfl _ rfl Try.underlying77 rfl HSM.out ?_; intro w0 hI0 hE0 hS0)
  (try go_frame)
  have hq : w.heap.size < w0.heap.size := by omega
  have HS0 := Lib.hid hS0
  clear hS0
  obtain ⟨q, hqe⟩ : ∃ q, w.heap.size = q := ⟨_, rfl⟩
  rw [hqe] at hI0 ⊢
  have hql : w.heap.size ≤ q := by omega
  have hq2 : q < w0.heap.size := by omega
  go_loopw [5] (fun v wr => ∃ done, SIter wr x.r q x.T.strs done ∧ Hid (Own wr w0.heap.size 9 1 encK v done) ∧ (∃ a n c, v = .slice a n c) ∧ lenV v = done.length ∧ done.length ≤ x.T.strs.length ∧ Hid (w0.heap.size ≤ wr.heap.size) ∧ Ext w wr) (fun v _ => x.T.strs.length - lenV v)
  case atStart => exact ⟨[], hI0, Lib.hid (Own.nil _ _ _ _ _), ⟨_, _, _, rfl⟩, rfl, Nat.zero_le _, Lib.hid (Nat.le_refl _), hE0⟩
  case round =>
    obtain ⟨done, hI, HO, ⟨va, vn, vc, rfl⟩, hvn, hdl, HW0, hwr⟩ := hrel
    simp only [lenV] at hvn
    have HI := Lib.hid hI
    have HVN := Lib.hid hvn
    have HDL := Lib.hid hdl
    clear hI hI0 hvn hdl
    go_wp2_with (at_next; refine next_own rfl _ rfl q done rfl HI.out ?_ ?_)
    · intro hperm
      have HPERM := Lib.hid hperm
      clear hperm
      go_wp2_with fail
      refine (sort_own HO.out (by have := HDL.out; have := HSL.out; have := HBX.out.1; omega)).mono ?_
      rintro e w2 ⟨rfl, hO2, hk2⟩
      have hkk : sortK done = sortK (x.T.slots.map (·.1)) := by rw [sortK_of_perm HPERM.out, HKM.out]
      rw [hkk] at hO2
      have hownlo : ∀ j ∈ (Value.slice va vn vc).ownBlock.toList, w.heap.size ≤ j := fun j hj => by have := (HO.out.lt (by simpa using hj)).1; have := HS0.out; omega
      have hE2 : Ext w w2 := hk2.below hwr hwr.size hownlo
      have RK := Lib.hid (hO2.rd enc_k)
      obtain ⟨ks, hks⟩ : ∃ ks, sortK (x.T.slots.map (·.1)) = ks := ⟨_, rfl⟩
      have HKS := Lib.hid hks
      rw [hks] at RK
      have HKN : Hid (vn = ks.length) := Lib.hid (RK.out.num)
      have HTI : Hid (titems (tview S) i = ks.map fun k => (k, (marea (view S.L) (tarea i (((x.T.slots.lookup k).getD 0 : Nat) : Int))).1)) := Lib.hid (by simp only [titems, HP.out]; rw [HKS.out]; rfl)
      have HKI : Hid (∀ k ∈ ks, k.size ≤ 1000) := Lib.hid fun k hk => by
        have h1 : k ∈ x.T.slots.map (·.1) := by rw [← HKS.out] at hk; exact (sortK_perm _).mem_iff.1 hk
        obtain ⟨p, hp, rfl⟩ := List.mem_map.1 h1
        exact HBX.out.2 p hp
      have hvn2 : vn ≤ 1000 := by
        have h1 := (sortK_perm (x.T.slots.map (·.1))).length_eq
        rw [HKS.out, List.length_map] at h1
        have := HKN.out; have := HBX.out.1; omega
      have HT2 := Lib.hid (HT.out.ext hE2)
      clear hO2 hk2 hkk hownlo hks hwr HI HO
      go_wp2_with fail
      go_loopw [50, 7] (fun c v wr => ∃ (j : Nat) (I : List IT), j ≤ vn ∧ c = .int .i64 j ∧ I.length = j ∧ Hid (Own wr w2.heap.size 60 2 IT.enc v I) ∧ Hid (∀ y ∈ I, ∀ w', Keep v.ownBlock.toList wr w' → Sl w' .u8 y.kv y.key ∧ Sl w' .u8 y.vv y.val) ∧ Hid (I.map (fun y => (strOfNums y.key, y.val)) = (titems (tview S) i).take j) ∧ (∃ a n c, v = .slice a n c) ∧ Ext w2 wr) (fun c _ _ => vn - (intOf c).toNat)
      case atStart => exact ⟨0, [], Nat.zero_le _, rfl, rfl, Lib.hid (Own.nil _ _ _ _ _), Lib.hid (by simp), Lib.hid (by simp), ⟨_, _, _, rfl⟩, Ext.rfl' _⟩
      case round =>
        obtain ⟨j, I, hj, rfl, hIl, HO, HSI, HMI, ⟨oa, on, oc, rfl⟩, hwr⟩ := hrel
        have HIL := Lib.hid hIl
        clear hIl
        by_cases hlt2 : (j : Int) < vn
        case neg =>
          have hjn : j = ks.length := by have := HKN.out; omega
          have HJN := Lib.hid hjn
          clear hjn
          go_wp2_with fail
          go_returns
          refine ⟨_, rfl, ⟨I, HO.out.rd enc_it, fun y hy => HSI.out y hy _ (Keep.rfl' _ _), ?_⟩, hE2.trans' hwr⟩
          rw [HMI.out, HJN.out, List.take_of_length_le (by rw [HTI.out, List.length_map]; exact Nat.le_refl _)]
        case pos =>
          obtain ⟨k, hk⟩ := at_of_lt (xs := ks) (k := j) (by have := HKN.out; omega)
          have ik := fun W => RK.out.run_at (P := Try.prog) el_str.under el_str.size .i64 (j : Int) (by omega) (by omega) W
          have ck := (RK.out.ext hwr).cell hk (j := 0) rfl
          simp only [Nat.mul_one, Nat.add_zero, Int.toNat_natCast] at ik ck
          have HK := Lib.hid hk
          have hks2 := HKI.out k (List.mem_of_getElem? hk)
          have hTr := HT2.out.ext hwr
          have hTd := hTr.ext (Ext.drew' (Ext.rfl' wr))
          have hTS : Hid (∀ w', Ext wr w' → w'.cell? ⟨tb, 0, none⟩ = some (.pointer (some ⟨S.b, 0, none⟩)) ∧ w'.cell? ⟨tb, 1, none⟩ = some (.slice ma mn mc) ∧ w'.cell? (elt (.slice ma mn mc) i.toNat) = some (.pointer (some ⟨x.a, 0, none⟩)) ∧ w'.cell? ⟨x.a, 4, none⟩ = some (.map (some x.r)) ∧
              (Instr.lookup 77 (.map (some x.r)) (.string k) false).run Try.prog w' = .ok (.int .i64 (((x.T.slots.lookup k).getD 0 : Nat) : Int)) w') := Lib.hid fun w' he => by
            have e0 : Ext w w' := (hE2.trans' hwr).trans' he
            have hT' := HT.out.ext e0
            have lk := (run_lookup_str (P := Try.prog) Try.underlying77 Try.underlying9 zero_int (hT'.slots x HM.out) k).1
            have e1 : ((x.T.strs).lookup k).getD (.int .i64 0) = .int .i64 (((x.T.slots.lookup k).getD 0 : Nat) : Int) := by
              rw [lookup_strs]; cases x.T.slots.lookup k <;> rfl
            rw [e1] at lk
            exact ⟨cell_obj hT'.head, e0.cellOf hb1, e0.cellOf cm, e0.cellOf k4, lk⟩
          have hn1 : (x.T.slots.lookup k).getD 0 ≤ 1024 := by
            cases hc : x.T.slots.lookup k with
            | none => simp
            | some n => exact (HT.out.made x HM.out).2 _ (lookup_mem' hc)
          obtain ⟨n, hn⟩ : ∃ n, (x.T.slots.lookup k).getD 0 = n := ⟨_, rfl⟩
          have HN := Lib.hid hn
          rw [hn] at hTS hn1
          have s0 := hTS.out wr.drew (Ext.drew' (Ext.rfl' wr))
          clear hk hn
          go_wp2_with fail
          go_region_held3 (fun w' => w'.cell? ⟨tb, 0, none⟩ = some (.pointer (some ⟨S.b, 0, none⟩)) ∧ w'.cell? ⟨tb, 1, none⟩ = some (.slice ma mn mc) ∧ w'.cell? (elt (.slice ma mn mc) i.toNat) = some (.pointer (some ⟨x.a, 0, none⟩)) ∧ w'.cell? ⟨x.a, 4, none⟩ = some (.map (some x.r)) ∧
              (Instr.lookup 77 (.map (some x.r)) (.string k) false).run Try.prog w' = .ok (.int .i64 (n : Int)) w')
            (first | exact s0 | exact s5)
            ((first
              | (go_at_call 20; refine (tab_area i n _ hle (by omega) (by omega) (by omega)).mono ?_; rintro e w4 ⟨rfl, rfl⟩)
              | (go_at_call 19; refine (mem_area S.b S.r S.L (tarea i n) _ hTd.mem).mono ?_; rintro e w5 ⟨bv, rfl, hbv, he5⟩; have s5 := hTS.out w5 (Ext.trans' (Ext.drew' (Ext.rfl' wr)) he5); have HBV := Lib.hid (hbv.rd (enc_int _)); have HBO := Lib.hid hbv; have hw5 : Ext wr w5 := Ext.trans' (Ext.drew' (Ext.rfl' wr)) he5; clear hbv)))
          all_goals
            obtain ⟨ba, bn, bc, rfl, hbn, hBN⟩ := HBV.out.val
            obtain ⟨c6, w6, hrun, hE6, hS6, hlt6⟩ := run_bytes_own k (by omega) w5
            have HS6 := Lib.hid hS6
            have hw6 : Ext wr w6 := hw5.trans' hE6
            have hkl : (numsK k).length = k.size := by unfold numsK; rw [List.length_map, Array.length_toList]; rfl
            have HNEW : Hid ((.cells #[.slice (some ⟨w5.heap.size, 0, none⟩) k.size c6, .slice ba bn bc] 60 : Obj) = .cells (([⟨some ⟨w5.heap.size, 0, none⟩, c6, ba, bc, numsK k, (marea (view S.L) (tarea i n)).1⟩] : List IT).flatMap IT.enc).toArray 60) := Lib.hid (by
              have e1 : bn = (marea (view S.L) (tarea i n)).1.length := hBN.out
              rw [e1, ← hkl]; rfl)
            have HYL : Hid (Rd (w6.alloc (.cells #[.slice (some ⟨w5.heap.size, 0, none⟩) k.size c6, .slice ba bn bc] 60)) 2 IT.enc (.slice (some ⟨w6.heap.size, 0, none⟩) 1 1) [⟨some ⟨w5.heap.size, 0, none⟩, c6, ba, bc, numsK k, (marea (view S.L) (tarea i n)).1⟩]) := Lib.hid (by
              rw [HNEW.out]
              exact (Own.lit enc_it (base := 0) (w := w6) _ rfl rfl (Nat.zero_le _) (by simp [maxLen])).rd enc_it)
            have hO6 := Lib.hid ((HO.out.ext hw6).alloc (.cells #[.slice (some ⟨w5.heap.size, 0, none⟩) k.size c6, .slice ba bn bc] 60))
            have hw7 : Ext wr (w6.alloc (.cells #[.slice (some ⟨w5.heap.size, 0, none⟩) k.size c6, .slice ba bn bc] 60)) := hw6.alloc' _
            have hwz := hwr.size
            have hwz2 := hw7.size
            have HKL := Lib.hid hkl
            have HW6 : Hid (w5.heap.size < w6.heap.size) := Lib.hid hlt6
            clear hS6 hkl s5 hbn hlt6
            go_wp2_with (at_builtin; refine app_own2 el_item enc_it rfl _ _ rfl rfl hO6.out rfl HYL.out ?q2 ?q3 ?q4)
            case q2 => have := HIL.out; simp; omega
            case q3 => omega
            intro lv w8 hown hgrow hmv
            obtain ⟨la, ln, lc, rfl, hln, hLN⟩ := (hown.rd enc_it).val
            have hk8 := grown_keep hgrow
            have hlo : ∀ q ∈ (Value.slice oa on oc).ownBlock.toList, w2.heap.size ≤ q := fun q hq => (HO.out.lt (by simpa using hq)).1
            have hE8 : Ext w2 w8 := hk8.below (hwr.trans' hw7) (hwr.trans' hw7).size hlo
            have HO8 := Lib.hid hown
            have hown5 : ∀ q ∈ (Value.slice oa on oc).ownBlock.toList, q < wr.heap.size := fun q hq => (HO.out.lt (by simpa using hq)).2
            have hlv : ∀ q ∈ (Value.slice la ln lc).ownBlock.toList, q ∈ (Value.slice oa on oc).ownBlock.toList ∨ w6.heap.size ≤ q := fun q hq => (hmv q (by simpa using hq)).imp (fun h => by simpa using h) (fun h => by simp at h; omega)
            have hw5s := hw5.size
            have hw6s : w5.heap.size < w6.heap.size := by
              obtain ⟨c, hc⟩ : ∃ c, w5.heap.size = c := ⟨_, rfl⟩
              have h1 := HW6.out
              omega
            have hk9 : Keep (Value.slice oa on oc).ownBlock.toList wr w8 := (Keep.of_ext hw7).trans hk8
            have HS8 : Hid (∀ y ∈ I ++ [⟨some ⟨w5.heap.size, 0, none⟩, c6, ba, bc, numsK k, (marea (view S.L) (tarea i n)).1⟩], ∀ w', Keep (Value.slice la ln lc).ownBlock.toList w8 w' → Sl w' .u8 y.kv y.key ∧ Sl w' .u8 y.vv y.val) := Lib.hid fun y hy w' k' => by
              rcases List.mem_append.1 hy with hy | hy
              · exact HSI.out y hy w' (hk9.through k' (fun q hq => (hlv q hq).imp id (fun h => by omega)))
              · rw [List.mem_singleton] at hy
                subst hy
                have hx6 : Ext w6 (w6.alloc (.cells #[.slice (some ⟨w5.heap.size, 0, none⟩) k.size c6, .slice ba bn bc] 60)) := (Ext.rfl' w6).alloc' _
                constructor
                · have g1 : ∀ q, q ∈ (Value.slice la ln lc).ownBlock.toList → q = w5.heap.size → False := fun q hq e => by
                    rcases hlv _ hq with h | h
                    · have := hown5 _ h; omega
                    · omega
                  have g0 : ∀ q, q ∈ (Value.slice oa on oc).ownBlock.toList → q = w5.heap.size → False := fun q hq e => by
                    have := hown5 _ hq; omega
                  have h1 := ((HS6.out.ext hx6).keep hk8 (fun a n c e => by injection e with e; injection e with e; subst e; intro hq; exact g0 _ hq rfl)).keep k' (fun a n c e => by injection e with e; injection e with e; subst e; intro hq; exact g1 _ hq rfl)
                  simp only [IT.kv, HKL.out]
                  exact h1
                · have h2 := ((HBO.out.ext hE6).ext hx6).keep hk8 (fun j hj hq => by have := hown5 _ hq; have := (HBO.out.lt hj).1; simp at this; omega)
                  have h3 := h2.keep k' (fun j hj hq => by
                    rcases hlv _ hq with h | h
                    · have := hown5 _ h; have := (HBO.out.lt hj).1; simp at this; omega
                    · have := (HBO.out.lt hj).2; omega)
                  have e1 : bn = (marea (view S.L) (tarea i n)).1.length := hBN.out
                  simp only [IT.vv, ← e1]
                  exact h3.rd (enc_int _)
            clear hown hgrow hmv hk8 hlo hw7 hw6 hw5
            go_wp2_with fail
            go_roundw
            case rel =>
              refine ⟨j + 1, I ++ [⟨some ⟨w5.heap.size, 0, none⟩, c6, ba, bc, numsK k, (marea (view S.L) (tarea i n)).1⟩], by omega, by go_num, by simp [HIL.out], HO8, HS8, Lib.hid ?_, ⟨_, _, _, rfl⟩, hE8⟩
              rw [List.map_append, HMI.out, HTI.out, List.take_add_one, List.getElem?_map, HK.out]
              simp only [List.map_cons, List.map_nil, str_numsK, Option.map_some, Option.toList_some, HN.out]
            case measure => simp [intOf]; omega
    · intro s v w' hnot hmem hlen hI' hk' hsz hen
      have hlo : ∀ j, (Value.slice va vn vc).ownBlock = some j → w0.heap.size ≤ j := fun j hj => (HO.out.lt hj).1
      have hO1 := Lib.hid (HO.out.keep hk' (fun j hj hF => by have := hlo j hj; rw [List.mem_singleton] at hF; omega))
      have hE1 : Ext w w' := hk'.below hwr hwr.size (fun j hj => by rw [List.mem_singleton] at hj; omega)
      have HI1 := Lib.hid hI'
      have HLO := Lib.hid hlo
      have hsz2 := hE1.size
      have hxr : x.r < w.heap.size := HSM.out.lt
      have hdn : done.length < 1000 := by have := HDL.out; have := HSL.out; have := HBX.out.1; omega
      have hw0 : w0.heap.size ≤ w'.heap.size := by
        have := HW0.out; rw [hsz]; exact this
      have HYL : Hid (Rd (w'.alloc (.cells #[.string s] 9)) 1 encK (.slice (some ⟨w'.heap.size, 0, none⟩) 1 1) [s]) := Lib.hid ((Own.lit enc_k (base := 0) (e := 9) (w := w') [s] rfl rfl (Nat.zero_le _) (by simp [maxLen])).rd enc_k)
      have hO2 := Lib.hid (hO1.out.alloc (.cells #[.string s] 9))
      have HSZ := Lib.hid hsz
      clear hI' hlo hsz
      go_wp2_with (at_builtin; refine app_own2 el_str enc_k rfl _ _ rfl rfl hO2.out rfl HYL.out ?q6 ?q7 ?q8)
      case q6 => simp; omega
      case q7 => simp; omega
      intro lv w8 hown hgrow hmv
      have hk8 := grown_keep hgrow
      have hE8 : Ext w w8 := hk8.below (hE1.alloc' _) (hE1.alloc' _).size (fun j hj => by have := HLO.out j (by simpa using hj); omega)
      obtain ⟨la, ln, lc, rfl, hln, hLN⟩ := (hown.rd enc_k).val
      have hI8 : Hid (SIter w8 x.r q x.T.strs (done ++ [s])) := Lib.hid ((HI1.out.keep (F := []) (Keep.of_ext ((Ext.rfl' w').alloc' _)) (fun h => by cases h) (fun h => by cases h)).keep hk8 (fun hj => by
        have h1 := HLO.out _ (by simpa using hj)
        omega) (fun hj => by
        have h1 := HLO.out _ (by simpa using hj)
        omega))
      have HO8 := Lib.hid hown
      have hss8 := hk8.size
      have hsa : w'.heap.size ≤ (w'.alloc (.cells #[.string s] 9)).heap.size := ((Ext.rfl' w').alloc' _).size
      clear hgrow hmv hk8 hown hE1 hwr
      go_wp2_with fail
      go_roundw
      case rel => exact ⟨done ++ [s], hI8.out, HO8, ⟨_, _, _, rfl⟩, by have := hLN.out; simp only [lenV]; exact this, by simp; omega, Lib.hid (Nat.le_trans hw0 (Nat.le_trans hsa hss8)), hE8⟩
      case measure => have h1 := HVN.out; have h2 := hLN.out; simp only [List.length_append, List.length_singleton] at h2; simp only [lenV]; omega
end Go.Proofs.Ytjimmbcihcmfoaa
