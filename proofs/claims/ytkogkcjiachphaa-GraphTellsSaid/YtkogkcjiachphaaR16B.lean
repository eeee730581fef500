/- hackleref16: reach. -/
import Derived.Test.YtkogkcjiachphaaR16A
namespace Go.Proofs.Ytkogkcjiachphaa
open Go.RowKit
set_option linter.unusedVariables false
set_option linter.unusedSimpArgs false

theorem mset {M : List Bool} {k : Nat} (hk : k < M.length) (j : Nat) : (M.set k true)[j]? = some true ↔ j = k ∨ M[j]? = some true := by
  by_cases e : j = k
  · subst e; simp [hk]
  · rw [List.getElem?_set_ne (Ne.symm e)]; simp [e]
/-- What is marked, while it is looked for what one comes to from the places fs. -/
structure SInv (A : Nat → List Int) (fs : List Int) (n : Nat) (M : List Bool) : Prop where
  len : M.length = n
  sound : ∀ k : Nat, M[k]? = some true → ∃ s ∈ fs, Conn A s.toNat k
def BaseM (fs : List Int) (M : List Bool) : Prop := ∀ s ∈ fs, M[s.toNat]? = some true
def ClosedTo (A : Nat → List Int) (M : List Bool) (i : Nat) : Prop := ∀ j : Nat, j < i → M[j]? = some true → ∀ t ∈ A j, M[t.toNat]? = some true
theorem SInv.add {A : Nat → List Int} {fs : List Int} {n : Nat} {M : List Bool} (h : SInv A fs n M) {k : Nat} (hk : k < n) (hs : ∃ s ∈ fs, Conn A s.toNat k) : SInv A fs n (M.set k true) :=
  ⟨by simpa using h.len, fun j hj => by
    rcases (mset (by rw [h.len]; exact hk) j).1 hj with rfl | hj
    · exact hs
    · exact h.sound j hj⟩
theorem BaseM.add {fs : List Int} {M : List Bool} (h : BaseM fs M) {k : Nat} (hk : k < M.length) : BaseM fs (M.set k true) := fun s hs => (mset hk _).2 (.inr (h s hs))
open Classical in
/-- To which instructions one may come from some. -/
noncomputable def reachF (L : List Ins) (fs : List Int) : List Bool := (List.range L.length).map (fun k => decide (∃ s ∈ fs, Conn (aheadAt L) s.toNat k))
theorem reachF_length (L : List Ins) (fs : List Int) : (reachF L fs).length = L.length := by simp [reachF]
theorem reachF_at (L : List Ins) (fs : List Int) {k : Nat} (hk : k < L.length) : (reachF L fs)[k]? = some true ↔ ∃ s ∈ fs, Conn (aheadAt L) s.toNat k := by
  simp [reachF, hk]
theorem bools_eq {M N : List Bool} (hl : M.length = N.length) (h : ∀ k, k < M.length → (M[k]? = some true ↔ N[k]? = some true)) : M = N := by
  apply List.ext_getElem?
  intro k
  by_cases hk : k < M.length
  · have h1 := h k hk
    obtain ⟨x, hx⟩ := at_of_lt hk
    obtain ⟨y, hy⟩ := at_of_lt (xs := N) (k := k) (by omega)
    rw [hx, hy] at h1 ⊢
    cases x <;> cases y <;> simp_all
  · rw [List.getElem?_eq_none (by omega), List.getElem?_eq_none (by omega)]
theorem SInv.done {L : List Ins} {fs : List Int} {M : List Bool} (h : SInv (aheadAt L) fs L.length M) (hb : BaseM fs M) (hc : ClosedTo (aheadAt L) M L.length) : M = reachF L fs := by
  refine bools_eq (by rw [h.len, reachF_length]) (fun k hk => ?_)
  rw [reachF_at L fs (by rw [← h.len]; exact hk)]
  refine ⟨h.sound k, fun ⟨s, hs, hc'⟩ => hc' (fun x => M[x]? = some true) (hb s hs) (fun i j hi hj => ?_)⟩
  have := hc i (by rw [← h.len]; exact (List.getElem?_eq_some_iff.1 hi).1) hi _ hj
  simpa using this
def midOk (A : Nat → List Int) (M : List Bool) (i : Nat) (c : Bool) (u0 : Nat) : Prop := (c = false → ClosedTo A M i) ∧ unm M + (if c then 1 else 0) ≤ u0
def innerOk (A : Nat → List Int) (M : List Bool) (i j : Nat) (X : List Int) (c : Bool) (u0 : Nat) : Prop := M[i]? = some true ∧ (c = false → ClosedTo A M i ∧ ∀ t ∈ X.take j, M[t.toNat]? = some true) ∧ unm M + (if c then 1 else 0) ≤ u0
theorem inner_skip {A : Nat → List Int} {M : List Bool} {i j : Nat} {X : List Int} {c : Bool} {u0 : Nat} (h : innerOk A M i j X c u0) {t : Int} (ht : X[j]? = some t) (hm : M[t.toNat]? = some true) : innerOk A M i (j + 1) X c u0 :=
  ⟨h.1, fun hc => ⟨(h.2.1 hc).1, fun u hu => by
    rw [List.take_add_one, ht] at hu
    rcases List.mem_append.1 hu with hu | hu
    · exact (h.2.1 hc).2 u hu
    · simp at hu; rw [hu]; exact hm⟩, h.2.2⟩
theorem inner_mark {A : Nat → List Int} {M : List Bool} {i j : Nat} {X : List Int} {c : Bool} {u0 : Nat} (h : innerOk A M i j X c u0) {t : Nat} (hm : M[t]? = some false) : innerOk A (M.set t true) i (j + 1) X true u0 := by
  have hl : t < M.length := (List.getElem?_eq_some_iff.1 hm).1
  refine ⟨(mset hl i).2 (.inr h.1), (fun hc => by cases hc), ?_⟩
  have h1 := unm_set M t hm
  have h2 := h.2.2
  simp only [if_true]
  omega
theorem inner_end {A : Nat → List Int} {M : List Bool} {i : Nat} {c : Bool} {u0 : Nat} (h : innerOk A M i (A i).length (A i) c u0) : midOk A M (i + 1) c u0 :=
  ⟨fun hc j hj hmj t ht => by
    by_cases e : j = i
    · subst e
      exact (h.2.1 hc).2 t (by rw [List.take_length]; exact ht)
    · exact (h.2.1 hc).1 j (by omega) hmj t ht, h.2.2⟩
theorem mid_skip {A : Nat → List Int} {M : List Bool} {i : Nat} {c : Bool} {u0 : Nat} (h : midOk A M i c u0) (hm : M[i]? = some false) : midOk A M (i + 1) c u0 :=
  ⟨fun hc j hj hmj t ht => by
    by_cases e : j = i
    · subst e; rw [hm] at hmj; cases hmj
    · exact h.1 hc j (by omega) hmj t ht, h.2⟩
theorem inner_start {A : Nat → List Int} {M : List Bool} {i : Nat} {c : Bool} {u0 : Nat} (h : midOk A M i c u0) (hm : M[i]? = some true) (X : List Int) : innerOk A M i 0 X c u0 :=
  ⟨hm, fun hc => ⟨h.1 hc, fun t ht => by simp at ht⟩, h.2⟩
set_option maxRecDepth 20000 in
set_option maxHeartbeats 4000000 in
theorem r16_reach (v vf : Value) (L : List Ins) (fs : List Int) (w : World) (h : Rd w 5 Ins.enc v L) (hf : Rd w 1 encI vf fs) (hl : L.length ≤ 1000000) (hok : InsOk L) (hp : progS L = true) (hfs : ∀ s ∈ fs, 0 ≤ s ∧ s < L.length ∧ (stF false L)[s.toNat]? = some true) :
    Calls Try.prog 67 #[v, vf] w (OwnB (reachF L fs) w) := by
  obtain ⟨a, n, c, rfl, hn, hN⟩ := h.val
  obtain ⟨fa, fn, fc, rfl, hfn, hFN⟩ := hf.val
  have hk2 : n ≤ 1000000 := by rw [hN.out]; exact hl
  have HD := Lib.hid h
  have HF := Lib.hid hf
  have HOK := Lib.hid hok
  have HL := Lib.hid hl
  have HN := Lib.hid hN.out
  have HP := Lib.hid hp
  have HFS := Lib.hid hfs
  have hmk := run_make_bool n hk2
  have HSD : Hid (∀ M, SInv (aheadAt L) fs L.length M → BaseM fs M → ClosedTo (aheadAt L) M L.length → M = reachF L fs) := Lib.hid (fun M h1 h2 h3 => h1.done h2 h3)
  obtain ⟨R, hR⟩ : ∃ R, R = reachF L fs := ⟨_, rfl⟩
  rw [← hR] at HSD ⊢
  clear h hf hl hok hp hfs hR
  go_enter Try.func67, Try.ntmps67
  go_upto_region 1 with fail
  go_cut [5] from 5 to 13 (fun v5 wx => ∃ g, v5 = .slice (some ⟨g, 0, none⟩) n n ∧ g < wx.heap.size ∧ Hid (Own wx w.heap.size 4 1 encB v5 (List.replicate n false) ∧ Ext w wx))
  case first =>
    go_wp2_with fail
    go_meet
    exact ⟨_, rfl, by simp, Lib.hid ⟨own_made_bool _ _ hk2 _ (Nat.le_refl _), by (repeat (first | exact Ext.rfl' _ | assumption | refine Ext.drewN' ?_ _ | refine Ext.drew' ?_ | refine Ext.alloc' ?_ _ | refine Ext.trans' ?_ (by assumption)))⟩⟩
  case rest =>
    obtain ⟨g, rfl, hg, HO⟩ := hcut
    clear hmk
    go_wp2_with fail
    go_loopw [6] (fun q wr => ∃ m : Nat, m ≤ fn ∧ q = .int .i64 m ∧ Hid (∃ M, Own wr w.heap.size 4 1 encB (.slice (some ⟨g, 0, none⟩) n n) M ∧ Ext w wr ∧ SInv (aheadAt L) fs n M ∧ ∀ s ∈ fs.take m, M[s.toNat]? = some true)) (fun q _ => fn - (intOf q).toNat)
    case atStart =>
      refine ⟨0, Nat.zero_le _, rfl, Lib.hid ⟨_, HO.out.1, HO.out.2, ⟨by simp, fun k hk => ?_⟩, fun s hs => by simp at hs⟩⟩
      rw [List.getElem?_replicate] at hk
      split at hk <;> simp at hk
    case round =>
      obtain ⟨m, hm, rfl, HI⟩ := hrel
      obtain ⟨M, hO, hX, hS, hB⟩ := HI.out
      have HO1 := Lib.hid hO
      have HX1 := Lib.hid hX
      have HS1 := Lib.hid hS
      have HB1 := Lib.hid hB
      clear hO hX hS hB HI
      by_cases hlt : (m : Int) < fn
      · obtain ⟨t, ht⟩ := at_of_lt (xs := fs) (k := m) (by have := hFN.out; omega)
        obtain ⟨t0, t1, t2⟩ := HFS.out t (List.mem_of_getElem? ht)
        have t1' : t < n := by rw [HN.out]; exact t1
        obtain ⟨b, hb⟩ := at_of_lt (xs := M) (k := t.toNat) (by rw [HS1.out.len]; omega)
        have iy := fun W => HF.out.run_at (P := Try.prog) el_int.under el_int.size .i64 (m : Int) (by omega) (by omega) W
        have cy := (HF.out.ext HX1.out).cell ht (j := 0) rfl
        have iz := fun W => (HO1.out.rd enc_bool).run_at (P := Try.prog) el_bool.under el_bool.size .i64 t (by omega) (by omega) W
        simp only [Nat.mul_one, Nat.add_zero, Int.toNat_natCast] at iy cy iz
        obtain ⟨f1, f2, f3, f4, f5⟩ := HO1.out.at hb
        have HO2 := Lib.hid (f5 true)
        have HT := Lib.hid ht
        clear f5 f3 hb ht t2 t1
        go_wp2_with fail
        go_roundw
        case rel =>
          refine ⟨m + 1, by omega, by go_num, Lib.hid ⟨M.set t.toNat true, HO2.out.1, HO2.out.2 _ _ HX1.out (Nat.le_refl _), HS1.out.add (by omega) ⟨t, List.mem_of_getElem? HT.out, Conn.rfl' _⟩, fun s hs => ?_⟩⟩
          rw [List.take_add_one, HT.out] at hs
          rw [mset (by rw [HS1.out.len]; omega)]
          rcases List.mem_append.1 hs with hs | hs
          · exact .inr (HB1.out s hs)
          · simp at hs; rw [hs]; exact .inl rfl
        case measure => simp [intOf]; omega
      · have HBM : Hid (BaseM fs M) := Lib.hid (fun s hs => HB1.out s (by rw [List.take_of_length_le (by have := hFN.out; omega)]; exact hs))
        clear HB1
        go_wp2_with fail
        go_loopg [7] (n + 1) (fun gk s7 wr2 => ∃ cc : Bool, s7 = .bool cc ∧ Hid (∃ M, Own wr2 w.heap.size 4 1 encB (.slice (some ⟨g, 0, none⟩) n n) M ∧ Ext w wr2 ∧ SInv (aheadAt L) fs n M ∧ BaseM fs M ∧ (cc = false → ClosedTo (aheadAt L) M n) ∧ unm M + (if cc then 1 else 0) ≤ gk))
        case atStart => exact ⟨true, rfl, Lib.hid ⟨M, HO1.out, HX1.out, HS1.out, HBM.out, (fun h => by cases h), by have := unm_le M; rw [HS1.out.len] at this; simp; omega⟩⟩
        case round =>
          obtain ⟨cc, rfl, HI⟩ := hrel
          obtain ⟨M2, hO, hX, hS, hB, hC, hU⟩ := HI.out
          have HO2 := Lib.hid hO
          have HX2 := Lib.hid hX
          have HS2 := Lib.hid hS
          have HB2 := Lib.hid hB
          have HC2 := Lib.hid hC
          have HU2 := Lib.hid hU
          clear hO hX hS hB hC hU HI
          cases cc with
          | false =>
            go_wp2_with fail
            go_returns
            refine ⟨_, rfl, ?_, HX2.out⟩
            rw [← HSD.out M2 (by rw [← HN.out]; exact HS2.out) HB2.out (by rw [← HN.out]; exact HC2.out trivial)]
            exact HO2.out
          | true =>
            go_wp2_with fail
            go_loopw [7, 8] (fun s7 s8 wr3 => ∃ (i : Nat) (c3 : Bool), i ≤ n ∧ s8 = .int .i64 i ∧ s7 = .bool c3 ∧ Hid (∃ M, Own wr3 w.heap.size 4 1 encB (.slice (some ⟨g, 0, none⟩) n n) M ∧ Ext w wr3 ∧ SInv (aheadAt L) fs n M ∧ BaseM fs M ∧ midOk (aheadAt L) M i c3 (gk - 1))) (fun _ s8 _ => n - (intOf s8).toNat)
            case atStart => exact ⟨0, false, Nat.zero_le _, rfl, rfl, Lib.hid ⟨M2, HO2.out, HX2.out, HS2.out, HB2.out, fun _ j hj => absurd hj (Nat.not_lt_zero _), by have := HU2.out; simp at this ⊢; omega⟩⟩
            case round =>
              obtain ⟨i, c3, hi, rfl, rfl, HI⟩ := hrel
              obtain ⟨M3, hO, hX, hS, hB, hK⟩ := HI.out
              have HO3 := Lib.hid hO
              have HX3 := Lib.hid hX
              have HS3 := Lib.hid hS
              have HB3 := Lib.hid hB
              have HK3 := Lib.hid hK
              clear hO hX hS hB hK HI
              by_cases hlt3 : (i : Int) < n
              · obtain ⟨b, hb⟩ := at_of_lt (xs := M3) (k := i) (by rw [HS3.out.len]; omega)
                have iz := fun W => (HO3.out.rd enc_bool).run_at (P := Try.prog) el_bool.under el_bool.size .i64 (i : Int) (by omega) (by omega) W
                have cz := (HO3.out.rd enc_bool).cell hb (j := 0) rfl
                simp only [Nat.mul_one, Nat.add_zero, Int.toNat_natCast] at iz cz
                have HBI := Lib.hid hb
                clear hb
                cases b with
                | false =>
                  go_wp2_with fail
                  go_roundw
                  case rel => exact ⟨i + 1, c3, by omega, by go_num, rfl, Lib.hid ⟨M3, HO3.out, HX3.out, HS3.out, HB3.out, mid_skip HK3.out HBI.out⟩⟩
                  case measure => simp [intOf]; omega
                | true =>
                  obtain ⟨s0, hs0, hcs⟩ := HS3.out.sound i HBI.out
                  have HCS := Lib.hid hcs
                  have hst := conn_start HP.out (HFS.out s0 hs0).2.2 hcs
                  obtain ⟨x, hx⟩ := at_of_lt (xs := L) (k := i) (by rw [← HN.out]; omega)
                  have hA : aheadAt L i = aheadL L x i := by unfold aheadAt; rw [hx]
                  have HA := Lib.hid hA
                  have HX := Lib.hid hx
                  have HST := Lib.hid hst
                  have HS0 := Lib.hid hs0
                  have HXIN := Lib.hid (fun t (ht : t ∈ aheadL L x i) => within HP.out hst t (by rw [hA]; exact ht))
                  have hgl := (HO3.out.lt (k := g) rfl).2
                  clear hcs hst hx hA hs0
                  go_wp2_with fail
                  refine (r16_ahead _ L i x _ (HD.out.ext HX3.out) HL.out HP.out HST.out HX.out (HOK.out.at HX.out)).mono ?_
                  rintro e w5 ⟨v5, rfl, hO5, hE5⟩
                  obtain ⟨xa, xn, xc, hxv, hxn, hXN⟩ := (hO5.rd (enc_int .i64)).val
                  subst hxv
                  have HO5 := Lib.hid hO5
                  have HE5 := Lib.hid hE5
                  clear hO5 hE5 iz cz
                  go_wp2_with fail
                  go_loopw [7, 10] (fun s7 s10 wr4 => ∃ (j : Nat) (c4 : Bool), j ≤ xn ∧ s10 = .int .i64 j ∧ s7 = .bool c4 ∧ Hid (∃ M, Own wr4 w.heap.size 4 1 encB (.slice (some ⟨g, 0, none⟩) n n) M ∧ Own wr4 wr.heap.size 3 1 encI (.slice xa xn xc) (aheadL L x i) ∧ Ext w wr4 ∧ SInv (aheadAt L) fs n M ∧ BaseM fs M ∧ innerOk (aheadAt L) M i j (aheadL L x i) c4 (gk - 1))) (fun _ s10 _ => xn - (intOf s10).toNat)
                  case atStart => exact ⟨0, c3, Nat.zero_le _, rfl, rfl, Lib.hid ⟨M3, HO3.out.ext HE5.out, HO5.out, HX3.out.trans' HE5.out, HS3.out, HB3.out, inner_start HK3.out HBI.out _⟩⟩
                  case round =>
                    obtain ⟨j, c4, hj, rfl, rfl, HI⟩ := hrel
                    obtain ⟨M4, hO, hOX, hX, hS, hB, hK⟩ := HI.out
                    have HO4 := Lib.hid hO
                    have HOX := Lib.hid hOX
                    have HX4 := Lib.hid hX
                    have HS4 := Lib.hid hS
                    have HB4 := Lib.hid hB
                    have HK4 := Lib.hid hK
                    clear hO hX hS hB hK HI hOX
                    by_cases hlt4 : (j : Int) < xn
                    · obtain ⟨t, ht⟩ := at_of_lt (xs := aheadL L x i) (k := j) (by have := hXN.out; omega)
                      obtain ⟨t0, t1, t2⟩ := HXIN.out t (List.mem_of_getElem? ht)
                      obtain ⟨tn, rfl⟩ : ∃ tn : Nat, t = tn := ⟨t.toNat, by omega⟩
                      have t1' : (tn : Int) < n := by rw [HN.out]; exact t1
                      obtain ⟨b, hb⟩ := at_of_lt (xs := M4) (k := tn) (by rw [HS4.out.len]; omega)
                      have iy := fun W => (HOX.out.rd (enc_int .i64)).run_at (P := Try.prog) el_int.under el_int.size .i64 (j : Int) (by omega) (by omega) W
                      have cy := (HOX.out.rd (enc_int .i64)).cell ht (j := 0) rfl
                      have iz := fun W => (HO4.out.rd enc_bool).run_at (P := Try.prog) el_bool.under el_bool.size .i64 (tn : Int) (by omega) (by omega) W
                      have cz := (HO4.out.rd enc_bool).cell hb (j := 0) rfl
                      simp only [Nat.mul_one, Nat.add_zero, Int.toNat_natCast] at iy cy iz cz
                      have HT := Lib.hid ht
                      have HBT := Lib.hid hb
                      clear ht t1 t2 t0
                      cases b with
                      | true =>
                        clear hb
                        go_wp2_with fail
                        go_roundw
                        case rel => exact ⟨j + 1, c4, by omega, by go_num, rfl, Lib.hid ⟨M4, HO4.out, HOX.out, HX4.out, HS4.out, HB4.out, inner_skip HK4.out HT.out (by simpa using HBT.out)⟩⟩
                        case measure => simp [intOf]; omega
                      | false =>
                        obtain ⟨f1, f2, f3, f4, f5⟩ := HO4.out.at hb
                        have HO6 := Lib.hid (f5 true)
                        have HOY := Lib.hid (HOX.out.other (a := elt (.slice (some ⟨g, 0, none⟩) n n) tn) (by rw [elt_block]; exact hgl) (.bool true))
                        clear f5 f3 hb
                        go_wp2_with fail
                        go_roundw
                        case rel => exact ⟨j + 1, true, by omega, by go_num, rfl, Lib.hid ⟨M4.set tn true, HO6.out.1, HOY.out, HO6.out.2 _ _ HX4.out (Nat.le_refl _), HS4.out.add (by omega) ⟨s0, HS0.out, HCS.out.step (by rw [HA.out]; exact List.mem_of_getElem? HT.out)⟩, HB4.out.add (by rw [HS4.out.len]; omega), inner_mark HK4.out HBT.out⟩⟩
                        case measure => simp [intOf]; omega
                    · obtain rfl : j = (aheadL L x i).length := by have := hXN.out; omega
                      have HMO : Hid (midOk (aheadAt L) M4 (i + 1) c4 (gk - 1)) := Lib.hid (inner_end (by have := HK4.out; rw [HA.out]; exact this))
                      go_wp2_with fail
                      go_roundw
                      case rel => exact ⟨i + 1, c4, by omega, by go_num, rfl, Lib.hid ⟨M4, HO4.out, HX4.out, HS4.out, HB4.out, HMO.out⟩⟩
                      case measure => simp [intOf]; omega
              · obtain rfl : i = n := by omega
                go_wp2_with fail
                go_roundg (gk - 1)
                case measure => have := HU2.out; simp at this; omega
                case rel => exact ⟨c3, rfl, Lib.hid ⟨M3, HO3.out, HX3.out, HS3.out, HB3.out, HK3.out.1, HK3.out.2⟩⟩
end Go.Proofs.Ytkogkcjiachphaa
