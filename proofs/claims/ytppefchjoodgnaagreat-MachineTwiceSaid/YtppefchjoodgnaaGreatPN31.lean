/- What the claim leans on: PmM · PmN. -/
import Derived.Test.YtppefchjoodgnaaGreatPN28
import Derived.Test.YtppefchjoodgnaaGreatPN30
import Derived.Deep.CutBlock
namespace Go.Proofs.YtppefchjoodgnaaGreat
open Go.RowKit
set_option linter.unusedVariables false
set_option linter.unusedSimpArgs false
def HelpsA (Q F0 Z0 : List Nat) (wf : World) (base mb : Nat) (r : RS × Int × Int) (w : World) (e : Ending) (w' : World) : Prop :=
 e = .returned (.tuple #[.int .u64 r.2.1, .int .i64 r.2.2]) ∧ (∃ T', VRel (r.1.V.1, T') r.1.V ∧ PRelQ Q F0 Z0 wf base w' mb (r.1.vt T')) ∧ ∀ q ∈ Q, ∀ o, w.heap[q]? = some o → w'.heap[q]? = some o
section
variable {Q F0 Z0 : List Nat} {wf w w' : World} {base mb : Nat} {σ : RS} {T : List TM} {y : CB} {sv : Value}
theorem vt_of {U U' : Areas × List TM} (r : VRel U U') : ({ σ with V := U } : RS) = ({ σ with V := U' } : RS).vt U.2 ∧ VRel (U'.1, U.2) U' := by
 have e : U'.1 = U.1 := r.mem
 refine ⟨?_, ?_⟩
 ·unfold RS.vt
  simp only [e]
 ·have := r
  rw [e]
  exact this
theorem PRelQ.more {σ : RS} (h : PRelQ Q F0 Z0 wf base w mb σ) {w1 : World} (he : Ext w w1) {Q' : List Nat} (hQ : ∀ q ∈ Q', w.heap.size ≤ q ∧ q < w1.heap.size) : PRelQ (Q' ++ Q) F0 Z0 wf base w1 mb σ := by
 obtain ⟨h0, hl, l, h1, h2, h3, h4⟩ := h
 refine ⟨h0.through (F := []) (Keep.of_ext he) (fun _ hj => by cases hj), hl, l, h1.ext he, h2, h3, fun q hq => ?_⟩
 rcases List.mem_append.1 hq with hq | hq
 ·exact ⟨(hQ q hq).2, fun h => by have := h1.lt q h; have := (hQ q hq).1; omega, fun h => by have := (h1.frz q h).2; have := (hQ q hq).1; omega⟩
 ·exact ⟨Nat.lt_of_lt_of_le (h4 q hq).1 he.size, (h4 q hq).2⟩
theorem PRelQ.sub {σ : RS} {Q' : List Nat} (h : PRelQ Q F0 Z0 wf base w mb σ) (hQ : ∀ q ∈ Q', q ∈ Q) : PRelQ Q' F0 Z0 wf base w mb σ := by
 obtain ⟨h0, hl, l, h1, h2, h3, h4⟩ := h
 exact ⟨h0, hl, l, h1, h2, h3, fun q hq => h4 q (hQ q hq)⟩
theorem helps_box (w : World) (y : CB) (sv : Value) (tl : Int) (dw : Bool) (mo : Int) : Hid (Ext w ((w.alloc (cbObj y)).alloc (sigObj sv tl dw mo)) ∧ ((w.alloc (cbObj y)).alloc (sigObj sv tl dw mo)).heap[w.heap.size]? = some (cbObj y)) :=
 η ⟨by (repeat (first|exact xE0 _|assumption|refine xE1 ?_ _|refine xE2 ?_|refine xE3 ?_ _|refine xE4 ?_ (by assumption))), by (repeat (first | (refine obj_top _ _ ?_; simp; done) | refine obj_old _ ?_))⟩
set_option maxHeartbeats 2000000 in
theorem p_helps1 (h : PRelQ Q F0 Z0 wf base w mb (σ.vt T)) (r : VRel (σ.V.1, T) σ.V) (hc : CAt w 0 y) (hi : y.c.id = 1) :
  Calls Tryz.prog 132 #[.pointer (some ⟨mb, 0, none⟩), .agg y.enc.toArray, .agg #[sv, .int .u8 (tells y.c.id), .bool (draws y.c.id), .int .u64 (most y.c.id)]] w (HelpsA Q F0 Z0 wf base mb (σ.helps y.c) w) := by
 have e1 : σ.helps y.c = (σ, tlook T y.c.map y.c.key) := by
  have : σ.acts y.c = (σ.V, tlook σ.V.2 y.c.map y.c.key) := by rw [RS.acts, if_pos hi]
  rw [RS.helps, if_neg (by rw [hi]; decide), this, look_rel r]
 rw [e1, hi]
 obtain ⟨tb, ct, HL, -⟩ := h.tabs
 have HR := η h
 have HV := η r
 have HC := η hc
 have hlt := h.rel.lt
 have HBX := helps_box w y sv 2 false 0
 clear h r hc e1
 obtain ⟨⟨id, map, key, val, n, ret⟩, ka, kc, va, vc, na, nc⟩ := y
 simp only at hi
 subst hi
 change Calls Tryz.prog 132 #[.pointer (some ⟨mb, 0, none⟩), .agg #[.int .i64 1, .int .i64 map, .slice ka key.length kc, .slice va val.length vc, .slice na n.length nc, .int .u64 ret], .agg #[sv, .int .u8 2, .bool false, .int .u64 0]] w _
 go_enter Tryz.func132, Tryz.ntmps132
 go_upto_region 7 with fail
 simp only [cbObj, sigObj] at HBX
 generalize hF : (w.alloc (.cells #[.int .i64 1, .int .i64 map, .slice ka key.length kc, .slice va val.length vc, .slice na n.length nc, .int .u64 ret] 76 (0, 0))).alloc (.cells #[sv, .int .u8 2, .bool false, .int .u64 0] 178 (0, 0)) = wa at HBX ⊢
 have x1 : wa.cell? ⟨w.heap.size, 1, none⟩ = some (.int .i64 map) := cO HBX.out.2
 have x2 : wa.cell? ⟨w.heap.size, 2, none⟩ = some (.slice ka key.length kc) := cO HBX.out.2
 have cm := HBX.out.1.cellOf ct
 have x1g := Grow.cell x1
 have x2g := Grow.cell x2
 have cmg := Grow.cell cm
 clear x1 x2 cm ct hF
 (refine wp_region_grow (by kernel_rfl) (by kernel_rfl) ?_; (repeat (go_big_quiet_step ((go_at_call 173; exact Calls.grow (HL.out _ _ _ key (HBX.out.1.trans' (Grow.ext _)) ((HC.out.key.ext (HBX.out.1.trans' (Grow.ext _))).rd (enc_int _))))))); refine wpQuiet_nil ?_; rintro wz ⟨nz, hz⟩; have hwq := nz.ext; rw [← hz] at hwq; clear hz)
 have HE := η (HBX.out.1.trans' hwq)
 go_wp2_with fail
 go_returns
 exact ⟨rfl, ⟨T, HV.out, HR.out.go HE.out⟩, fun q hq o ho => HE.out.obj ho⟩
set_option maxHeartbeats 2000000 in
theorem p_helps3 (h : PRelQ Q F0 Z0 wf base w mb (σ.vt T)) (r : VRel (σ.V.1, T) σ.V) (hc : CAt w 0 y) (hi : y.c.id = 3) (hv : y.c.val = []) (hk : y.c.key ≠ []) :
  Calls Tryz.prog 132 #[.pointer (some ⟨mb, 0, none⟩), .agg y.enc.toArray, .agg #[sv, .int .u8 (tells y.c.id), .bool (draws y.c.id), .int .u64 (most y.c.id)]] w (HelpsA Q F0 Z0 wf base mb (σ.helps y.c) w) := by
 obtain ⟨hd1, hd2⟩ := drop_rel r y.c.map y.c.key
 have e1 : σ.helps y.c = ({ σ with V := (σ.V.1, (rdrop σ.V.2 y.c.map y.c.key).1) }, (tdrop T y.c.map y.c.key).2) := by
  have : σ.acts y.c = ((σ.V.1, (rdrop σ.V.2 y.c.map y.c.key).1), (rdrop σ.V.2 y.c.map y.c.key).2) := by rw [RS.acts, if_neg (by omega), if_neg (by omega), if_pos hi]
  rw [RS.helps, if_neg (by rw [hi]; decide), this, hd1]
 rw [e1, hi]
 obtain ⟨v1, v2⟩ := vt_of (σ := σ) hd2
 have HR := η h
 have HV1 := η v1
 have HV2 := η v2
 have HC := η hc
 have hlt := h.rel.lt
 have HBX := helps_box w y sv 1 false 18446744073709551615
 clear h r hc e1 hd1 hd2 v1 v2
 obtain ⟨⟨id, map, key, val, n, ret⟩, ka, kc, va, vc, na, nc⟩ := y
 simp only at hi hv hk
 subst hi
 subst hv
 have hkl : decide ((0 : Int) < (key.length : Int)) = true := by
  cases key with
  | nil => exact absurd rfl hk
  | cons a l => simp
 have hkl2 : (0 : Int) < (key.length : Int) := by simpa using hkl
 have hkl3 : 0 < key.length := by omega
 clear hk
 change Calls Tryz.prog 132 #[.pointer (some ⟨mb, 0, none⟩), .agg #[.int .i64 3, .int .i64 map, .slice ka key.length kc, .slice va 0 vc, .slice na n.length nc, .int .u64 ret], .agg #[sv, .int .u8 1, .bool false, .int .u64 18446744073709551615]] w _
 go_enter Tryz.func132, Tryz.ntmps132
 go_upto_region 11 with fail
 simp only [cbObj, sigObj, List.length_nil] at HBX
 generalize hF : (w.alloc (.cells #[.int .i64 3, .int .i64 map, .slice ka key.length kc, .slice va 0 vc, .slice na n.length nc, .int .u64 ret] 76 (0, 0))).alloc (.cells #[sv, .int .u8 1, .bool false, .int .u64 18446744073709551615] 178 (0, 0)) = wa at HBX ⊢
 have x1 : wa.cell? ⟨w.heap.size, 1, none⟩ = some (.int .i64 map) := cO HBX.out.2
 have x2 : wa.cell? ⟨w.heap.size, 2, none⟩ = some (.slice ka key.length kc) := cO HBX.out.2
 have HQ1 := η (HR.out.more HBX.out.1 (Q' := [w.heap.size]) (fun q hq => by rw [List.mem_singleton] at hq; subst hq; exact ⟨Nat.le_refl _, heap_lt HBX.out.2⟩))
 obtain ⟨tb, ct, -, HPD⟩ := HQ1.out.tabs
 have HD := η HPD.2.out
 have hmba := HQ1.out.rel.lt
 have HS : Hid (∀ w' : World, (∀ j, (j ∈ [w.heap.size] ++ Q ∨ j = mb) → ∀ o, wa.heap[j]? = some o → w'.heap[j]? = some o) → w'.cell? ⟨mb, 24, none⟩ = some (.pointer (some ⟨tb, 0, none⟩)) ∧ w'.cell? ⟨w.heap.size, 1, none⟩ = some (.int .i64 map) ∧ w'.cell? ⟨w.heap.size, 2, none⟩ = some (.slice ka key.length kc)) := η (fun w' hk => ⟨cell_kept (a := ⟨mb, 24, none⟩) (hk mb (.inr rfl)) ct, cell_kept (a := ⟨w.heap.size, 1, none⟩) (hk _ (.inl (by simp))) x1, cell_kept (a := ⟨w.heap.size, 2, none⟩) (hk _ (.inl (by simp))) x2⟩)
 clear x1 x2 ct hF HPD
 obtain ⟨s1, s2, s3⟩ := HS.out wa (fun _ _ _ h => h)
 go_region_held3 (fun w' => w'.cell? ⟨mb, 24, none⟩ = some (.pointer (some ⟨tb, 0, none⟩)) ∧ w'.cell? ⟨w.heap.size, 1, none⟩ = some (.int .i64 map) ∧ w'.cell? ⟨w.heap.size, 2, none⟩ = some (.slice ka key.length kc))
  (first | exact HS.out _ HK5.out | exact HS.out _ (fun j hj o ho => Ext.obj (by (repeat (first|exact xE0 _|assumption|refine xE1 ?_ _|refine xE2 ?_|refine xE3 ?_ _|refine xE4 ?_ (by assumption)))) ho))
  ((go_at_call 174; refine (HD.out _ map (.slice ka key.length kc) key (by (repeat (first|exact xE0 _|assumption|refine xE1 ?_ _|refine xE2 ?_|refine xE3 ?_ _|refine xE4 ?_ (by assumption)))) ((HC.out.key.ext (HBX.out.1.trans' (by (repeat (first|exact xE0 _|assumption|refine xE1 ?_ _|refine xE2 ?_|refine xE3 ?_ _|refine xE4 ?_ (by assumption)))))).rd (enc_int _))).mono ?_; rintro e w5 ⟨rfl, hR5, hK5⟩; have K5 : ∀ j, (j ∈ [w.heap.size] ++ Q ∨ j = mb) → ∀ o, wa.heap[j]? = some o → w5.heap[j]? = some o := (fun j hj o ho => hK5 j hj o (Ext.obj (by (repeat (first|exact xE0 _|assumption|refine xE1 ?_ _|refine xE2 ?_|refine xE3 ?_ _|refine xE4 ?_ (by assumption)))) ho)); have HR5 := η hR5; have HK5 := η K5; clear hR5 hK5 K5))
 all_goals
  go_wp2_with fail
  go_returns
  refine ⟨rfl, ⟨_, HV2.out, ?_⟩, fun q hq o ho => HK5.out q (.inl (List.mem_append_right _ hq)) o (HBX.out.1.obj ho)⟩
  rw [← HV1.out]
  exact HR5.out.sub (fun q hq => List.mem_append_right _ hq)
set_option maxHeartbeats 4000000 in
theorem p_helps2 (h : PRelQ Q F0 Z0 wf base w mb (σ.vt T)) (r : VRel (σ.V.1, T) σ.V) (hc : CAt w 0 y) (hq : ∀ j ∈ vblk y.kv ++ (vblk y.vv ++ vblk y.nv), j ∈ Q) (hi : y.c.id = 2) (hv : y.c.val ≠ []) (hn : y.c.n = [σ.R 4]) (ho : σ.Ok) (hb : ∀ q ∈ y.c.val, 0 ≤ q ∧ q ≤ 255) :
  Calls Tryz.prog 132 #[.pointer (some ⟨mb, 0, none⟩), .agg y.enc.toArray, .agg #[sv, .int .u8 (tells y.c.id), .bool (draws y.c.id), .int .u64 (most y.c.id)]] w (HelpsA Q F0 Z0 wf base mb (σ.helps y.c) w) := by
 obtain ⟨hd1, hd2⟩ := put_rel r y.c.map y.c.key y.c.val (σ.R 4)
 have e1 : σ.helps y.c = ({ σ with V := (rput σ.V y.c.map y.c.key y.c.val (σ.R 4)).1 }, (tput (σ.V.1, T) y.c.map y.c.key y.c.val (σ.R 4)).2) := by
  have : σ.acts y.c = rput σ.V y.c.map y.c.key y.c.val (σ.R 4) := by rw [RS.acts, if_neg (by omega), if_pos hi, hn]; rfl
  rw [RS.helps, if_neg (by rw [hi]; decide), this, hd1]
 rw [e1, hi]
 obtain ⟨v1, v2⟩ := vt_of (σ := σ) hd2
 have HR := η h
 have HV1 := η v1
 have HV2 := η v2
 have HC := η hc
 have HB := η hb
 have HR4 := η (ho 4 (by decide))
 have HQB : Hid (∀ j ∈ y.kv.ownBlock.toList ++ y.vv.ownBlock.toList, j ∈ Q) := η (by rw [← own_vblk hc.key, ← own_vblk hc.val]; exact fun j hj => hq j (by rcases List.mem_append.1 hj with h | h; exact List.mem_append_left _ h; exact List.mem_append_right _ (List.mem_append_left _ h)))
 have hqn : ∀ j ∈ vblk y.nv, j ∈ Q := fun j hj => hq j (List.mem_append_right _ (List.mem_append_right _ hj))
 have hnr := hc.n.rd (enc_int .u64)
 have hvb : vblk y.nv = y.nv.ownBlock.toList := own_vblk hc.n
 have hlt := h.rel.lt
 have HBX := helps_box w y sv 1 false 18446744073709551615
 clear h r hc e1 hd1 hd2 v1 v2 hq hb ho hvb
 obtain ⟨⟨id, map, key, val, n, ret⟩, ka, kc, va, vc, na, nc⟩ := y
 simp only at hi hv hn
 subst hi
 subst hn
 simp only [CB.nv, List.length_cons, List.length_nil, Nat.zero_add] at hnr
 have HNB : Hid ((elt (.slice na 1 nc) 0).block ∈ Q) := η (by
  cases hna : na with
  | none => rw [hna] at hnr; have := hnr.of_isNil; omega
  | some a =>
   have e1 : (elt (.slice (some a) 1 nc) 0).block = a.block := by simp only [elt, Addr.add]; split <;> rfl
   rw [e1]
   exact hqn a.block (by simp [CB.nv, hna, vblk]))
 have ixn := fun W => hnr.run_at (P := Tryz.prog) el_u64.under el_u64.size .i64 0 (by omega) (by omega) W
 have cn := hnr.cell (i := 0) (x := σ.R 4) rfl (j := 0) rfl
 simp only [Nat.mul_one, Nat.add_zero, Int.toNat_zero] at ixn cn
 have hkl : decide ((0 : Int) < (val.length : Int)) = true := by
  cases val with
  | nil => exact absurd rfl hv
  | cons a l => simp
 have hkl2 : (0 : Int) < (val.length : Int) := by simpa using hkl
 have hkl3 : 0 < val.length := by omega
 clear hv
 change Calls Tryz.prog 132 #[.pointer (some ⟨mb, 0, none⟩), .agg #[.int .i64 2, .int .i64 map, .slice ka key.length kc, .slice va val.length vc, .slice na 1 nc, .int .u64 ret], .agg #[sv, .int .u8 1, .bool false, .int .u64 18446744073709551615]] w _
 go_enter Tryz.func132, Tryz.ntmps132
 go_upto_region 9 with fail
 simp only [cbObj, sigObj, List.length_cons, List.length_nil, Nat.zero_add] at HBX
 generalize hF : (w.alloc (.cells #[.int .i64 2, .int .i64 map, .slice ka key.length kc, .slice va val.length vc, .slice na 1 nc, .int .u64 ret] 76 (0, 0))).alloc (.cells #[sv, .int .u8 1, .bool false, .int .u64 18446744073709551615] 178 (0, 0)) = wa at HBX ⊢
 have x1 : wa.cell? ⟨w.heap.size, 1, none⟩ = some (.int .i64 map) := cO HBX.out.2
 have x2 : wa.cell? ⟨w.heap.size, 2, none⟩ = some (.slice ka key.length kc) := cO HBX.out.2
 have x3 : wa.cell? ⟨w.heap.size, 3, none⟩ = some (.slice va val.length vc) := cO HBX.out.2
 have x4 : wa.cell? ⟨w.heap.size, 4, none⟩ = some (.slice na 1 nc) := cO HBX.out.2
 have cna := HBX.out.1.cellOf cn
 clear cn
 have HQ1 := η (HR.out.more HBX.out.1 (Q' := [w.heap.size]) (fun q hq => by rw [List.mem_singleton] at hq; subst hq; exact ⟨Nat.le_refl _, heap_lt HBX.out.2⟩))
 obtain ⟨tb, ct, -, HPD⟩ := HQ1.out.tabs
 have HD := η HPD.1.out
 have hmba := HQ1.out.rel.lt
 have HS : Hid (∀ w' : World, (∀ j, (j ∈ [w.heap.size] ++ Q ∨ j = mb) → ∀ o, wa.heap[j]? = some o → w'.heap[j]? = some o) → w'.cell? ⟨mb, 24, none⟩ = some (.pointer (some ⟨tb, 0, none⟩)) ∧ w'.cell? ⟨w.heap.size, 1, none⟩ = some (.int .i64 map) ∧ w'.cell? ⟨w.heap.size, 2, none⟩ = some (.slice ka key.length kc) ∧ w'.cell? ⟨w.heap.size, 3, none⟩ = some (.slice va val.length vc) ∧ w'.cell? ⟨w.heap.size, 4, none⟩ = some (.slice na 1 nc) ∧ w'.cell? (elt (.slice na 1 nc) 0) = some (.int .u64 (σ.R 4))) := η (fun w' hk => ⟨cell_kept (a := ⟨mb, 24, none⟩) (hk mb (.inr rfl)) ct, cell_kept (a := ⟨w.heap.size, 1, none⟩) (hk _ (.inl (by simp))) x1, cell_kept (a := ⟨w.heap.size, 2, none⟩) (hk _ (.inl (by simp))) x2, cell_kept (a := ⟨w.heap.size, 3, none⟩) (hk _ (.inl (by simp))) x3, cell_kept (a := ⟨w.heap.size, 4, none⟩) (hk _ (.inl (by simp))) x4, cell_kept (a := elt (.slice na 1 nc) 0) (hk _ (.inl (List.mem_append_right _ HNB.out))) cna⟩)
 clear x1 x2 x3 x4 cna ct hF HPD
 obtain ⟨s1, s2, s3, s4, s5, s6⟩ := HS.out wa (fun _ _ _ h => h)
 go_region_held3 (fun w' => w'.cell? ⟨mb, 24, none⟩ = some (.pointer (some ⟨tb, 0, none⟩)) ∧ w'.cell? ⟨w.heap.size, 1, none⟩ = some (.int .i64 map) ∧ w'.cell? ⟨w.heap.size, 2, none⟩ = some (.slice ka key.length kc) ∧ w'.cell? ⟨w.heap.size, 3, none⟩ = some (.slice va val.length vc) ∧ w'.cell? ⟨w.heap.size, 4, none⟩ = some (.slice na 1 nc) ∧ w'.cell? (elt (.slice na 1 nc) 0) = some (.int .u64 (σ.R 4)))
  (first | exact HS.out _ HK5.out | exact HS.out _ (fun j hj o ho => Ext.obj (by (repeat (first|exact xE0 _|assumption|refine xE1 ?_ _|refine xE2 ?_|refine xE3 ?_ _|refine xE4 ?_ (by assumption)))) ho))
  ((go_at_call 54; refine (HD.out _ 0 map (.slice ka key.length kc) key (.slice va val.length vc) val (σ.R 4) (by (repeat (first|exact xE0 _|assumption|refine xE1 ?_ _|refine xE2 ?_|refine xE3 ?_ _|refine xE4 ?_ (by assumption)))) (fun j hj => List.mem_append_right _ (HQB.out j hj)) (HC.out.key.ext (HBX.out.1.trans' (by (repeat (first|exact xE0 _|assumption|refine xE1 ?_ _|refine xE2 ?_|refine xE3 ?_ _|refine xE4 ?_ (by assumption)))))) (HC.out.val.ext (HBX.out.1.trans' (by (repeat (first|exact xE0 _|assumption|refine xE1 ?_ _|refine xE2 ?_|refine xE3 ?_ _|refine xE4 ?_ (by assumption)))))) HB.out HR4.out).mono ?_; rintro e w5 ⟨rfl, hR5, hK5⟩; have K5 : ∀ j, (j ∈ [w.heap.size] ++ Q ∨ j = mb) → ∀ o, wa.heap[j]? = some o → w5.heap[j]? = some o := (fun j hj o ho => hK5 j hj o (Ext.obj (by (repeat (first|exact xE0 _|assumption|refine xE1 ?_ _|refine xE2 ?_|refine xE3 ?_ _|refine xE4 ?_ (by assumption)))) ho)); have HR5 := η hR5; have HK5 := η K5; clear hR5 hK5 K5))
 all_goals
  go_wp2_with fail
  go_returns
  refine ⟨rfl, ⟨_, HV2.out, ?_⟩, fun q hq o ho => HK5.out q (.inl (List.mem_append_right _ hq)) o (HBX.out.1.obj ho)⟩
  rw [← HV1.out]
  exact HR5.out.sub (fun q hq => List.mem_append_right _ hq)
set_option maxHeartbeats 2000000 in
theorem p_helps6 (h : PRelQ Q F0 Z0 wf base w mb (σ.vt T)) (r : VRel (σ.V.1, T) σ.V) (hi : y.c.id = 6) (hv : y.c.val = []) (hk : y.c.key = []) :
  Calls Tryz.prog 132 #[.pointer (some ⟨mb, 0, none⟩), .agg y.enc.toArray, .agg #[sv, .int .u8 (tells y.c.id), .bool (draws y.c.id), .int .u64 (most y.c.id)]] w (HelpsA Q F0 Z0 wf base mb (σ.helps y.c) w) := by
 have e1 : σ.helps y.c = (σ, 0, 0) := by
  have : σ.acts y.c = (σ.V, 0, 0) := by rw [RS.acts, if_neg (by omega), if_neg (by omega), if_neg (by omega)]
  rw [RS.helps, if_neg (by rw [hi]; decide), this]
 rw [e1, hi]
 have HR := η h
 have HV := η r
 clear h r e1
 obtain ⟨⟨id, map, key, val, n, ret⟩, ka, kc, va, vc, na, nc⟩ := y
 simp only at hi hv hk
 subst hi
 subst hv
 subst hk
 change Calls Tryz.prog 132 #[.pointer (some ⟨mb, 0, none⟩), .agg #[.int .i64 6, .int .i64 map, .slice ka 0 kc, .slice va 0 vc, .slice na n.length nc, .int .u64 ret], .agg #[sv, .int .u8 1, .bool false, .int .u64 0]] w _
 go_enter Tryz.func132, Tryz.ntmps132
 go_wp2_with fail
 go_returns
 exact ⟨rfl, ⟨T, HV.out, HR.out.go (by (repeat (first|exact xE0 _|assumption|refine xE1 ?_ _|refine xE2 ?_|refine xE3 ?_ _|refine xE4 ?_ (by assumption))))⟩, fun q hq o ho => Ext.obj (by (repeat (first|exact xE0 _|assumption|refine xE1 ?_ _|refine xE2 ?_|refine xE3 ?_ _|refine xE4 ?_ (by assumption)))) ho⟩
set_option maxHeartbeats 2000000 in
theorem p_helpsD (h : PRelQ Q F0 Z0 wf base w mb (σ.vt T)) (r : VRel (σ.V.1, T) σ.V) (hi : y.c.id = 5 ∨ y.c.id = 7 ∨ y.c.id = 8) (hdl : σ.dr.length ≤ 1000000) :
  Calls Tryz.prog 132 #[.pointer (some ⟨mb, 0, none⟩), .agg y.enc.toArray, .agg #[sv, .int .u8 (tells y.c.id), .bool (draws y.c.id), .int .u64 (most y.c.id)]] w (HelpsA Q F0 Z0 wf base mb (σ.helps y.c) w) := by
 have hdr : draws y.c.id = true := by rcases hi with h | h | h <;> rw [h] <;> rfl
 have e1 : σ.helps y.c = ((if drawnErr y.c.id σ.dr ≠ 0 then σ else { σ with dr := drawnRest y.c.id σ.dr }), drawn y.c.id σ.dr, drawnErr y.c.id σ.dr) := by rw [RS.helps, if_pos hdr]
 obtain ⟨τ, n0, er, hres⟩ : ∃ a b c, σ.helps y.c = (a, b, c) := ⟨_, _, _, rfl⟩
 rw [hres] at e1 ⊢
 rw [hdr]
 injection e1 with ee1 ee2
 injection ee2 with ee2 ee3
 subst ee2
 clear hres
 have HR := η h
 have HV := η r
 have hlt := h.rel.lt
 obtain ⟨h0, hl, l, g1, g2, g3, g4⟩ := h
 obtain ⟨da, dn, dc, hdv, hdn, hDN⟩ := g1.draws.val
 have cd := g1.cell 26 rfl
 have hds := g1.draws
 rw [hdv] at cd hds
 have HMH := η g1.head
 have HCD := η cd
 have HDS := η hds
 have HQM : Hid (∀ q ∈ Q, q ≠ mb) := η (fun q hq e => (g4 q hq).2.1 (by rw [e]; simp [pfoot]))
 have HBX := helps_box w y sv (tells y.c.id) true (most y.c.id)
 have HDR := η (fun (W : World) (v : Value) (xs : List Int) (he : Ext w W) (hO : Own W w.heap.size 29 1 (fun x => [Value.int .u64 x]) v xs) => HR.out.setDraw he hO)
 have HEE := η ee1
 have HER := η ee3
 clear h0 hl g1 g2 g3 g4 hdv hds hdr r ee1 ee3
 obtain ⟨⟨id, map, key, val, n, ret⟩, ka, kc, va, vc, na, nc⟩ := y
 simp only at hi HBX HEE HER
 dsimp only
 rw [← HER.out] at HEE
 clear hi
 have HDW := η (fun W (he : Ext w W) => (pdraw_own id (.slice da dn dc) σ.dr W (HDS.out.ext he) (by omega)).mono (R' := fun e w' => ∃ v, e = .returned (.tuple #[.int .u64 (drawn id σ.dr), v, .int .i64 er]) ∧ Own w' W.heap.size 29 1 (fun x => [Value.int .u64 x]) v (drawnRest id σ.dr) ∧ Ext W w') (fun e w' h => by rw [HER.out]; exact h))
 change Calls Tryz.prog 132 #[.pointer (some ⟨mb, 0, none⟩), .agg #[.int .i64 id, .int .i64 map, .slice ka key.length kc, .slice va val.length vc, .slice na n.length nc, .int .u64 ret], .agg #[sv, .int .u8 (tells id), .bool true, .int .u64 (most id)]] w _
 go_enter Tryz.func132, Tryz.ntmps132
 go_upto_region 2 with fail
 simp only [cbObj, sigObj] at HBX
 generalize hF : (w.alloc (.cells #[.int .i64 id, .int .i64 map, .slice ka key.length kc, .slice va val.length vc, .slice na n.length nc, .int .u64 ret] 76 (0, 0))).alloc (.cells #[sv, .int .u8 (tells id), .bool true, .int .u64 (most id)] 178 (0, 0)) = wa at HBX ⊢
 have x0 : wa.cell? ⟨w.heap.size, 0, none⟩ = some (.int .i64 id) := cO HBX.out.2
 have cm := HBX.out.1.cellOf cd
 have hmba := HBX.out.1.size
 have HS : Hid (∀ w', Ext wa w' → w'.cell? ⟨mb, 26, none⟩ = some (.slice da dn dc) ∧ w'.cell? ⟨w.heap.size, 0, none⟩ = some (.int .i64 id)) := η (fun w' he => ⟨he.cellOf cm, he.cellOf x0⟩)
 clear x0 cm cd hF
 obtain ⟨s1, s2⟩ := HS.out wa (Ext.rfl' _)
 go_region_held3 (fun w' => w'.cell? ⟨mb, 26, none⟩ = some (.slice da dn dc) ∧ w'.cell? ⟨w.heap.size, 0, none⟩ = some (.int .i64 id))
  (exact HS.out _ (by (repeat (first|exact xE0 _|assumption|refine xE1 ?_ _|refine xE2 ?_|refine xE3 ?_ _|refine xE4 ?_ (by assumption)))))
  ((go_at_call 172; refine (HDW.out _ (HBX.out.1.trans' (by (repeat (first|exact xE0 _|assumption|refine xE1 ?_ _|refine xE2 ?_|refine xE3 ?_ _|refine xE4 ?_ (by assumption)))))).mono ?_; rintro e w5 ⟨v5, rfl, hO5, hE5⟩; obtain ⟨va5, vn5, vc5, rfl, hvn, hVN⟩ := (hO5.rd (enc_int .u64)).val; have hE6 : Ext wa w5 := (by (repeat (first|exact xE0 _|assumption|refine xE1 ?_ _|refine xE2 ?_|refine xE3 ?_ _|refine xE4 ?_ (by assumption)))); have HE5 := η (HBX.out.1.trans' hE6); have HO5 : Hid (Own w5 w.heap.size 29 1 (fun x => [Value.int .u64 x]) (.slice va5 vn5 vc5) (drawnRest id σ.dr)) := η (hO5.mono (show Ext w _ from HBX.out.1.trans' (by (repeat (first|exact xE0 _|assumption|refine xE1 ?_ _|refine xE2 ?_|refine xE3 ?_ _|refine xE4 ?_ (by assumption))))).size); clear hO5 hE5))
 all_goals
  have mc : w5.cell? ⟨mb, 26, none⟩ = some (.slice da dn dc) := HE5.out.cellOf HCD.out
  have mf := fun i => frozen_obj (i := i) (HE5.out.obj HMH.out)
  have hmb5 := HE5.out.size
  by_cases her : er = 0
  ·subst her
   obtain rfl : τ = { σ with dr := drawnRest id σ.dr } := by rw [HEE.out]; exact if_neg (by simp)
   go_wp2_with fail
   go_returns
   exact ⟨rfl, ⟨T, HV.out, HDR.out _ _ _ HE5.out HO5.out⟩, fun q hq o ho => (heap_setCell_other w5 ⟨mb, 26, none⟩ q _ (HQM.out q hq)).trans (HE5.out.obj ho)⟩
  ·obtain rfl : τ = σ := by rw [HEE.out]; exact if_pos her
   have hb0 : (er == 0) = false := by simpa using her
   clear her
   go_wp2_with fail
   go_returns
   exact ⟨rfl, ⟨T, HV.out, HR.out.go HE5.out⟩, fun q hq o ho => HE5.out.obj ho⟩
theorem p_helps (h : PRelQ Q F0 Z0 wf base w mb (σ.vt T)) (r : VRel (σ.V.1, T) σ.V) (hc : CAt w 0 y) (hq : ∀ j ∈ vblk y.kv ++ (vblk y.vv ++ vblk y.nv), j ∈ Q) (hh : helper y.c.id = true) (ht : σ.told y.c.id = (y.c, 0)) (ho : σ.Ok) (hD : DefsOk σ.D) (hb : BytesOk σ.V.1) (hdl : σ.dr.length ≤ 1000000) :
  Calls Tryz.prog 132 #[.pointer (some ⟨mb, 0, none⟩), .agg y.enc.toArray, .agg #[sv, .int .u8 (tells y.c.id), .bool (draws y.c.id), .int .u64 (most y.c.id)]] w (HelpsA Q F0 Z0 wf base mb (σ.helps y.c) w) := by
 have h2 : (σ.told y.c.id).2 = 0 := by rw [ht]
 have h1 : (σ.told y.c.id).1 = y.c := by rw [ht]
 rcases ids y.c.id with hi | hi | hi | hi | hi | hi | hi | hi
 ·exact p_helps1 h r hc hi
 ·have a := told1234 ho hD (by rw [hi]; simp [tolds]) h2
  have b := told2_n (σ := σ) (by rw [← hi]; exact h2)
  have c := told_val (σ := σ) hb y.c.id
  rw [h1] at a c
  rw [← hi, h1] at b
  exact p_helps2 h r hc hq hi a b ho c
 ·have a := told12 ho hD (by rw [hi]; simp [tolds]) h2
  rw [h1] at a
  exact p_helps3 h r hc hi a.2 a.1
 ·exact p_helpsD h r (.inl hi) hdl
 ·have a := told_no (σ := σ) (id := y.c.id) (by omega) (by omega) (by omega)
  rw [h1] at a
  exact p_helps6 h r hi a.2 a.1
 ·exact p_helpsD h r (.inr (.inl hi)) hdl
 ·exact p_helpsD h r (.inr (.inr hi)) hdl
 ·simp [helper, hi] at hh
end
section
variable {F0 Z0 : List Nat} {wf w w' : World} {base mb : Nat} {σ : RS} {l : PLay}
structure CallP (Q F0 Z0 : List Nat) (wf : World) (base mb : Nat) (σ : RS) (p q : Nat) (sv : Value) (id : Int) (w : World) (y : CB) : Prop where
 rel : PRelQ Q F0 Z0 wf base w mb σ
 sig : w.heap[p]? = some (sigObj sv (tells id) (draws id) (most id))
 box : w.heap[q]? = some (cbObj y)
 c : CAt w 0 y
 hp : p ∈ Q ∧ wf.heap.size ≤ p ∧ p ≠ q ∧ p ≠ mb
 hq : q ∈ Q ∧ wf.heap.size ≤ q ∧ q ≠ mb
 hy : ∀ j ∈ vblk y.kv ++ (vblk y.vv ++ vblk y.nv), j ∈ Q ∧ wf.heap.size ≤ j ∧ j ≠ q
theorem CallP.step {Q : List Nat} {p q : Nat} {sv : Value} {id : Int} {y : CB} (h : CallP Q F0 Z0 wf base mb σ p q sv id w y) {σ' : RS} {w5 : World} (hr : PRelQ Q F0 Z0 wf base w5 mb σ') (hk : ∀ j ∈ Q, ∀ o, w.heap[j]? = some o → w5.heap[j]? = some o) : CallP Q F0 Z0 wf base mb σ' p q sv id w5 y := by
 have hv : ∀ {v : Value} {e : TypeId} {sz : Nat} {α : Type} {enc : α → List Value} {xs : List α}, Own w 0 e sz enc v xs → (∀ j ∈ vblk v, j ∈ Q) → Own w5 0 e sz enc v xs := fun ho hj => own_objs ho (fun j o h1 h2 => hk j (hj j (by rw [own_vblk ho]; simp [h1])) o h2)
 exact ⟨hr, hk p h.hp.1 _ h.sig, hk q h.hq.1 _ h.box, ⟨hv h.c.key (fun j hj => (h.hy j (by simp [hj])).1), hv h.c.val (fun j hj => (h.hy j (by simp [hj])).1), hv h.c.n (fun j hj => (h.hy j (by simp [hj])).1)⟩, h.hp, h.hq, h.hy⟩
theorem CallP.ext {Q : List Nat} {p q : Nat} {sv : Value} {id : Int} {y : CB} (h : CallP Q F0 Z0 wf base mb σ p q sv id w y) (he : Ext w w') : CallP Q F0 Z0 wf base mb σ p q sv id w' y :=
 h.step (h.rel.go he) (fun j _ o ho => he.obj ho)
theorem CallP.ret {Q : List Nat} {p q : Nat} {sv : Value} {id : Int} {y : CB} (h : CallP Q F0 Z0 wf base mb σ p q sv id w y) (n : Int) : CallP Q F0 Z0 wf base mb σ p q sv id (w.setCell ⟨q, 5, none⟩ (.int .u64 n)) { y with c := { y.c with ret := n } } := by
 have k : Keep [q] w (w.setCell ⟨q, 5, none⟩ (.int .u64 n)) := (Keep.rfl' _ _).setCell (by simp) _
 have hv : ∀ {v : Value} {e : TypeId} {sz : Nat} {α : Type} {enc : α → List Value} {xs : List α}, Own w 0 e sz enc v xs → (∀ j ∈ vblk v, j ≠ q) → Own (w.setCell ⟨q, 5, none⟩ (.int .u64 n)) 0 e sz enc v xs := fun ho hj => ho.keep k (fun j h1 h2 => by rw [List.mem_singleton] at h2; exact hj j (by rw [own_vblk ho]; simp [h1]) h2)
 refine ⟨h.rel.box h.hq.1 h.hq.2.1 5 _, (heap_setCell_other w _ _ _ (show p ≠ q from h.hp.2.2.1)).trans h.sig, ?_, ⟨hv h.c.key (fun j hj => (h.hy j (List.mem_append_left _ hj)).2.2), hv h.c.val (fun j hj => (h.hy j (List.mem_append_right _ (List.mem_append_left _ hj))).2.2), hv h.c.n (fun j hj => (h.hy j (List.mem_append_right _ (List.mem_append_right _ hj))).2.2)⟩, h.hp, h.hq, h.hy⟩
 have := heap_setCell_same w q 5 _ _ (.int .u64 n) h.box
 rw [this]
 rfl
theorem CallP.new (h : PRel F0 Z0 wf base w mb σ) {w1 w2 w3 : World} {B p : Nat} {sv : Value} {id : Int} {y : CB} (h1 : Ext w w1) (hp : w.heap.size ≤ p) (hs : w1.heap[p]? = some (sigObj sv (tells id) (draws id) (most id))) (hb : w.heap.size ≤ B) (hc : CAt w2 B y) (h2 : Ext w1 w2) (hA : Ext w2 w3) (ho : w3.heap[w2.heap.size]? = some (cbObj y)) :
  ∃ Q, CallP Q F0 Z0 wf base mb σ p w2.heap.size sv id w3 y := by
 have hpl := heap_lt hs
 have hsz := h2.size
 have hmb := h.lt
 have hwf := h.keep.size
 have hS := heap_lt ho
 have hvb : ∀ {v : Value} {e : TypeId} {sz : Nat} {α : Type} {enc : α → List Value} {xs : List α}, Own w2 B e sz enc v xs → ∀ j ∈ vblk v, B ≤ j ∧ j < w2.heap.size := fun ho j hj => ho.lt (by rw [own_vblk ho] at hj; simpa using hj)
 have hy : ∀ j ∈ vblk y.kv ++ (vblk y.vv ++ vblk y.nv), B ≤ j ∧ j < w2.heap.size := fun j hj => by
  rcases List.mem_append.1 hj with hj | hj
  ·exact hvb hc.key j hj
  ·rcases List.mem_append.1 hj with hj | hj
   ·exact hvb hc.val j hj
   ·exact hvb hc.n j hj
 refine ⟨p :: w2.heap.size :: (vblk y.kv ++ (vblk y.vv ++ vblk y.nv)), h.apart ((h1.trans' h2).trans' hA) (fun q hq => ?_), hA.obj (h2.obj hs), ho, (hc.ext hA).mono (Nat.zero_le _), ⟨by simp, by omega, by omega, by omega⟩, ⟨by simp, by omega, by omega⟩, fun j hj => ⟨by simp only [List.mem_cons]; exact .inr (.inr hj), by have := hy j hj; omega, by have := hy j hj; omega⟩⟩
 simp only [List.mem_cons] at hq
 rcases hq with rfl | rfl | hq
 ·omega
 ·have := h1.size; omega
 ·have := hy q hq; omega
def ten0 : List Value := [.int .u64 0, .bool false, .int .u64 0, .bool false, .int .u64 0, .bool false, .int .u64 0, .bool false, .int .u64 0, .bool false]
theorem ten0_eq (w : World) (b : Nat) : w.setCells b 3 ten0 = (((((((((w.setCell ⟨b, 3, none⟩ (.int .u64 0)).setCell ⟨b, 4, none⟩ (.bool false)).setCell ⟨b, 5, none⟩ (.int .u64 0)).setCell ⟨b, 6, none⟩ (.bool false)).setCell ⟨b, 7, none⟩ (.int .u64 0)).setCell ⟨b, 8, none⟩ (.bool false)).setCell ⟨b, 9, none⟩ (.int .u64 0)).setCell ⟨b, 10, none⟩ (.bool false)).setCell ⟨b, 11, none⟩ (.int .u64 0)).setCell ⟨b, 12, none⟩ (.bool false) := rfl
theorem ten0_other (w : World) {b j : Nat} (h : j ≠ b) : (w.setCells b 3 ten0).heap[j]? = w.heap[j]? := by
 rw [ten0_eq]
 rw [heap_setCell_other _ _ _ _ h, heap_setCell_other _ _ _ _ h, heap_setCell_other _ _ _ _ h, heap_setCell_other _ _ _ _ h, heap_setCell_other _ _ _ _ h, heap_setCell_other _ _ _ _ h, heap_setCell_other _ _ _ _ h, heap_setCell_other _ _ _ _ h, heap_setCell_other _ _ _ _ h, heap_setCell_other _ _ _ _ h]
theorem clr5_eq (σ : RS) : ({ σ with R := updN (updN (updN (updN (updN σ.R 1 0) 2 0) 3 0) 4 0) 5 0, S := updN (updN (updN (updN (updN σ.S 1 false) 2 false) 3 false) 4 false) 5 false } : RS) = clrN σ 5 := by
 unfold clrN
 congr 1
 ·funext j
  simp only [updN]
  by_cases h : 1 ≤ j ∧ j ≤ 5
  ·rw [if_pos h]
   repeat' split
   all_goals first | rfl | omega
  ·rw [if_neg h]
   repeat' split
   all_goals first | rfl | omega
 ·funext j
  simp only [updN]
  by_cases h : 1 ≤ j ∧ j ≤ 5
  ·rw [if_pos h]
   repeat' split
   all_goals first | rfl | omega
  ·rw [if_neg h]
   repeat' split
   all_goals first | rfl | omega
theorem PRel.clr5 (h : PRel F0 Z0 wf base w mb σ) : PRel F0 Z0 wf base (w.setCells mb 3 ten0) mb (clrN σ 5) := by
 rw [ten0_eq, ← clr5_eq]
 have a1 := h.cell1 3 _ (fun l => pset_R σ l (d := 1) (by decide) 0)
 have b1 := a1.cell1 4 _ (fun l => pset_S _ l (d := 1) (by decide) false)
 have a2 := b1.cell1 5 _ (fun l => pset_R _ l (d := 2) (by decide) 0)
 have b2 := a2.cell1 6 _ (fun l => pset_S _ l (d := 2) (by decide) false)
 have a3 := b2.cell1 7 _ (fun l => pset_R _ l (d := 3) (by decide) 0)
 have b3 := a3.cell1 8 _ (fun l => pset_S _ l (d := 3) (by decide) false)
 have a4 := b3.cell1 9 _ (fun l => pset_R _ l (d := 4) (by decide) 0)
 have b4 := a4.cell1 10 _ (fun l => pset_S _ l (d := 4) (by decide) false)
 have a5 := b4.cell1 11 _ (fun l => pset_R _ l (d := 5) (by decide) 0)
 exact a5.cell1 12 _ (fun l => pset_S _ l (d := 5) (by decide) false)
theorem zero_reg (w : World) : (zeroValue 105).run Tryz.prog w = .ok (.agg #[.int .u64 0, .bool false]) w := by kernel_rfl
theorem run_clear5 (h : PRel F0 Z0 wf base w mb σ) (ty : TypeId) (c : Nat) : (Builtin.clear_ #[197] ty #[.slice (some ⟨mb, 3, none⟩) 5 c]).run Tryz.prog w = .ok (.tuple #[]) (w.setCells mb 3 ten0) := by
 obtain ⟨h0, hl, l, g1, g2, g3⟩ := h
 have hzc : (Builtin.zeroCells (Value.agg #[.int .u64 0, .bool false]).cells 5).toList = ten0 := by
  simp only [Builtin.zeroCells, Value.cells, ten0]
  simp [List.range, List.range.loop]
 have hc : ∀ j, j < ten0.length → (w.cell? ⟨mb, 3 + j, none⟩).isSome = true := fun j hj => by
  have hj : j < 10 := hj
  rw [cO g1.head]
  simp only [List.getElem?_toArray]
  rw [List.getElem?_eq_getElem (by simp only [pCells, List.length_cons, List.length_nil]; omega)]
  rfl
 have hst := run_storeCells_cells (P := Tryz.prog) mb 3 ten0 0 w (by simpa using hc) (by intro j _; exact frozen_obj g1.head) (by intro v hv; simp only [ten0, List.mem_cons, List.not_mem_nil, or_false] at hv; rcases hv with rfl | rfl | rfl | rfl | rfl | rfl | rfl | rfl | rfl | rfl <;> rfl)
 simp only [Nat.add_zero] at hst
 simp [Builtin.clear_, run_underlying Tryz.underlying197, zero_reg, hzc, hst]
end
end Go.Proofs.YtppefchjoodgnaaGreat
