/- What the claim leans on: MsJ · NwL · MsM · MsL · PmS. -/
import Derived.Test.YtppefchjoodgnaaGreatPN33
import Derived.Test.YtppefchjoodgnaaGreatPN22
import Derived.Test.YtppefchjoodgnaaGreatPN29
import Derived.Test.YtppefchjoodgnaaGreatPN34
namespace Go.Proofs.YtppefchjoodgnaaGreat
open Go.RowKit
set_option linter.unusedVariables false
set_option linter.unusedSimpArgs false
theorem run_make512 (u : World) : (Instr.makeSlice 23 (.int .i64 512) (.int .i64 512)).run Tryz.prog u = .ok (.slice (some ⟨u.heap.size, 0, none⟩) 512 512) (u.alloc (.cells (madeCells #[.int .u8 0] 512) 5)) := by
 obtain ⟨i0, hi0, hz0, hz1, hz2⟩ := info_parts el_u8.info
 have h := run_make (P := Tryz.prog) u 23 5 i0 (.int .u8 0) el_u8.under hi0 hz0 .i64 .i64 512 512 (by omega) (Int.le_refl _) (by rw [hz2]; omega) (by omega)
 simpa [hz1, Value.cells] using h
theorem rd_zeros (n : Nat) (hn : n ≤ 1000) (u : World) (b : Nat) (hb : b = u.heap.size) : Sl (u.alloc (.cells (madeCells #[.int .u8 0] n) 5)) .u8 (.slice (some ⟨b, 0, none⟩) n n) (List.replicate n 0) := by
 have e : (madeCells #[.int .u8 0] n : Array Value) = ((List.replicate n (0 : Int)).flatMap fun x => [Value.int .u8 x]).toArray := by
  apply Array.toList_inj.1
  rw [toList_madeCells_one, flat1, List.map_replicate]
 rw [e]
 exact (Own.lit (enc_int .u8) (base := 0) _ hb (by simp) (Nat.zero_le _) (by simp [maxLen]; omega)).rd (enc_int .u8)
theorem rd_512 (u : World) : Sl (u.alloc (.cells (madeCells #[.int .u8 0] 512) 5)).drew .u8 (.slice (some ⟨u.heap.size, 0, none⟩) 512 512) (List.replicate 512 0) := (rd_zeros 512 (by decide) u _ rfl).ext (Ext.drew' (Ext.rfl' _))
theorem small_512 : ∀ x ∈ List.replicate 512 (0 : Int), 0 ≤ x ∧ x ≤ 255 := fun x hx => by rw [List.eq_of_mem_replicate hx]; decide
structure EnvD where
 ctx : List Int
 defs : List TDef
 items : List (List (List Int × List Int))
 draws : List Int
structure EnvR (w : World) (e : EnvD) (cv dv iv rv : Value) (rows : List SV) : Prop where
 ctx : Sl w .u8 cv e.ctx
 u8 : ∀ x ∈ e.ctx, 0 ≤ x ∧ x ≤ 255
 defs : Rd w 4 TDef.enc dv e.defs
 draws : Sl w .u64 rv e.draws
 rowsR : Rd w 1 encW iv rows
 len : rows.length = e.items.length
 items : ∀ (i : Nat) (row : SV) l, rows[i]? = some row → e.items[i]? = some l → ∃ I : List IT, Rd w 2 IT.enc row.v I ∧ (∀ x ∈ I, Sl w .u8 x.kv x.key ∧ Sl w .u8 x.vv x.val) ∧ I.map (fun x => (x.key, x.val)) = l
 ib : ∀ l ∈ e.items, ∀ p ∈ l, ∀ x ∈ p.2, 0 ≤ x ∧ x ≤ 255
theorem EnvR.ext {w w' : World} {e : EnvD} {cv dv iv rv : Value} {rows : List SV} (h : EnvR w e cv dv iv rv rows) (k : Ext w w') : EnvR w' e cv dv iv rv rows :=
 ⟨h.ctx.ext k, h.u8, h.defs.ext k, h.draws.ext k, h.rowsR.ext k, h.len, fun i row l h1 h2 => by
  obtain ⟨I, a, b, c⟩ := h.items i row l h1 h2
  exact ⟨I, a.ext k, fun x hx => ⟨(b x hx).1.ext k, (b x hx).2.ext k⟩, c⟩, h.ib⟩
def areas0 (ctx : List Int) : Areas := (mmake (mmake [] 1 ctx false true).1 2 (List.replicate 512 0) true false).1
def putIts (V : Areas × List TM) (i : Nat) : List (List Int × List Int) → Option (Areas × List TM)
 | [] => some V
 | p :: l => if (rput V i p.1 p.2 0).2.1 = 0 ∧ (rput V i p.1 p.2 0).2.2 = 0 then putIts (rput V i p.1 p.2 0).1 i l else none
def putAll (V : Areas × List TM) : Nat → List (List (List Int × List Int)) → Option (Areas × List TM)
 | _, [] => some V
 | i, l :: ls => (putIts V i l).bind fun V' => putAll V' (i + 1) ls
def RS.zero (L : List Ins) (D : List TDef) (dr : List Int) (V : Areas × List TM) : RS := ⟨L, fun _ => 0, fun _ => false, V, D, dr, 0, false, 0, 0, []⟩
def RS.new (L : List Ins) (e : EnvD) : Option RS :=
 if progS L = false ∨ 64 < e.ctx.length ∨ e.defs.length < e.items.length then none
 else (rnew (areas0 e.ctx) e.defs).bind fun V => (putAll V 0 e.items).map fun V' => ((RS.zero L e.defs e.draws V').setR 1 4294967296).setR 10 8589935104
structure NewR (Q : List Nat) (w0 : World) (b : Nat) (M : Areas) (w : World) : Prop where
 ext : Ext w0 w
 mem : ∃ lv L, RefAt w w0.heap.size b lv L ∧ viewR L = M ∧ ∀ q ∈ Q, q ∉ rfoot b lv L ∧ q < w.heap.size
theorem NewR.go {Q : List Nat} {w0 w w' : World} {b : Nat} {M : Areas} (h : NewR Q w0 b M w) (k : Ext w w') : NewR Q w0 b M w' := by
 obtain ⟨h1, lv, L, h3, h4, h5⟩ := h
 exact ⟨h1.trans' k, lv, L, h3.ext k, h4, fun q hq => ⟨(h5 q hq).1, Nat.lt_of_lt_of_le (h5 q hq).2 k.size⟩⟩
theorem fill_both {M : Areas} {T : List TM} {t : TM} {val : Nat} (h0 : t.made = 0) (hs : t.slots = []) : ∀ k : Nat, k ≤ 1024 →
  tfill (M, T ++ [t]) (T.length : Int) val k = (rfill M (T.length : Int) val k).map fun M' => (M', T ++ [{ t with slots := nums k, made := k }])
 | 0, _ => by
  obtain ⟨_, _, _, _, _, _⟩ := t
  simp only at h0 hs
  subst h0; subst hs
  rfl
 | k + 1, hk => by
  rw [tfill, fill_both h0 hs k (by omega), rfill]
  cases hr : rfill M (T.length : Int) val k with
  | none => rfl
  | some M' =>
   simp only [Option.map_some, Option.bind_some]
   rw [tslot, pick_nat]
   simp only [List.getElem?_append_right (Nat.le_refl _), Nat.sub_self, List.getElem?_cons_zero]
   rw [if_neg (by omega)]
   by_cases hm : (mmake M' (tarea T.length k) (List.replicate val 0) false false).2 = 0
   ·rw [if_pos hm, if_pos hm]
    simp only [Option.map_some, addSlot, Int.toNat_natCast, nums_succ]
    simp
   ·rw [if_neg hm, if_neg hm]; rfl
theorem new1_both {V : Areas × List TM} {d : TDef} (hd : mayD d = true) : tnew1 V d = rnew1 V d := by
 have hm := (may_iff d).1 hd
 unfold tnew1 rnew1
 cases hh : d.hash with
 | true => rfl
 | false =>
  simp only [Bool.false_eq_true, if_false]
  rw [fill_both rfl rfl d.max.toNat (by omega)]
  rfl
theorem news_both {M : Areas} {ds : List TDef} (hd : ∀ d ∈ ds, mayD d = true) : ∀ k : Nat, tnews M ds k = rnews M ds k
 | 0 => rfl
 | k + 1 => by
  rw [tnews, rnews, news_both hd k]
  cases hr : rnews M ds k with
  | none => rfl
  | some V =>
   cases hk : ds[k]? with
   | none => rfl
   | some d =>
    simp only [Option.bind_some]
    exact new1_both (hd d (List.mem_of_getElem? hk))
theorem right_iff {ds : List TDef} (h : rightL ds = true) : ds.length ≤ 8 ∧ ∀ d ∈ ds, mayD d = true := by
 simpa only [rightL, Bool.and_eq_true, decide_eq_true_eq, List.all_eq_true] using h
theorem new_both (M : Areas) (ds : List TDef) : tnew M ds = rnew M ds := by
 unfold tnew rnew
 cases hr : rightL ds with
 | false => rfl
 | true =>
  simp only [if_true]
  exact news_both (right_iff hr).2 _
theorem rnews_maps {M : Areas} {ds : List TDef} : ∀ (k : Nat) {V : Areas × List TM}, rnews M ds k = some V → V.2 = (ds.take k).map fullT
 | 0, V, h => by
  rw [rnews] at h
  injection h with h
  subst h
  simp
 | k + 1, V, h => by
  rw [rnews] at h
  cases hr : rnews M ds k with
  | none => rw [hr] at h; cases h
  | some V1 =>
   have ih := rnews_maps k hr
   rw [hr] at h
   simp only [Option.bind_some] at h
   cases hk : ds[k]? with
   | none => rw [hk] at h; cases h
   | some d =>
    rw [hk] at h
    simp only [Option.bind_some] at h
    have htk : (ds.take (k + 1)).map fullT = (ds.take k).map fullT ++ [fullT d] := by rw [List.take_add_one, hk]; simp
    rw [htk]
    unfold rnew1 at h
    cases hh : d.hash with
    | true =>
     rw [hh] at h
     simp only [if_true] at h
     injection h with h
     subst h
     simp only [ih, fullT, hh, if_true]
    | false =>
     rw [hh] at h
     simp only [Bool.false_eq_true, if_false] at h
     cases hf : rfill V1.1 (V1.2.length : Int) d.val.toNat d.max.toNat with
     | none => rw [hf] at h; cases h
     | some M' =>
      rw [hf] at h
      simp only [Option.map_some] at h
      injection h with h
      subst h
      simp only [ih, fullT, hh, Bool.false_eq_true, if_false, TDef.full]
theorem new_vrel {M : Areas} {ds : List TDef} {V : Areas × List TM} (h : rnew M ds = some V) : VRel V V := by
 unfold rnew at h
 cases hr : rightL ds with
 | false => rw [hr] at h; cases h
 | true =>
  rw [hr, if_pos rfl] at h
  have hm := rnews_maps _ h
  rw [List.take_length] at hm
  obtain ⟨M0, -, e2, -⟩ := tnew_spec hr
  refine ⟨rfl, rfl, fun i t t' h1 h2 => ?_⟩
  rw [h1] at h2
  injection h2 with h2
  subst h2
  rw [hm] at h1
  have hk := (e2.maps t (List.mem_of_getElem? h1)).kw
  rw [List.getElem?_map, Option.map_eq_some_iff] at h1
  obtain ⟨d, hd, rfl⟩ := h1
  exact full_rel ((right_iff hr).2 d (List.mem_of_getElem? hd)) hk
theorem may_tab {d : TDef} (h : mayD d = true) : d.max ≤ 16 ∧ d.key ≤ 16 ∧ 1 ≤ d.max := by
 have := (may_iff d).1 h
 rcases this.1 with h1 | h1 <;> omega
theorem tm_tab {d : TDef} (h : mayD d = true) : TabOk d.tm := by
 have := may_tab h
 exact ⟨by simp [TDef.tm]; omega, this.1, this.2.1, fun p hp => by simp [TDef.tm] at hp⟩
theorem full_tab {d : TDef} (h : mayD d = true) : TabOk d.full := by
 have := may_tab h
 refine ⟨by simp only [TDef.full, nums_len]; show ((d.max.toNat : Nat) : Int) ≤ d.max; omega, this.1, this.2.1, fun p hp => ?_⟩
 have := nums_mem (show p ∈ nums d.max.toNat from hp)
 rw [this.2]
 have := numKey_size (p.2 : Int)
 omega
theorem rnews_tab {M : Areas} {ds : List TDef} (h : ∀ d ∈ ds, mayD d = true) : ∀ (k : Nat) {V : Areas × List TM}, rnews M ds k = some V → (∀ t ∈ V.2, TabOk t)
 | 0, V, hV => by
  have : (M, []) = V := by simpa [rnews] using hV
  subst this
  intro t ht; cases ht
 | k + 1, V, hV => by
  rw [rnews, Option.bind_eq_some_iff] at hV
  obtain ⟨V1, h1, h2⟩ := hV
  rw [Option.bind_eq_some_iff] at h2
  obtain ⟨d, h3, h4⟩ := h2
  have hd := h d (List.mem_of_getElem? h3)
  have ih := rnews_tab h k h1
  unfold rnew1 at h4
  split at h4
  ·have : (V1.1, V1.2 ++ [d.tm]) = V := by simpa using h4
   subst this
   intro t ht
   rcases List.mem_append.1 ht with ht | ht
   ·exact ih t ht
   ·rw [List.mem_singleton] at ht; subst ht; exact tm_tab hd
  ·rw [Option.map_eq_some_iff] at h4
   obtain ⟨M1, _, h6⟩ := h4
   subst h6
   intro t ht
   rcases List.mem_append.1 ht with ht | ht
   ·exact ih t ht
   ·rw [List.mem_singleton] at ht; subst ht; exact full_tab hd
theorem rnew_tab {M : Areas} {ds : List TDef} {V : Areas × List TM} (h : rnew M ds = some V) : (∀ t ∈ V.2, TabOk t) ∧ ds.length ≤ 8 := by
 unfold rnew at h
 split at h
 ·rename_i hr
  unfold rightL at hr
  simp only [Bool.and_eq_true, decide_eq_true_eq, List.all_eq_true] at hr
  exact ⟨rnews_tab hr.2 _ h, hr.1⟩
 ·cases h
theorem putIts_tab {i : Nat} : ∀ (l : List (List Int × List Int)) {V V' : Areas × List TM}, (∀ t ∈ V.2, TabOk t) → putIts V i l = some V' → ∀ t ∈ V'.2, TabOk t
 | [], V, V', h, e => by
  have : V = V' := by simpa [putIts] using e
  subst this; exact h
 | p :: l, V, V', h, e => by
  rw [putIts] at e
  split at e
  ·exact putIts_tab l (rput_tab h) e
  ·cases e
theorem putAll_tab : ∀ (ls : List (List (List Int × List Int))) (i : Nat) {V V' : Areas × List TM}, (∀ t ∈ V.2, TabOk t) → putAll V i ls = some V' → ∀ t ∈ V'.2, TabOk t
 | [], i, V, V', h, e => by
  have : V = V' := by simpa [putAll] using e
  subst this; exact h
 | l :: ls, i, V, V', h, e => by
  rw [putAll, Option.bind_eq_some_iff] at e
  obtain ⟨V1, h1, h2⟩ := e
  exact putAll_tab ls (i + 1) (putIts_tab l h h1) h2
theorem new_inv {L : List Ins} {e : EnvD} {σ : RS} (h : RS.new L e = some σ) (hok : InsOk L) (hd : U64s e.draws) (hl : e.draws.length ≤ 1000000) : σ.Inv ∧ σ.L = L ∧ σ.D = e.defs ∧ e.defs.length ≤ 8 ∧ σ.over = false ∧ σ.steps = 0 ∧ σ.place = 0 ∧ σ.calls = [] ∧ σ.code = 0 := by
 unfold RS.new at h
 split at h
 ·cases h
 ·rename_i hg
  rw [Option.bind_eq_some_iff] at h
  obtain ⟨V, h1, h2⟩ := h
  rw [Option.map_eq_some_iff] at h2
  obtain ⟨V', h3, h4⟩ := h2
  subst h4
  have hp : progS L = true := by cases hq : progS L; exact absurd (.inl hq) hg; rfl
  have ht := rnew_tab h1
  have hc : (RS.zero L e.defs e.draws V').Core := ⟨fun d hd => (show u64R 0 from ⟨by decide, by decide⟩), putAll_tab _ _ ht.1 h3, hd, hl⟩
  have hc2 := (hc.setR (n := 4294967296) ⟨by decide, by decide⟩ 1).setR (n := 8589935104) ⟨by decide, by decide⟩ 10
  refine ⟨⟨hc2, hp, hok, Int.le_refl _, Int.le_refl _, ?_⟩, rfl, rfl, ht.2, rfl, rfl, rfl, rfl, rfl⟩
  show (stF false L)[0]? = some true
  have hlen := (ProgF.of hp).len.1
  cases L with
  | nil => simp at hlen
  | cons x xs => simp [stF]
abbrev envObj (cv dv iv rv : Value) : Obj := .cells #[cv, dv, iv, rv] 28 (0, 0)
structure NewU (w0 : World) (B b : Nat) (M : Areas) (mo eo : Obj) (xv : Value) (ds : List Int) (w : World) : Prop where
 n : NewR (w0.heap.size :: B :: xv.ownBlock.toList) w0 b M w
 obj : w.heap[B]? = some mo
 env : w.heap[w0.heap.size]? = some eo
 dr : Own w w0.heap.size 29 1 (fun x => [Value.int .u64 x]) xv ds
theorem NewU.go {w0 w w' : World} {B b : Nat} {M : Areas} {mo eo : Obj} {xv : Value} {ds : List Int} (h : NewU w0 B b M mo eo xv ds w) (k : Ext w w') : NewU w0 B b M mo eo xv ds w' :=
 ⟨h.n.go k, k.obj h.obj, k.obj h.env, h.dr.ext k⟩
theorem NewU.step {w0 w w' : World} {B b : Nat} {M M' : Areas} {mo eo : Obj} {xv : Value} {ds : List Int} (h : NewU w0 B b M mo eo xv ds w) (hn : NewR (w0.heap.size :: B :: xv.ownBlock.toList) w0 b M' w') (hk : ∀ q ∈ w0.heap.size :: B :: xv.ownBlock.toList, ∀ o, w.heap[q]? = some o → w'.heap[q]? = some o) : NewU w0 B b M' mo eo xv ds w' :=
 ⟨hn, hk B (by simp) _ h.obj, hk _ (by simp) _ h.env, own_objs h.dr (fun j o h1 h2 => hk j (by simp [h1]) o h2)⟩
set_option maxHeartbeats 400000 in
theorem clone_ins (v : Value) (xs : List Ins) (w : World) (h : Rd w 5 Ins.enc v xs) (hb : xs.length * 12 ≤ 140737488355328) :
  Calls Tryz.prog 48 #[v] w (CloneAns 58 5 Ins.enc xs w) := by
 obtain ⟨a, n, c, rfl, hn, hN⟩ := h.val
 have hnil := fun W => h.run_nil (P := Tryz.prog) Tryz.underlying22 W
 have HS := η h
 cases a with
 | none =>
  obtain ⟨rfl, rfl, rfl⟩ := h.of_isNil
  clear h
  go_enter Tryz.func48, Tryz.ntmps48
  go_wp2
  go_ret
  exact ⟨_, rfl, Own.nil _ _ _ _ _, Below.refl _ _⟩
 | some a =>
  clear h
  simp only [isNilV] at hnil
  go_enter Tryz.func48, Tryz.ntmps48
  go_wp2_with (at_builtin; refine app_own el_ins enc_ins rfl _ _ rfl rfl (Own.made w w.heap.size _ _ _ rfl (Nat.le_refl _)) rfl (ys := xs) ?q1 ?q2 ?q3 ?q4)
  case q1 => exact HS.out.ext (by go_grown)
  case q2 => exact ⟨by simpa using hb, by simp; omega⟩
  case q3 => simp
  intro v' w1 hown hgrow hbel
  go_wp2
  go_ret
  exact ⟨v', rfl, by simpa using hown, hbel _ _ (by go_grown) (Nat.le_refl _)⟩
set_option maxHeartbeats 400000 in
theorem clone_def (v : Value) (xs : List TDef) (w : World) (h : Rd w 4 TDef.enc v xs) (hb : xs.length * 32 ≤ 140737488355328) :
  Calls Tryz.prog 50 #[v] w (CloneAns 102 4 TDef.enc xs w) := by
 obtain ⟨a, n, c, rfl, hn, hN⟩ := h.val
 have hnil := fun W => h.run_nil (P := Tryz.prog) Tryz.underlying24 W
 have HS := η h
 cases a with
 | none =>
  obtain ⟨rfl, rfl, rfl⟩ := h.of_isNil
  clear h
  go_enter Tryz.func50, Tryz.ntmps50
  go_wp2
  go_ret
  exact ⟨_, rfl, Own.nil _ _ _ _ _, Below.refl _ _⟩
 | some a =>
  clear h
  simp only [isNilV] at hnil
  go_enter Tryz.func50, Tryz.ntmps50
  go_wp2_with (at_builtin; refine app_own el_def enc_def rfl _ _ rfl rfl (Own.made w w.heap.size _ _ _ rfl (Nat.le_refl _)) rfl (ys := xs) ?q1 ?q2 ?q3 ?q4)
  case q1 => exact HS.out.ext (by go_grown)
  case q2 => exact ⟨by simpa using hb, by simp; omega⟩
  case q3 => simp
  intro v' w1 hown hgrow hbel
  go_wp2
  go_ret
  exact ⟨v', rfl, by simpa using hown, hbel _ _ (by go_grown) (Nat.le_refl _)⟩
abbrev mzP (lv dv drv tp : Value) (b : Nat) : Obj := .cells #[lv, .int .u64 0, .bool false, .int .u64 0, .bool false, .int .u64 0, .bool false, .int .u64 0, .bool false, .int .u64 0, .bool false, .int .u64 0, .bool false, .int .u64 0, .bool false, .int .u64 0, .bool false, .int .u64 0, .bool false, .int .u64 0, .bool false, .int .u64 0, .bool false, .pointer (some ⟨b, 0, none⟩), tp, dv, drv, .int .i64 0, .bool false, .int .i64 0, .int .i64 0, .slice none 0 0] 109 (0, 0)
def NewPA (r : Option RS) (w : World) (e : Ending) (w' : World) : Prop :=
 match r with
 | none => e = .returned (.tuple #[.pointer none, .int .i64 1]) ∧ Ext w w'
 | some σ => ∃ mb, e = .returned (.tuple #[.pointer (some ⟨mb, 0, none⟩), .int .i64 0]) ∧ PS [] [] w w.heap.size w' mb σ
theorem fblk_sub {v : Value} : ∀ j ∈ fblk v, j ∈ vblk v := by
 intro j hj
 match v, hj with
 | .slice (some a) (n + 1) c, hj => simpa [fblk, vblk] using hj
def nblk (w0 : World) (B : Nat) (lv dv xv : Value) : List Nat := w0.heap.size :: B :: (lv.ownBlock.toList ++ (dv.ownBlock.toList ++ xv.ownBlock.toList))
structure NewUP (w0 : World) (B b : Nat) (M : Areas) (mo eo : Obj) (lv dv xv : Value) (L : List Ins) (D : List TDef) (ds : List Int) (w : World) : Prop where
 ext : Ext w0 w
 mem : ∃ r A, MemAt w b r A ∧ view A = M ∧ (∀ j ∈ foot b r A, w0.heap.size ≤ j) ∧ ∀ q ∈ nblk w0 B lv dv xv, q ∉ foot b r A ∧ q < w.heap.size
 obj : w.heap[B]? = some mo
 env : w.heap[w0.heap.size]? = some eo
 code : Own w (w0.heap.size + 1) 58 5 Ins.enc lv L
 defs : Own w (w0.heap.size + 1) 102 4 TDef.enc dv D
 dr : Own w (w0.heap.size + 1) 29 1 (fun x => [Value.int .u64 x]) xv ds
section
variable {w0 w w' : World} {B b : Nat} {M : Areas} {mo eo : Obj} {lv dv xv : Value} {L : List Ins} {D : List TDef} {ds : List Int}
theorem NewUP.go (h : NewUP w0 B b M mo eo lv dv xv L D ds w) (k : Ext w w') : NewUP w0 B b M mo eo lv dv xv L D ds w' := by
 obtain ⟨r, A, h1, h2, h3, h4⟩ := h.mem
 exact ⟨h.ext.trans' k, ⟨r, A, h1.ext k, h2, h3, fun q hq => ⟨(h4 q hq).1, Nat.lt_of_lt_of_le (h4 q hq).2 k.size⟩⟩, k.obj h.obj, k.obj h.env, h.code.ext k, h.defs.ext k, h.dr.ext k⟩
theorem NewUP.make (h : NewUP w0 B b M mo eo lv dv xv L D ds w) (n : Int) (v : Value) (xs : List Int) (blank fixed : Bool) (hv : Sl w .u8 v xs) (hu : ∀ x ∈ xs, 0 ≤ x ∧ x ≤ 255) :
  Calls Tryz.prog 52 #[.pointer (some ⟨b, 0, none⟩), .int .i64 n, v, .bool blank, .bool fixed] w fun e w' => (∃ er : Int, e = .returned (.int .i64 er)) ∧ NewUP w0 B b (mmake M n xs blank fixed).1 mo eo lv dv xv L D ds w' := by
 obtain ⟨r, A, h1, h2, h3, h4⟩ := h.mem
 refine (mem_make b r A n v xs blank fixed w h1 hv hu).mono ?_
 rintro e w' ⟨rfl, hk, A2, g1, g2, g3⟩
 rw [h2] at g2
 have hs := h.ext.size
 have hB : ∀ q ∈ nblk w0 B lv dv xv, q ∉ foot b r A := fun q hq => (h4 q hq).1
 refine ⟨⟨_, rfl⟩, hk.below h.ext h.ext.size h3, ⟨r, A2, g1, g2, fun j hj => (g3 j hj).elim (h3 j) (fun h => by omega), fun q hq => ⟨fun hm => ?_, Nat.lt_of_lt_of_le (h4 q hq).2 hk.size⟩⟩, hk.obj h.obj (hB B (by simp [nblk])), hk.obj h.env (hB _ (by simp [nblk])), h.code.keep hk (fun j hj => hB j (by simp [nblk, hj])), h.defs.keep hk (fun j hj => hB j (by simp [nblk, hj])), h.dr.keep hk (fun j hj => hB j (by simp [nblk, hj]))⟩
 rcases g3 q hm with h5 | h5
 ·exact hB q hq h5
 ·have := (h4 q hq).2; omega
def NewTP (w0 : World) (B b : Nat) (M : Areas) (D : List TDef) (mo eo : Obj) (lv dv xv : Value) (L : List Ins) (ds : List Int) (e : Ending) (w' : World) : Prop :=
 match rnew M D with
 | none => e = .returned (.tuple #[.pointer none, .int .i64 1]) ∧ Ext w0 w'
 | some V => ∃ tb S, e = .returned (.tuple #[.pointer (some ⟨tb, 0, none⟩), .int .i64 0]) ∧ tview S = V ∧ TabAt w' w0.heap.size tb S ∧ S.b = b ∧ (∀ j ∈ tfoot tb S, w0.heap.size ≤ j) ∧ Ext w0 w' ∧ w'.heap[B]? = some mo ∧ w'.heap[w0.heap.size]? = some eo ∧
   Own w' (w0.heap.size + 1) 58 5 Ins.enc lv L ∧ Own w' (w0.heap.size + 1) 102 4 TDef.enc dv D ∧ Own w' (w0.heap.size + 1) 29 1 (fun x => [Value.int .u64 x]) xv ds ∧ ∀ q ∈ nblk w0 B lv dv xv, q ∉ tfoot tb S ∧ q < w'.heap.size
theorem NewUP.tab (h : NewUP w0 B b M mo eo lv dv xv L D ds w) {ev : Value} (hd : Rd w0 4 TDef.enc ev D) : Calls Tryz.prog 53 #[.pointer (some ⟨b, 0, none⟩), ev] w (NewTP w0 B b M D mo eo lv dv xv L ds) := by
 obtain ⟨r, A, h1, h2, h3, h4⟩ := h.mem
 have hE := h.ext
 refine (tab_new w0.heap.size b r A ev D w h1 hE.size (η fun w' k => hd.ext (k.below hE hE.size h3))).mono ?_
 rintro e w' ⟨hk, hA⟩
 rw [h2, new_both] at hA
 have hs := hE.size
 have hE' : Ext w0 w' := hk.below hE hE.size h3
 have hB : ∀ q ∈ nblk w0 B lv dv xv, q ∉ foot b r A := fun q hq => (h4 q hq).1
 unfold NewTP
 rcases hA with ⟨g1, g2⟩ | ⟨tb, S, g1, g2, g3, g4, g5⟩
 ·rw [g1]; exact ⟨g2, hE'⟩
 ·rw [g1]
  refine ⟨tb, S, g2, rfl, g3, g4, fun j hj => (g5 j hj).elim (h3 j) (fun h => by omega), hE', hk.obj h.obj (hB B (by simp [nblk])), hk.obj h.env (hB _ (by simp [nblk])), h.code.keep hk (fun j hj => hB j (by simp [nblk, hj])), h.defs.keep hk (fun j hj => hB j (by simp [nblk, hj])), h.dr.keep hk (fun j hj => hB j (by simp [nblk, hj])), fun q hq => ⟨fun hm => ?_, Nat.lt_of_lt_of_le (h4 q hq).2 hk.size⟩⟩
  rcases g5 q hm with h6 | h6
  ·exact hB q hq h6
  ·have := (h4 q hq).2; omega
theorem mach_new {tb : Nat} {S : Tabs} {V : Areas × List TM} (h2 : tview S = V) (h3 : TabAt w' w0.heap.size tb S) (h4 : S.b = b) (hge : ∀ j ∈ tfoot tb S, w0.heap.size ≤ j) (h5 : Ext w0 w')
  (h6 : w'.heap[B]? = some (mzP lv dv xv (.pointer none) b)) (hl : Own w' (w0.heap.size + 1) 58 5 Ins.enc lv L) (hd : Own w' (w0.heap.size + 1) 102 4 TDef.enc dv D) (h8 : Own w' (w0.heap.size + 1) 29 1 (fun x => [Value.int .u64 x]) xv ds) (h9 : ∀ q ∈ nblk w0 B lv dv xv, q ∉ tfoot tb S ∧ q < w'.heap.size) (hB : w0.heap.size < B)
  (hxB : ∀ j ∈ lv.ownBlock.toList ++ (dv.ownBlock.toList ++ xv.ownBlock.toList), j ≠ B) :
  PRelQ [w0.heap.size] [] [] w0 w0.heap.size (w'.setCell ⟨B, 24, none⟩ (.pointer (some ⟨tb, 0, none⟩))) B (RS.zero L D ds V) := by
 have k : Keep [B] w' (w'.setCell ⟨B, 24, none⟩ (.pointer (some ⟨tb, 0, none⟩))) := (Keep.rfl' _ _).setCell (by simp) _
 have hE : Ext w0 (w'.setCell ⟨B, 24, none⟩ (.pointer (some ⟨tb, 0, none⟩))) := h5.setCell (Nat.le_of_lt hB) _
 have hBt : B ∉ tfoot tb S := (h9 B (by simp [nblk])).1
 have hs5 := h5.size
 have hkb : ∀ {α : Type} {e : TypeId} {sz : Nat} {enc : α → List Value} {v : Value} {xs : List α}, Own w' (w0.heap.size + 1) e sz enc v xs → (∀ j ∈ v.ownBlock.toList, j ≠ B) → Own (w'.setCell ⟨B, 24, none⟩ (.pointer (some ⟨tb, 0, none⟩))) (w0.heap.size + 1) e sz enc v xs := fun ho hj => ho.keep k (fun j h1 h2 => by rw [List.mem_singleton] at h2; exact hj j (by simpa using h1) h2)
 have hlB : ∀ j ∈ lv.ownBlock.toList, j ≠ B := fun j hj => hxB j (by simp [hj])
 have hdB : ∀ j ∈ dv.ownBlock.toList, j ≠ B := fun j hj => hxB j (by simp [hj])
 have hrB : ∀ j ∈ xv.ownBlock.toList, j ≠ B := fun j hj => hxB j (by simp [hj])
 have hz : ∀ j ∈ fblk lv ++ (fblk dv ++ vblk xv), j ∈ lv.ownBlock.toList ++ (dv.ownBlock.toList ++ xv.ownBlock.toList) := fun j hj => by
  rw [← own_vblk hl, ← own_vblk hd, ← own_vblk h8]
  simp only [List.mem_append] at hj ⊢
  exact hj.imp (fblk_sub j) (fun h => h.imp (fblk_sub j) id)
 have hlt : ∀ j ∈ lv.ownBlock.toList ++ (dv.ownBlock.toList ++ xv.ownBlock.toList), w0.heap.size + 1 ≤ j := fun j hj => by
  simp only [List.mem_append] at hj
  rcases hj with h | h | h
  ·exact (hl.lt (by simpa using h)).1
  ·exact (hd.lt (by simpa using h)).1
  ·exact (h8.lt (by simpa using h)).1
 refine ⟨Keep.of_ext hE, Nat.le_refl _, ⟨lv, tb, S, dv, xv, .slice none 0 0, []⟩, ⟨?_, Nat.le_of_lt hB, h3.keep k (fun j hj e => hBt (by rw [List.mem_singleton] at e; rwa [← e])), h2, Own.nil _ _ _ _ _, rfl, (fun c hc => by cases hc), (hkb hl hlB).rd enc_ins, (hkb hd hdB).rd enc_def, (hkb h8 hrB).rd (enc_int _), ?_, ?_⟩, ?_, ?_, ?_⟩
 ·have := heap_setCell_same w' B 24 _ _ (.pointer (some ⟨tb, 0, none⟩)) h6
  rw [this]
  simp only [pCells, RS.zero, h4]
  rfl
 ·simp only [pfoot, Value.ownBlock, Option.toList_none, List.nil_append]
  exact List.nodup_cons.2 ⟨hBt, h3.apart⟩
 ·intro j hj
  simp only [pfrz, List.flatMap_nil, List.append_nil] at hj
  simp only [pfoot, Value.ownBlock, Option.toList_none, List.nil_append]
  have hj2 := hz j hj
  have h10 := h9 j (by simp only [nblk, List.mem_cons]; exact .inr (.inr hj2))
  have hsz := k.size
  exact ⟨fun hm => (List.mem_cons.1 hm).elim (hxB j hj2) h10.1, by omega⟩
 ·intro j hj
  simp only [pfoot, Value.ownBlock, Option.toList_none, List.nil_append] at hj
  rcases List.mem_cons.1 hj with rfl | hj
  ·exact .inr (Nat.le_of_lt hB)
  ·exact .inr (hge j hj)
 ·intro j hj
  simp only [pfrz, List.flatMap_nil, List.append_nil] at hj
  have := hlt j (hz j hj)
  exact .inr (by omega)
 ·intro q hq
  rw [List.mem_singleton] at hq
  subst hq
  have h10 := h9 w0.heap.size (by simp [nblk])
  refine ⟨Nat.lt_of_lt_of_le h10.2 k.size, fun hm => ?_, fun hm => ?_⟩
  ·simp only [pfoot, Value.ownBlock, Option.toList_none, List.nil_append] at hm
   rcases List.mem_cons.1 hm with e | hm
   ·omega
   ·exact h10.1 hm
  ·simp only [pfrz, List.flatMap_nil, List.append_nil] at hm
   have := hlt _ (hz _ hm)
   omega
theorem newp_put {Q : List Nat} {tb : Nat} {σ : RS} (h : PRelQ Q [] [] w0 w0.heap.size w B σ) (hc : w.cell? ⟨B, 24, none⟩ = some (.pointer (some ⟨tb, 0, none⟩))) (i : Int) {kv vv : Value} {ks vs : List Int} (hk : Sl w0 .u8 kv ks) (hv : Sl w0 .u8 vv vs) (hu : ∀ q ∈ vs, 0 ≤ q ∧ q ≤ 255) :
  Calls Tryz.prog 54 #[.pointer (some ⟨tb, 0, none⟩), .int .i64 i, kv, vv, .int .u64 0] w
   (fun e w' => e = .returned (.tuple #[.int .u64 (tput σ.V i ks vs 0).2.1, .int .i64 (tput σ.V i ks vs 0).2.2]) ∧ PRelQ Q [] [] w0 w0.heap.size w' B { σ with V := (tput σ.V i ks vs 0).1 } ∧ ∀ q, (q ∈ Q ∨ q = B) → ∀ o, w.heap[q]? = some o → w'.heap[q]? = some o) := by
 obtain ⟨h0, hl, l, h1, h2, h3, h4⟩ := h
 have hw := h1.view
 have htb : l.tb = tb := by
  have := h1.cell 24 rfl
  rw [hc] at this
  have := Option.some.inj this
  injection this with this
  have := Option.some.inj this
  injection this with this
  exact this.symm
 subst htb
 have hge : ∀ j ∈ tfoot l.tb l.T, w0.heap.size ≤ j := fun j hj => (h2 j (by simp [pfoot, hj])).resolve_left (by simp)
 have hE : Ext w0 w := h0.ext (fun k hk => by cases hk)
 refine (tab_put w0.heap.size l.tb l.T i kv vv ks vs 0 w h1.tab (hk.ext hE) (hv.ext hE) hu (by decide) (η (by decide)) (η fun w' k => hv.ext (k.below hE hE.size hge))).mono ?_
 rintro e w' ⟨h, hk5, S', hT, hV, hfo, hrb⟩
 rw [hw] at h hV
 have := PRelQ.tabStep (Q := Q) h0 hl h1 h2 h3 h4 hk5 hT hrb hfo
 rw [hV] at this
 exact ⟨h, this⟩
end
end Go.Proofs.YtppefchjoodgnaaGreat
