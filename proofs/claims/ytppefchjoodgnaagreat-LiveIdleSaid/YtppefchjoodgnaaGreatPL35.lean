/- What the claim leans on: MsJ · MsM · MsN · LvV. -/
import Derived.Test.YtppefchjoodgnaaGreatPL34
import Derived.Test.YtppefchjoodgnaaGreatPL32
namespace Go.Proofs.YtppefchjoodgnaaGreat
open Go.RowKit
set_option linter.unusedVariables false
set_option linter.unusedSimpArgs false
theorem run_make512 (u : World) : (Instr.makeSlice 23 (.int .i64 512) (.int .i64 512)).run Tryz.prog u = .ok (.slice (some ⟨u.heap.size, 0, none⟩) 512 512) (u.alloc (.cells (madeCells #[.int .u8 0] 512) 5)) := by
 obtain ⟨i0, hi0, hz0, hz1, hz2⟩ := info_parts el_u8.info
 have h := run_make (P := Tryz.prog) u 23 5 i0 (.int .u8 0) el_u8.under hi0 hz0 .i64 .i64 512 512 (by omega) (Int.le_refl _) (by rw [hz2]; omega) (by omega)
 simpa [hz1, Value.cells] using h
theorem rd_zeros (n : Nat) (hn : n ≤ 1000) (u : World) (b : Nat) (hb : b = u.heap.size) : Sl (u.alloc (.cells (madeCells #[.int .u8 0] n) 5)) .u8 (.slice (some ⟨b, 0, none⟩) n n) (List.replicate n 0) := by
 have e : (madeCells #[.int .u8 0] n : Array Value) = ((List.replicate n (0 : Int)).flatMap fun x => [Value.int .u8 x]).toArray := by
  apply Array.toList_inj.1
  rw [toList_madeCells_one, flat1, List.map_replicate]
 rw [e]
 exact (Own.lit (enc_int .u8) (base := 0) _ hb (by simp) (Nat.zero_le _) (by simp [maxLen]; omega)).rd (enc_int .u8)
theorem rd_512 (u : World) : Sl (u.alloc (.cells (madeCells #[.int .u8 0] 512) 5)).drew .u8 (.slice (some ⟨u.heap.size, 0, none⟩) 512 512) (List.replicate 512 0) := (rd_zeros 512 (by decide) u _ rfl).ext (Ext.drew' (Ext.rfl' _))
theorem small_512 : ∀ x ∈ List.replicate 512 (0 : Int), 0 ≤ x ∧ x ≤ 255 := fun x hx => by rw [List.eq_of_mem_replicate hx]; decide
structure EnvD where
 ctx : List Int
 defs : List TDef
 items : List (List (List Int × List Int))
 draws : List Int
structure EnvR (w : World) (e : EnvD) (cv dv iv rv : Value) (rows : List SV) : Prop where
 ctx : Sl w .u8 cv e.ctx
 u8 : ∀ x ∈ e.ctx, 0 ≤ x ∧ x ≤ 255
 defs : Rd w 4 TDef.enc dv e.defs
 draws : Sl w .u64 rv e.draws
 rowsR : Rd w 1 encW iv rows
 len : rows.length = e.items.length
 items : ∀ (i : Nat) (row : SV) l, rows[i]? = some row → e.items[i]? = some l → ∃ I : List IT, Rd w 2 IT.enc row.v I ∧ (∀ x ∈ I, Sl w .u8 x.kv x.key ∧ Sl w .u8 x.vv x.val) ∧ I.map (fun x => (x.key, x.val)) = l
 ib : ∀ l ∈ e.items, ∀ p ∈ l, ∀ x ∈ p.2, 0 ≤ x ∧ x ≤ 255
theorem EnvR.ext {w w' : World} {e : EnvD} {cv dv iv rv : Value} {rows : List SV} (h : EnvR w e cv dv iv rv rows) (k : Ext w w') : EnvR w' e cv dv iv rv rows :=
 ⟨h.ctx.ext k, h.u8, h.defs.ext k, h.draws.ext k, h.rowsR.ext k, h.len, fun i row l h1 h2 => by
  obtain ⟨I, a, b, c⟩ := h.items i row l h1 h2
  exact ⟨I, a.ext k, fun x hx => ⟨(b x hx).1.ext k, (b x hx).2.ext k⟩, c⟩, h.ib⟩
def areas0 (ctx : List Int) : Areas := (mmake (mmake [] 1 ctx false true).1 2 (List.replicate 512 0) true false).1
def putIts (V : Areas × List TM) (i : Nat) : List (List Int × List Int) → Option (Areas × List TM)
 | [] => some V
 | p :: l => if (rput V i p.1 p.2 0).2.1 = 0 ∧ (rput V i p.1 p.2 0).2.2 = 0 then putIts (rput V i p.1 p.2 0).1 i l else none
def putAll (V : Areas × List TM) : Nat → List (List (List Int × List Int)) → Option (Areas × List TM)
 | _, [] => some V
 | i, l :: ls => (putIts V i l).bind fun V' => putAll V' (i + 1) ls
def RS.zero (L : List Ins) (D : List TDef) (dr : List Int) (V : Areas × List TM) : RS := ⟨L, fun _ => 0, fun _ => false, V, D, dr, 0, false, 0, 0, []⟩
def RS.new (L : List Ins) (e : EnvD) : Option RS :=
 if progS L = false ∨ 64 < e.ctx.length ∨ e.defs.length < e.items.length then none
 else (rnew (areas0 e.ctx) e.defs).bind fun V => (putAll V 0 e.items).map fun V' => ((RS.zero L e.defs e.draws V').setR 1 4294967296).setR 10 8589935104
abbrev mz (lv dv drv tp : Value) (b : Nat) : Obj := .cells #[lv, .int .u64 0, .int .u64 0, .int .u64 0, .int .u64 0, .int .u64 0, .int .u64 0, .int .u64 0, .int .u64 0, .int .u64 0, .int .u64 0, .int .u64 0, .bool false, .bool false, .bool false, .bool false, .bool false, .bool false, .bool false, .bool false, .bool false, .bool false, .bool false, .pointer (some ⟨b, 0, none⟩), tp, dv, drv, .int .i64 0, .bool false, .int .i64 0, .int .i64 0, .slice none 0 0] 50 (0, 0)
structure NewR (Q : List Nat) (w0 : World) (b : Nat) (M : Areas) (w : World) : Prop where
 ext : Ext w0 w
 mem : ∃ lv L, RefAt w w0.heap.size b lv L ∧ viewR L = M ∧ ∀ q ∈ Q, q ∉ rfoot b lv L ∧ q < w.heap.size
theorem NewR.go {Q : List Nat} {w0 w w' : World} {b : Nat} {M : Areas} (h : NewR Q w0 b M w) (k : Ext w w') : NewR Q w0 b M w' := by
 obtain ⟨h1, lv, L, h3, h4, h5⟩ := h
 exact ⟨h1.trans' k, lv, L, h3.ext k, h4, fun q hq => ⟨(h5 q hq).1, Nat.lt_of_lt_of_le (h5 q hq).2 k.size⟩⟩
theorem new_make {Q : List Nat} {w0 w : World} {b : Nat} {M : Areas} (h : NewR Q w0 b M w) (n : Int) (v : Value) (xs : List Int) (blank fixed : Bool) (hv : Sl w .u8 v xs) (hu : ∀ x ∈ xs, 0 ≤ x ∧ x ≤ 255) :
  Calls Tryz.prog 33 #[.pointer (some ⟨b, 0, none⟩), .int .i64 n, v, .bool blank, .bool fixed] w fun e w' => (∃ er : Int, e = .returned (.int .i64 er)) ∧ NewR Q w0 b (mmake M n xs blank fixed).1 w' ∧ ∀ q ∈ Q, ∀ o, w.heap[q]? = some o → w'.heap[q]? = some o := by
 obtain ⟨h1, lv, L, h3, h4, h5⟩ := h
 refine (ref_make w0.heap.size b lv L n v xs blank fixed w h3 h1.size hv hu).mono ?_
 rintro e w' ⟨rfl, hk, lv', L2, g1, g2, g3⟩
 rw [h4] at g2
 have hlt := h3.lt
 refine ⟨⟨_, rfl⟩, ⟨hk.below h1 h1.size (fun k hk => (hlt k hk).1), lv', L2, g1, g2, fun q hq => ⟨fun hm => ?_, Nat.lt_of_lt_of_le (h5 q hq).2 hk.size⟩⟩, fun q hq o ho => hk.obj ho (h5 q hq).1⟩
 rcases g3 q hm with h | h
 ·exact (h5 q hq).1 h
 ·have := (h5 q hq).2; omega
theorem may_tab {d : TDef} (h : mayD d = true) : d.max ≤ 16 ∧ d.key ≤ 16 ∧ 1 ≤ d.max := by
 have := (may_iff d).1 h
 rcases this.1 with h1 | h1 <;> omega
theorem tm_tab {d : TDef} (h : mayD d = true) : TabOk d.tm := by
 have := may_tab h
 exact ⟨by simp [TDef.tm]; omega, this.1, this.2.1, fun p hp => by simp [TDef.tm] at hp⟩
theorem full_tab {d : TDef} (h : mayD d = true) : TabOk d.full := by
 have := may_tab h
 refine ⟨by simp only [TDef.full, nums_len]; show ((d.max.toNat : Nat) : Int) ≤ d.max; omega, this.1, this.2.1, fun p hp => ?_⟩
 have := nums_mem (show p ∈ nums d.max.toNat from hp)
 rw [this.2]
 have := numKey_size (p.2 : Int)
 omega
theorem rnews_tab {M : Areas} {ds : List TDef} (h : ∀ d ∈ ds, mayD d = true) : ∀ (k : Nat) {V : Areas × List TM}, rnews M ds k = some V → (∀ t ∈ V.2, TabOk t)
 | 0, V, hV => by
  have : (M, []) = V := by simpa [rnews] using hV
  subst this
  intro t ht; cases ht
 | k + 1, V, hV => by
  rw [rnews, Option.bind_eq_some_iff] at hV
  obtain ⟨V1, h1, h2⟩ := hV
  rw [Option.bind_eq_some_iff] at h2
  obtain ⟨d, h3, h4⟩ := h2
  have hd := h d (List.mem_of_getElem? h3)
  have ih := rnews_tab h k h1
  unfold rnew1 at h4
  split at h4
  ·have : (V1.1, V1.2 ++ [d.tm]) = V := by simpa using h4
   subst this
   intro t ht
   rcases List.mem_append.1 ht with ht | ht
   ·exact ih t ht
   ·rw [List.mem_singleton] at ht; subst ht; exact tm_tab hd
  ·rw [Option.map_eq_some_iff] at h4
   obtain ⟨M1, _, h6⟩ := h4
   subst h6
   intro t ht
   rcases List.mem_append.1 ht with ht | ht
   ·exact ih t ht
   ·rw [List.mem_singleton] at ht; subst ht; exact full_tab hd
theorem rnew_tab {M : Areas} {ds : List TDef} {V : Areas × List TM} (h : rnew M ds = some V) : (∀ t ∈ V.2, TabOk t) ∧ ds.length ≤ 8 := by
 unfold rnew at h
 split at h
 ·rename_i hr
  unfold rightL at hr
  simp only [Bool.and_eq_true, decide_eq_true_eq, List.all_eq_true] at hr
  exact ⟨rnews_tab hr.2 _ h, hr.1⟩
 ·cases h
theorem putIts_tab {i : Nat} : ∀ (l : List (List Int × List Int)) {V V' : Areas × List TM}, (∀ t ∈ V.2, TabOk t) → putIts V i l = some V' → ∀ t ∈ V'.2, TabOk t
 | [], V, V', h, e => by
  have : V = V' := by simpa [putIts] using e
  subst this; exact h
 | p :: l, V, V', h, e => by
  rw [putIts] at e
  split at e
  ·exact putIts_tab l (rput_tab h) e
  ·cases e
theorem putAll_tab : ∀ (ls : List (List (List Int × List Int))) (i : Nat) {V V' : Areas × List TM}, (∀ t ∈ V.2, TabOk t) → putAll V i ls = some V' → ∀ t ∈ V'.2, TabOk t
 | [], i, V, V', h, e => by
  have : V = V' := by simpa [putAll] using e
  subst this; exact h
 | l :: ls, i, V, V', h, e => by
  rw [putAll, Option.bind_eq_some_iff] at e
  obtain ⟨V1, h1, h2⟩ := e
  exact putAll_tab ls (i + 1) (putIts_tab l h h1) h2
theorem new_inv {L : List Ins} {e : EnvD} {σ : RS} (h : RS.new L e = some σ) (hok : InsOk L) (hd : U64s e.draws) (hl : e.draws.length ≤ 1000000) : σ.Inv ∧ σ.L = L ∧ σ.D = e.defs ∧ e.defs.length ≤ 8 ∧ σ.over = false ∧ σ.steps = 0 ∧ σ.place = 0 ∧ σ.calls = [] ∧ σ.code = 0 := by
 unfold RS.new at h
 split at h
 ·cases h
 ·rename_i hg
  rw [Option.bind_eq_some_iff] at h
  obtain ⟨V, h1, h2⟩ := h
  rw [Option.map_eq_some_iff] at h2
  obtain ⟨V', h3, h4⟩ := h2
  subst h4
  have hp : progS L = true := by cases hq : progS L; exact absurd (.inl hq) hg; rfl
  have ht := rnew_tab h1
  have hc : (RS.zero L e.defs e.draws V').Core := ⟨fun d hd => (show u64R 0 from ⟨by decide, by decide⟩), putAll_tab _ _ ht.1 h3, hd, hl⟩
  have hc2 := (hc.setR (n := 4294967296) ⟨by decide, by decide⟩ 1).setR (n := 8589935104) ⟨by decide, by decide⟩ 10
  refine ⟨⟨hc2, hp, hok, Int.le_refl _, Int.le_refl _, ?_⟩, rfl, rfl, ht.2, rfl, rfl, rfl, rfl, rfl⟩
  show (stF false L)[0]? = some true
  have hlen := (ProgF.of hp).len.1
  cases L with
  | nil => simp at hlen
  | cons x xs => simp [stF]
theorem new_put {Q Z0 : List Nat} {w0 w : World} {B tb : Nat} {σ : RS} (h : MRelQ Q [] Z0 w0 w0.heap.size w B σ) (hs : ∀ t ∈ σ.V.2, TabOk t) (hc : w.cell? ⟨B, 24, none⟩ = some (.pointer (some ⟨tb, 0, none⟩))) (i : Int) {kv vv : Value} {ks vs : List Int} (hk : Sl w0 .u8 kv ks) (hv : Sl w0 .u8 vv vs) (hu : ∀ q ∈ vs, 0 ≤ q ∧ q ≤ 255) :
  Calls Tryz.prog 35 #[.pointer (some ⟨tb, 0, none⟩), .int .i64 i, kv, vv, .int .u64 0] w
   (fun e w' => e = .returned (.tuple #[.int .u64 (rput σ.V i ks vs 0).2.1, .int .i64 (rput σ.V i ks vs 0).2.2]) ∧ MRelQ Q [] Z0 w0 w0.heap.size w' B { σ with V := (rput σ.V i ks vs 0).1 } ∧ ∀ q, (q ∈ Q ∨ q = B) → ∀ o, w.heap[q]? = some o → w'.heap[q]? = some o) := by
 obtain ⟨h0, hl, l, h1, h2, h3, h4⟩ := h
 have hw := h1.view
 have htb : l.tb = tb := by
  have := h1.cell 24 rfl
  rw [hc] at this
  have := Option.some.inj this
  injection this with this
  have := Option.some.inj this
  injection this with this
  exact this.symm
 subst htb
 have hge : ∀ j ∈ rtfoot l.tb l.T, w0.heap.size ≤ j := fun j hj => (h1.tab.lt j hj).1
 have hE : Ext w0 w := h0.ext (fun k hk => by cases hk)
 have hSL : ∀ x ∈ l.T.R, x.T.slots.length ≤ 1000 := fun x hx => by
  have hT := hs x.T (by rw [← hw]; exact List.mem_map.2 ⟨x, hx, rfl⟩)
  have := hT.few
  have := hT.max
  omega
 refine (rtab_put w0.heap.size l.tb l.T i kv vv ks vs 0 w h1.tab hE.size (η hSL) (hk.ext hE) (hv.ext hE) hu (by decide) (η (by decide)) (η fun w' k => hv.ext (k.below hE hE.size hge)) (η fun w' k => hk.ext (k.below hE hE.size hge))).mono ?_
 rintro e w' ⟨h, hk5, S', hT, hV, hfo, hrb⟩
 rw [hw] at h hV
 have := MRelQ.tabStep (Q := Q) h0 hl h1 h2 h3 h4 hk5 hT hrb hfo
 rw [hV] at this
 exact ⟨h, this⟩
theorem lookup_some {β : Type} : ∀ (M : List (Int × β)) (n : Int) (A : β), M.lookup n = some A → ∃ q ∈ M, q.2 = A
 | [], n, A, h => by simp at h
 | (k, B) :: M, n, A, h => by
  rw [List.lookup_cons] at h
  split at h
  ·cases h; exact ⟨(k, B), List.mem_cons_self, rfl⟩
  ·obtain ⟨q, h1, h2⟩ := lookup_some M n A h
   exact ⟨q, List.mem_cons_of_mem _ h1, h2⟩
theorem mstore_bytes {M : Areas} (h : BytesOk M) (p s n : Int) : BytesOk (mstore M p s n).1 := by
 unfold mstore
 split
 ·cases hm : mfind M p s with
  | none => exact h
  | some z =>
   obtain ⟨A, o⟩ := z
   simp only
   split
   ·exact h
   ·have hA : ∀ x ∈ A.bytes, 0 ≤ x ∧ x ≤ 255 := by
     unfold mfind at hm
     cases hl : M.lookup (p / 4294967296) with
     | none => rw [hl] at hm; cases hm
     | some A' =>
      rw [hl] at hm
      simp only at hm
      split at hm
      ·cases hm
      ·cases hm
       obtain ⟨q, h1, h2⟩ := lookup_some M _ _ hl
       rw [← h2]
       exact h q h1
    intro q hq x hx
    simp only [setKey, List.mem_map] at hq
    obtain ⟨r, hr, rfl⟩ := hq
    split at hx
    ·simp only [Ar.write, over, List.mem_append] at hx
     rcases hx with (hx | hx) | hx
     ·exact hA x (List.mem_of_mem_take hx)
     ·exact bytesOf_u8 n _ x hx
     ·exact hA x (List.mem_of_mem_drop hx)
    ·exact h r hr x hx
 ·exact h
theorem mmake_bytes {M : Areas} (h : BytesOk M) (n : Int) {b : List Int} (hb : ∀ x ∈ b, 0 ≤ x ∧ x ≤ 255) (bl fx : Bool) : BytesOk (mmake M n b bl fx).1 := by
 unfold mmake
 split
 ·exact h
 ·split
  ·exact h
  ·intro q hq x hx
   rcases List.mem_append.1 hq with hq | hq
   ·exact h q hq x hx
   ·rw [List.mem_singleton] at hq
    subst hq
    exact hb x hx
theorem mputs_bytes {M : Areas} (h : BytesOk M) (a : Int) (vs : List Int) : ∀ k, BytesOk (mputs M a vs k)
 | 0 => h
 | k + 1 => mstore_bytes (mputs_bytes h a vs k) _ _ _
theorem rput_bytes {V : Areas × List TM} (h : BytesOk V.1) (i : Int) (ks : List Int) {vs : List Int} (hv : ∀ x ∈ vs, 0 ≤ x ∧ x ≤ 255) (fl : Int) : BytesOk (rput V i ks vs fl).1.1 := by
 unfold rput
 (repeat' split) <;> first | exact h | exact mputs_bytes h _ _ _ | exact mmake_bytes h _ hv _ _
section
variable {σ : RS}
theorem acts_bytes (h : BytesOk σ.V.1) (c : Cl) (hc : ∀ x ∈ c.val, 0 ≤ x ∧ x ≤ 255) : BytesOk (σ.acts c).1.1 := by
 unfold RS.acts
 (repeat' split) <;> first | exact h | exact rput_bytes h _ _ hc _
theorem call_bytes (h : BytesOk σ.V.1) (x : Ins) : BytesOk (σ.call x).1.V.1 := by
 unfold RS.call
 (repeat' split) <;> first | exact h | exact acts_bytes h _ (told_val h x.imm)
theorem ite_by {c : Prop} [Decidable c] {a b : RS × Int × Int} (ha : BytesOk a.1.V.1) (hb : BytesOk b.1.V.1) : BytesOk (if c then a else b).1.V.1 := by split <;> assumption
theorem ite_by2 {c : Prop} [Decidable c] {a b : RS × Int} (ha : BytesOk a.1.V.1) (hb : BytesOk b.1.V.1) : BytesOk (if c then a else b).1.V.1 := by split <;> assumption
theorem does_bytes (h : BytesOk σ.V.1) (x : Ins) (k : Wh) : BytesOk (σ.does x k).1.V.1 := by
 unfold RS.does
 refine ite_by (ite_by2 h h) (ite_by (ite_by h h) (ite_by ?_ (ite_by (ite_by h h) (ite_by (ite_by2 h (ite_by2 h h)) (ite_by (ite_by2 h (ite_by2 (ite_by2 h (mstore_bytes h _ _ _)) (mstore_bytes h _ _ _))) (ite_by h (ite_by (ite_by h h) (ite_by (call_bytes h x) (ite_by (ite_by h h) h)))))))))
 cases σ.L[σ.place.toNat + 1]? <;> exact h
theorem step_bytes (h : BytesOk σ.V.1) : BytesOk σ.step.1.V.1 := by
 unfold RS.step
 split
 ·exact h
 ·split
  ·exact h
  ·split
   ·exact does_bytes h _ _
   ·exact does_bytes h _ _
end
section
variable {σ : RS} {R : Nat → Int} {S : Nat → Bool}
theorem step_code (hi : σ.Inv) (hov : σ.over = false) (he : σ.step.2 ≠ 0) : σ.step.1.code ≠ 0 := by
 obtain ⟨x, hon⟩ := hi.on
 revert he
 unfold RS.step
 rw [if_neg (by rw [hov]; decide), hon.code]
 simp only
 by_cases h : (σ.does x (whatZ x)).2.2 ≠ 0
 ·rw [if_pos h]; exact fun _ => h
 ·rw [if_neg h]; exact fun h' => absurd rfl h'
theorem iter_agr : ∀ (n : Nat) (σ : RS) (R : Nat → Int) (S : Nat → Bool), σ.Inv → BytesOk σ.V.1 → (σ.over = false → Agr (Nd σ.L σ.place.toNat) σ R S) → (σ.over = true → σ.code = 0 → R 0 = σ.R 0) →
  ∃ R' S', RS.iter n (σ.rs R S) = (RS.iter n σ).rs R' S' ∧ ((RS.iter n σ).over = true → (RS.iter n σ).code = 0 → R' 0 = (RS.iter n σ).R 0)
 | 0, σ, R, S, hi, hb, h1, h2 => ⟨R, S, rfl, h2⟩
 | n + 1, σ, R, S, hi, hb, h1, h2 => by
  rw [RS.iter, RS.iter]
  have e1 : (σ.rs R S).over = σ.over := rfl
  rw [e1]
  by_cases hov : σ.over = true
  ·rw [if_pos hov, if_pos hov]
   exact ⟨R, S, rfl, h2⟩
  ·rw [if_neg hov, if_neg hov]
   have hov' : σ.over = false := by simpa using hov
   obtain ⟨R', S', g1, g2, g3⟩ := step_agr hi hov' (h1 hov')
   rw [show (σ.rs R S).step.1 = σ.step.1.rs R' S' by rw [g1]]
   obtain ⟨i1, i2, i3⟩ := hi.step hb
   refine iter_agr n σ.step.1 R' S' i1 (step_bytes hb) (fun hv => ?_) (fun hv hc => g3 hv (by
    by_cases he : σ.step.2 = 0
    ·exact he
    ·exact absurd hc (step_code hi hov' he)))
   have := g2 hv
   rw [i2]
   exact this
theorem end_rs {τ : RS} {R : Nat → Int} {S : Nat → Bool} (h : τ.over = true → τ.code = 0 → R 0 = τ.R 0) : (τ.rs R S).endV = τ.endV := by
 have hc : (τ.rs R S).codeV = τ.codeV := rfl
 have hr : (if (τ.rs R S).codeV = 0 then (τ.rs R S).R 0 else 0) = if τ.codeV = 0 then τ.R 0 else 0 := by
  rw [hc]
  by_cases hz : τ.codeV = 0
  ·rw [if_pos hz, if_pos hz]
   unfold RS.codeV at hz
   split at hz
   ·rename_i ho
    exact h ho hz
   ·cases hz
  ·rw [if_neg hz, if_neg hz]
 show EV.mk (τ.rs R S).codeV τ.place (if (τ.rs R S).codeV = 0 then (τ.rs R S).R 0 else 0) τ.steps τ.calls ((List.range τ.D.length).map (fun i : Nat => ritems τ.V (i : Int))) = _
 rw [hr, hc]
 rfl
theorem run_agr (hi : σ.Inv) (hb : BytesOk σ.V.1) (hov : σ.over = false) (h : Agr (Nd σ.L σ.place.toNat) σ R S) (fuel : Int) : ((σ.rs R S).run fuel).endV = (σ.run fuel).endV := by
 obtain ⟨R', S', g1, g2⟩ := iter_agr (fuel - σ.steps).toNat σ R S hi hb (fun _ => h) (fun h' => by rw [hov] at h'; cases h')
 have e : (σ.rs R S).run fuel = (σ.run fuel).rs R' S' := g1
 rw [e]
 exact end_rs g2
end
end Go.Proofs.YtppefchjoodgnaaGreat
