/- What the claim leans on: MTwo · LvY · MsO. -/
import Derived.Test.YtppefchjoodgnaaGreatPL34
import Derived.Test.YtppefchjoodgnaaGreatPL35
import Derived.Test.YtppefchjoodgnaaGreatPL03
import Derived.Test.YtppefchjoodgnaaGreatPL05
namespace Go.Proofs.YtppefchjoodgnaaGreat
open Go.RowKit
set_option linter.unusedVariables false
set_option linter.unusedSimpArgs false
def Mat2 (Q : List Nat) (w : World) (ba bb a b : Nat) (σ τ : RS) : Prop :=
 ∃ la lb, MAt w ba a σ la ∧ MAt w bb b τ lb ∧ (∀ j ∈ mfoot a la, j ∉ mfoot b lb ∧ j ∉ mfrz lb) ∧ (∀ j ∈ mfoot b lb, j ∉ mfrz la) ∧ ba ≤ w.heap.size ∧ bb ≤ w.heap.size ∧ ∀ q ∈ Q, q < w.heap.size ∧ q ∉ mfoot a la ∧ q ∉ mfoot b lb
section
variable {w w' w0 w1 wb : World} {ba bb a b : Nat} {σ τ : RS} {Z Zb Q : List Nat}
theorem MAt.ge {l : RLay} (h : MAt w ba a σ l) : ∀ j ∈ mfoot a l, ba ≤ j := fun j hj => by
 rcases List.mem_cons.1 hj with rfl | hj
 ·exact h.low
 ·rcases List.mem_append.1 hj with hj | hj
  ·exact (h.calls.lt (by simpa using hj)).1
  ·exact (h.tab.lt j hj).1
theorem Mat2.symm (h : Mat2 Q w ba bb a b σ τ) : Mat2 Q w bb ba b a τ σ := by
 obtain ⟨la, lb, h1, h2, h3, h4, h5, h6, h7⟩ := h
 exact ⟨lb, la, h2, h1, fun j hj => ⟨fun hj' => (h3 j hj').1 hj, h4 j hj⟩, fun j hj => (h3 j hj).2, h6, h5, fun q hq => ⟨(h7 q hq).1, (h7 q hq).2.2, (h7 q hq).2.1⟩⟩
theorem Mat2.ext (h : Mat2 Q w ba bb a b σ τ) (k : Ext w w') : Mat2 Q w' ba bb a b σ τ := by
 obtain ⟨la, lb, h1, h2, h3, h4, h5, h6, h7⟩ := h
 have := k.size
 exact ⟨la, lb, h1.ext k, h2.ext k, h3, h4, by omega, by omega, fun q hq => ⟨by have := (h7 q hq).1; omega, (h7 q hq).2⟩⟩
theorem Mat2.more (h : Mat2 Q w ba bb a b σ τ) (k : Ext w w') {Q' : List Nat} (hQ : ∀ q ∈ Q', w.heap.size ≤ q ∧ q < w'.heap.size) : Mat2 (Q' ++ Q) w' ba bb a b σ τ := by
 obtain ⟨la, lb, h1, h2, h3, h4, h5, h6, h7⟩ := h
 have := k.size
 refine ⟨la, lb, h1.ext k, h2.ext k, h3, h4, by omega, by omega, fun q hq => ?_⟩
 rcases List.mem_append.1 hq with hq | hq
 ·have := hQ q hq
  exact ⟨this.2, fun hj => by have := h1.lt q hj; omega, fun hj => by have := h2.lt q hj; omega⟩
 ·exact ⟨by have := (h7 q hq).1; omega, (h7 q hq).2⟩
theorem Mat2.made (hA : MRel [] Z w0 w0.heap.size w1 a σ) (hE : Ext w1 wb) (hB : MRel [] Zb wb wb.heap.size w b τ) (hZb : ∀ j ∈ Zb, j < w0.heap.size ∨ w1.heap.size ≤ j) : Mat2 [] w w0.heap.size wb.heap.size a b σ τ := by
 obtain ⟨ka, la0, la, a1, a2, a3⟩ := hA
 obtain ⟨kb, lb0, lb, b1, b2, b3⟩ := hB
 have s1 := ka.size
 have s2 := hE.size
 have s3 := kb.size
 have hE2 : Ext wb w := kb.ext (fun _ h => by cases h)
 have hlt := a1.lt
 refine ⟨la, lb, (a1.ext hE).ext hE2, b1, fun j hj => ⟨fun hj' => ?_, fun hj' => ?_⟩, fun j hj hj' => ?_, by omega, by omega, fun _ h => by cases h⟩
 ·have := hlt j hj
  have := (b2 j hj').resolve_left (by simp)
  omega
 ·have := hlt j hj
  have h1 := (a2 j hj).resolve_left (by simp)
  rcases b3 j hj' with h | h
  ·rcases hZb j h with h | h <;> omega
  ·omega
 ·have := (b2 j hj).resolve_left (by simp)
  have := (a1.frz j hj').2
  omega
theorem Mat2.both (h : Mat2 Q w ba bb a b σ τ) : ∃ F Z Fb Zb, MRel F Z w ba w a σ ∧ (∀ q ∈ Fb, q ∉ F ∧ q ∉ Z ∧ q < w.heap.size) ∧ (∀ q ∈ F, ba ≤ q ∧ q ∉ Q) ∧ (∀ q ∈ Fb, bb ≤ q) ∧ ∀ w' σ', MRel F Z w ba w' a σ' → MRel Fb Zb w' bb w' b τ ∧ Mat2 Q w' ba bb a b σ' τ := by
 obtain ⟨la, lb, h1, h2, h3, h4, h5, h6, h7⟩ := h
 have hla := h1.lt
 have hlb := h2.lt
 refine ⟨mfoot a la, mfrz la, mfoot b lb, mfrz lb, ⟨Keep.rfl' _ _, h5, la, h1, fun j hj => .inl hj, fun j hj => .inl hj⟩, fun q hq => ⟨fun hq' => (h3 q hq').1 hq, h4 q hq, hlb q hq⟩, fun q hq => ⟨h1.ge q hq, fun hQ => (h7 q hQ).2.1 hq⟩, fun q hq => h2.ge q hq, ?_⟩
 rintro w' σ' ⟨k, kl, la', k1, k2, k3⟩
 have hb' : MAt w' bb b τ lb := h2.keep k (fun j hj hj' => (h3 j hj').1 hj) (fun j hj hj' => (h3 j hj').2 hj)
 have hs := k.size
 refine ⟨⟨Keep.rfl' _ _, by omega, lb, hb', fun j hj => .inl hj, fun j hj => .inl hj⟩, la', lb, k1, hb', fun j hj => ?_, fun j hj hj' => ?_, by omega, by omega, fun q hq => ⟨by have := (h7 q hq).1; omega, fun hj => ?_, (h7 q hq).2.2⟩⟩
 ·rcases k2 j hj with h | h
  ·exact h3 j h
  ·exact ⟨fun hj' => by have := hlb j hj'; omega, fun hj' => by have := (h2.frz j hj').2; omega⟩
 ·rcases k3 j hj' with h | h
  ·exact h4 j hj h
  ·have := hlb j hj; omega
 ·rcases k2 q hj with h | h
  ·exact (h7 q hq).2.1 h
  ·have := (h7 q hq).1; omega
theorem Mat2.cells (h : Mat2 Q w ba bb a b σ τ) {τ' : RS} (i j : Nat) (u v : Value) (hc : ∀ l, ((rCells τ l).set i u).set j v = rCells τ' l) (hV : τ'.V = τ.V := by rfl) (hL : τ'.L = τ.L := by rfl) (hD : τ'.D = τ.D := by rfl) (hd : τ'.dr = τ.dr := by rfl) (hcl : τ'.calls = τ.calls := by rfl) : Mat2 Q ((w.setCell ⟨b, i, none⟩ u).setCell ⟨b, j, none⟩ v) ba bb a b σ τ' := by
 obtain ⟨F, Z, Fb, Zb, h1, h2, h3, _, h4⟩ := h.symm.both
 have k : Keep [b] w ((w.setCell ⟨b, i, none⟩ u).setCell ⟨b, j, none⟩ v) := ((Keep.rfl' _ _).setCell (by simp) u).setCell (by simp) v
 refine (h4 _ _ (h1.turn k (fun l hl => ?_) hV hL hD hd hcl)).2.symm
 have e1 := heap_setCell_same w b i _ _ u hl.head
 have e2 := heap_setCell_same _ b j _ _ v e1
 rw [e2, ← hc l]
 simp
end
theorem rfill_bytes {i : Int} {val : Nat} : ∀ (k : Nat) {M M' : Areas}, BytesOk M → rfill M i val k = some M' → BytesOk M'
 | 0, M, M', h, e => by have : M = M' := by simpa [rfill] using e
                        subst this; exact h
 | k + 1, M, M', h, e => by
  rw [rfill, Option.bind_eq_some_iff] at e
  obtain ⟨M1, h1, h2⟩ := e
  split at h2
  ·cases h2
   exact mmake_bytes (rfill_bytes k h h1) _ (fun x hx => by rw [List.eq_of_mem_replicate hx]; decide) _ _
  ·cases h2
theorem rnews_bytes {ds : List TDef} : ∀ (k : Nat) {M : Areas} {V : Areas × List TM}, BytesOk M → rnews M ds k = some V → BytesOk V.1
 | 0, M, V, h, e => by have : (M, []) = V := by simpa [rnews] using e
                       subst this; exact h
 | k + 1, M, V, h, e => by
  rw [rnews, Option.bind_eq_some_iff] at e
  obtain ⟨V1, h1, h2⟩ := e
  rw [Option.bind_eq_some_iff] at h2
  obtain ⟨d, _, h3⟩ := h2
  have hb := rnews_bytes k h h1
  unfold rnew1 at h3
  split at h3
  ·cases h3; exact hb
  ·rw [Option.map_eq_some_iff] at h3
   obtain ⟨M2, h4, h5⟩ := h3
   subst h5
   exact rfill_bytes _ hb h4
theorem rnew_bytes {M : Areas} {ds : List TDef} {V : Areas × List TM} (h : BytesOk M) (e : rnew M ds = some V) : BytesOk V.1 := by
 unfold rnew at e
 split at e
 ·exact rnews_bytes _ h e
 ·cases e
theorem putIts_bytes {i : Nat} : ∀ (l : List (List Int × List Int)) {V V' : Areas × List TM}, (∀ p ∈ l, ∀ x ∈ p.2, 0 ≤ x ∧ x ≤ 255) → BytesOk V.1 → putIts V i l = some V' → BytesOk V'.1
 | [], V, V', _, h, e => by have : V = V' := by simpa [putIts] using e
                            subst this; exact h
 | p :: l, V, V', hl, h, e => by
  rw [putIts] at e
  split at e
  ·exact putIts_bytes l (fun q hq => hl q (List.mem_cons_of_mem _ hq)) (rput_bytes h _ _ (hl p List.mem_cons_self) _) e
  ·cases e
theorem putAll_bytes : ∀ (ls : List (List (List Int × List Int))) (i : Nat) {V V' : Areas × List TM}, (∀ l ∈ ls, ∀ p ∈ l, ∀ x ∈ p.2, 0 ≤ x ∧ x ≤ 255) → BytesOk V.1 → putAll V i ls = some V' → BytesOk V'.1
 | [], i, V, V', _, h, e => by have : V = V' := by simpa [putAll] using e
                               subst this; exact h
 | l :: ls, i, V, V', hl, h, e => by
  rw [putAll, Option.bind_eq_some_iff] at e
  obtain ⟨V1, h1, h2⟩ := e
  exact putAll_bytes ls (i + 1) (fun q hq => hl q (List.mem_cons_of_mem _ hq)) (putIts_bytes l (hl l List.mem_cons_self) h h1) h2
theorem new_bytes {L : List Ins} {e : EnvD} {σ : RS} (h : RS.new L e = some σ) (hc : ∀ x ∈ e.ctx, 0 ≤ x ∧ x ≤ 255) (hi : ∀ l ∈ e.items, ∀ p ∈ l, ∀ x ∈ p.2, 0 ≤ x ∧ x ≤ 255) : BytesOk σ.V.1 := by
 unfold RS.new at h
 split at h
 ·cases h
 ·rw [Option.bind_eq_some_iff] at h
  obtain ⟨V, h1, h2⟩ := h
  rw [Option.map_eq_some_iff] at h2
  obtain ⟨V', h3, h4⟩ := h2
  subst h4
  refine putAll_bytes _ _ hi (rnew_bytes ?_ h1) h3
  unfold areas0
  exact mmake_bytes (mmake_bytes (fun q hq => by cases hq) _ hc _ _) _ small_512 _ _
section
variable {σ : RS}
theorem iter_inv : ∀ (n : Nat) (σ : RS), σ.Inv → BytesOk σ.V.1 → (RS.iter n σ).Inv ∧ BytesOk (RS.iter n σ).V.1 ∧ (RS.iter n σ).L = σ.L ∧ (RS.iter n σ).D = σ.D
 | 0, σ, hi, hb => ⟨hi, hb, rfl, rfl⟩
 | n + 1, σ, hi, hb => by
  rw [RS.iter]
  split
  ·exact ⟨hi, hb, rfl, rfl⟩
  ·obtain ⟨h1, h2, h3⟩ := hi.step hb
   obtain ⟨g1, g2, g3, g4⟩ := iter_inv n σ.step.1 h1 (step_bytes hb)
   exact ⟨g1, g2, g3.trans h2, g4.trans h3⟩
theorem run_inv (hi : σ.Inv) (hb : BytesOk σ.V.1) (k : Int) : (σ.run k).Inv ∧ BytesOk (σ.run k).V.1 ∧ (σ.run k).L = σ.L ∧ (σ.run k).D = σ.D := iter_inv _ _ hi hb
theorem RS.Inv.rs (hi : σ.Inv) {R : Nat → Int} {S : Nat → Bool} (hR : ∀ d, d ≤ 10 → u64R (R d)) : (σ.rs R S).Inv :=
 ⟨⟨hR, hi.core.tab, hi.core.dr, hi.core.drl⟩, hi.prog, hi.ins, hi.calls, hi.place⟩
theorem Agr.put {A : Nat → Prop} {R : Nat → Int} {S : Nat → Bool} (h : Agr A σ R S) {d : Nat} (hd : ¬ A d) (n : Int) (b : Bool) : Agr A σ (updN R d n) (updN S d b) := fun e he => by
 have : e ≠ d := fun h' => hd (by rw [← h']; exact he)
 unfold updN
 rw [if_neg this, if_neg this]
 exact h e he
end
theorem item_cells {w : World} {v : Value} {L : List IT} (R : Rd w 2 IT.enc v L) {i : Nat} {x : IT} (hx : L[i]? = some x) :
  w.cell? (elt v (i * 2)) = some x.kv ∧ w.cell? ⟨(elt v (i * 2)).block, (elt v (i * 2)).off + 1, none⟩ = some x.vv := by
 have E := R.elt_add hx
 have F : ∀ (p : Addr) (j : Nat), j ≠ 0 → (⟨p.block, p.off + j, none⟩ : Addr) = p.add j := fun p j h => by simp [Addr.add, h]
 rw [F _ 1 (by decide), E]
 exact ⟨R.cell hx (j := 0) rfl, R.cell hx (j := 1) rfl⟩
set_option maxRecDepth 20000 in
set_option maxHeartbeats 2000000 in
theorem same_true (va vb : Value) (l : List (ByteArray × List Int)) (w : World) (ha : IsItems w va l) (hb : IsItems w vb l) : Calls Tryz.prog 74 #[va, vb] w (BoolAns true w) := by
 obtain ⟨I, hI, hi, hIl⟩ := ha
 obtain ⟨J, hJ, hj, hJl⟩ := hb
 obtain ⟨aa, an, ac, rfl, han, hAN⟩ := hI.val
 obtain ⟨ba, bn, bc, rfl, hbn, hBN⟩ := hJ.val
 have hl : an = l.length ∧ bn = l.length := by
  have h1 := congrArg List.length hIl
  have h2 := congrArg List.length hJl
  simp only [List.length_map] at h1 h2
  have := hAN.out; have := hBN.out
  omega
 obtain ⟨rfl, e⟩ := hl
 obtain rfl : bn = l.length := e
 obtain ⟨n, hn⟩ : ∃ n, l.length = n := ⟨_, rfl⟩
 rw [hn] at hI hJ han hAN hbn hBN
 have HI := η hI
 have HJ := η hJ
 have HIR := η hi
 have HJR := η hj
 have HIL := η hIl
 have HJL := η hJl
 rw [hn]
 clear hI hJ hi hj hIl hJl
 have HN := η hn
 clear hn
 go_enter Tryz.func74, Tryz.ntmps74
 go_wp2_with fail
 go_loopw [5] (fun i wr => ∃ (j : Nat), j ≤ n ∧ i = .int .i64 j ∧ Ext w wr) (fun i _ => n - (intOf i).toNat)
 case atStart => exact ⟨0, Nat.zero_le _, rfl, Ext.rfl' _⟩
 case round =>
  obtain ⟨j, hj, rfl, hwr⟩ := hrel
  by_cases hlt : (j : Int) < n
  ·obtain ⟨x, hx⟩ := at_of_lt (xs := I) (k := j) (by have := HIL.out; have := hAN.out; omega)
   obtain ⟨y, hy⟩ := at_of_lt (xs := J) (k := j) (by have := HJL.out; have := hBN.out; omega)
   have ix := fun W => HI.out.run_at (P := Tryz.prog) el_item.under el_item.size .i64 (j : Int) (by omega) (by omega) W
   have iy := fun W => HJ.out.run_at (P := Tryz.prog) el_item.under el_item.size .i64 (j : Int) (by omega) (by omega) W
   obtain ⟨c0, c1⟩ := item_cells (HI.out.ext hwr) hx
   obtain ⟨d0, d1⟩ := item_cells (HJ.out.ext hwr) hy
   simp only [Int.toNat_natCast] at ix iy
   obtain ⟨xk, xv⟩ := HIR.out x (List.mem_of_getElem? hx)
   obtain ⟨yk, yv⟩ := HJR.out y (List.mem_of_getElem? hy)
   have hxy : strOfNums x.key = strOfNums y.key ∧ x.val = y.val := by
    have h1 := congrArg (fun l => l[j]?) (HIL.out.trans HJL.out.symm)
    simp only [List.getElem?_map, hx, hy, Option.map_some, Option.some.injEq, Prod.mk.injEq] at h1
    exact h1
   obtain ⟨e1, e2⟩ := hxy
   rw [IT.kv] at c0 xk d0 yk
   rw [IT.vv] at c1 xv d1 yv
   obtain ⟨k1, hk1⟩ : ∃ k1, x.key.length = k1 := ⟨_, rfl⟩
   obtain ⟨k2, hk2⟩ : ∃ k2, y.key.length = k2 := ⟨_, rfl⟩
   obtain ⟨v1, hv1⟩ : ∃ v1, x.val.length = v1 := ⟨_, rfl⟩
   obtain ⟨v2, hv2⟩ : ∃ v2, y.val.length = v2 := ⟨_, rfl⟩
   rw [hk1] at c0 xk
   rw [hk2] at d0 yk
   rw [hv1] at c1 xv
   rw [hv2] at d1 yv
   have s1 := fun n => ((xk.ext hwr).ext ((Ext.rfl' _).drewN' n)).run_str (P := Tryz.prog) Tryz.underlying23 Tryz.underlying5 Tryz.underlying9
   have s2 := fun n => ((xv.ext hwr).ext ((Ext.rfl' _).drewN' n)).run_str (P := Tryz.prog) Tryz.underlying23 Tryz.underlying5 Tryz.underlying9
   have s3 := fun n => ((yk.ext hwr).ext ((Ext.rfl' _).drewN' n)).run_str (P := Tryz.prog) Tryz.underlying23 Tryz.underlying5 Tryz.underlying9
   have s4 := fun n => ((yv.ext hwr).ext ((Ext.rfl' _).drewN' n)).run_str (P := Tryz.prog) Tryz.underlying23 Tryz.underlying5 Tryz.underlying9
   rw [e1] at s1
   rw [e2] at s2
   generalize strOfNums y.key = sk at *
   generalize strOfNums y.val = sv at *
   clear hx hy xk xv yk yv e1 e2 hk1 hk2 hv1 hv2
   go_wp2_with fail
   go_quiet (fail)
   go_wp2_with fail
   go_roundw
   case rel => exact ⟨j + 1, by omega, by go_num, by (repeat (first|exact xE0 _|assumption|refine xE1 ?_ _|refine xE2 ?_|refine xE3 ?_ _|refine xE4 ?_ (by assumption)))⟩
   case measure => simp [intOf]; omega
  ·go_wp2_with fail
   go_returns
   exact ⟨rfl, hwr⟩
theorem slice_n {α : Type} {w : World} {sz n c : Nat} {a : Option Addr} {enc : α → List Value} {xs : List α} (h : Rd w sz enc (.slice a n c) xs) : (n : Int) ≤ 9223372036854775807 := by
 obtain ⟨a', n', c', e, hb, _⟩ := h.val
 injection e with e1 e2 e3
 subst e2
 omega
theorem bytes_bne (s : ByteArray) : (s != s) = false := by simp [bne]
def CallsAt (u : World) (cv : Value) (l : List Cl) : Prop := ∃ cs, Rd u 6 CB.enc cv cs ∧ cs.map (·.c) = l ∧ ∀ c ∈ cs, Sl u .u8 c.kv c.c.key ∧ Sl u .u8 c.vv c.c.val ∧ Sl u .u64 c.nv c.c.n
theorem CallsAt.ext {u u' : World} {cv : Value} {l : List Cl} (h : CallsAt u cv l) (k : Ext u u') : CallsAt u' cv l := by
 obtain ⟨cs, h1, h2, h3⟩ := h
 exact ⟨cs, h1.ext k, h2, fun c hc => ⟨(h3 c hc).1.ext k, (h3 c hc).2.1.ext k, (h3 c hc).2.2.ext k⟩⟩
theorem cb_at {w : World} {v : Value} {cs : List CB} {k : Nat} {x : CB} (h : Rd w 6 CB.enc v cs) (hx : cs[k]? = some x) :
  w.cell? (elt v (k * 6)) = some (.int .i64 x.c.id) ∧ w.cell? ⟨(elt v (k * 6)).block, (elt v (k * 6)).off + 1, none⟩ = some (.int .i64 x.c.map) ∧ w.cell? ⟨(elt v (k * 6)).block, (elt v (k * 6)).off + 2, none⟩ = some (.slice x.ka x.c.key.length x.kc) ∧ w.cell? ⟨(elt v (k * 6)).block, (elt v (k * 6)).off + 3, none⟩ = some (.slice x.va x.c.val.length x.vc) ∧ w.cell? ⟨(elt v (k * 6)).block, (elt v (k * 6)).off + 4, none⟩ = some (.slice x.na x.c.n.length x.nc) ∧ w.cell? ⟨(elt v (k * 6)).block, (elt v (k * 6)).off + 5, none⟩ = some (.int .u64 x.c.ret) := by
 have E := h.elt_add hx
 have F : ∀ (p : Addr) (j : Nat), j ≠ 0 → (⟨p.block, p.off + j, none⟩ : Addr) = p.add j := fun p j h => by simp [Addr.add, h]
 rw [F _ 1 (by decide), F _ 2 (by decide), F _ 3 (by decide), F _ 4 (by decide), F _ 5 (by decide), E, E, E, E, E]
 exact ⟨h.cell hx (j := 0) rfl, h.cell hx (j := 1) rfl, h.cell hx (j := 2) rfl, h.cell hx (j := 3) rfl, h.cell hx (j := 4) rfl, h.cell hx (j := 5) rfl⟩
abbrev cbOb (id map : Int) (kv vv nv : Value) (ret : Int) : Obj := .cells #[.int .i64 id, .int .i64 map, kv, vv, nv, .int .u64 ret] 76 (0, 0)
set_option maxRecDepth 20000 in
set_option maxHeartbeats 4000000 in
theorem calls_true (va vb : Value) (l : List Cl) (w : World) (ha : CallsAt w va l) (hb : CallsAt w vb l) : Calls Tryz.prog 73 #[va, vb] w (BoolAns true w) := by
 obtain ⟨I, hI, hIl, hi⟩ := ha
 obtain ⟨J, hJ, hJl, hj⟩ := hb
 obtain ⟨aa, an, ac, rfl, han, hAN⟩ := hI.val
 obtain ⟨ba, bn, bc, rfl, hbn, hBN⟩ := hJ.val
 have hl : an = l.length ∧ bn = l.length := by
  have h1 := congrArg List.length hIl
  have h2 := congrArg List.length hJl
  simp only [List.length_map] at h1 h2
  have := hAN.out; have := hBN.out
  omega
 obtain ⟨rfl, e⟩ := hl
 obtain rfl : bn = l.length := e
 obtain ⟨n, hn⟩ : ∃ n, l.length = n := ⟨_, rfl⟩
 rw [hn] at hI hJ han hAN hbn hBN
 have HI := η hI
 have HJ := η hJ
 have HIR := η hi
 have HJR := η hj
 have HIL := η hIl
 have HJL := η hJl
 rw [hn]
 clear hI hJ hi hj hIl hJl
 have HN := η hn
 clear hn
 go_enter Tryz.func73, Tryz.ntmps73
 go_wp2_with fail
 go_loopw [5] (fun i wr => ∃ (j : Nat), j ≤ n ∧ i = .int .i64 j ∧ Hid (Ext w wr)) (fun i _ => n - (intOf i).toNat)
 case atStart => exact ⟨0, Nat.zero_le _, rfl, η (Ext.rfl' _)⟩
 case round =>
  obtain ⟨j, hj, rfl, HW⟩ := hrel
  by_cases hlt : (j : Int) < n
  ·obtain ⟨x, hx⟩ := at_of_lt (xs := I) (k := j) (by have := HIL.out; have := hAN.out; omega)
   obtain ⟨y, hy⟩ := at_of_lt (xs := J) (k := j) (by have := HJL.out; have := hBN.out; omega)
   have ix := fun W => HI.out.run_at (P := Tryz.prog) el_called.under el_called.size .i64 (j : Int) (by omega) (by omega) W
   have iy := fun W => HJ.out.run_at (P := Tryz.prog) el_called.under el_called.size .i64 (j : Int) (by omega) (by omega) W
   obtain ⟨c0, c1, c2, c3, c4, c5⟩ := cb_at (HI.out.ext HW.out) hx
   obtain ⟨d0, d1, d2, d3, d4, d5⟩ := cb_at ((HJ.out.ext HW.out).ext ((Ext.rfl' wr).alloc' (cbOb x.c.id x.c.map (.slice x.ka x.c.key.length x.kc) (.slice x.va x.c.val.length x.vc) (.slice x.na x.c.n.length x.nc) x.c.ret))) hy
   simp only [Int.toNat_natCast] at ix iy
   obtain ⟨xk, xv, xn⟩ := HIR.out x (List.mem_of_getElem? hx)
   obtain ⟨yk, yv, yn⟩ := HJR.out y (List.mem_of_getElem? hy)
   have hxy : x.c = y.c := by
    have h1 := congrArg (fun l => l[j]?) (HIL.out.trans HJL.out.symm)
    simp only [List.getElem?_map, hx, hy, Option.map_some, Option.some.injEq] at h1
    exact h1
   rw [CB.kv] at xk yk
   rw [CB.vv] at xv yv
   rw [CB.nv] at xn yn
   rw [← hxy] at yk yv yn d0 d1 d2 d3 d4 d5
   obtain ⟨⟨id, map, key, val, N, ret⟩, ka, kc, va, vc, na, nc⟩ := x
   obtain ⟨yc, ka2, kc2, va2, vc2, na2, nc2⟩ := y
   simp only at c0 c1 c2 c3 c4 c5 d0 d1 d2 d3 d4 d5 xk xv xn yk yv yn
   clear hx hy hxy
   have XK := η xk
   have XV := η xv
   have XN := η xn
   have YK := η yk
   have YV := η yv
   have YN := η yn
   obtain ⟨kn, hkn⟩ : ∃ kn, key.length = kn := ⟨_, rfl⟩
   obtain ⟨vn, hvn⟩ : ∃ vn, val.length = vn := ⟨_, rfl⟩
   obtain ⟨nn, hnn⟩ : ∃ nn, N.length = nn := ⟨_, rfl⟩
   rw [hkn] at XK YK c2
   rw [hvn] at XV YV c3
   rw [hnn] at XN YN c4
   simp only [hkn, hvn, hnn] at d0 d1 d2 d3 d4 d5
   have HNN := η hnn
   have hnb := slice_n XN.out
   clear xk xv xn yk yv yn hkn hvn hnn
   go_upto_region 8 with fail
   obtain ⟨wc, hwc⟩ : ∃ u, (wr.alloc (cbOb id map (.slice ka kn kc) (.slice va vn vc) (.slice na nn nc) ret)).alloc (cbOb id map (.slice ka2 kn kc2) (.slice va2 vn vc2) (.slice na2 nn nc2) ret) = u := ⟨_, rfl⟩
   have hE1 : Ext wr wc := by rw [← hwc]; (repeat (first|exact xE0 _|assumption|refine xE1 ?_ _|refine xE2 ?_|refine xE3 ?_ _|refine xE4 ?_ (by assumption)))
   have o1 : wc.heap[wr.heap.size]? = some (cbOb id map (.slice ka kn kc) (.slice va vn vc) (.slice na nn nc) ret) := by rw [← hwc]; exact obj_old _ (obj_top _ _ rfl)
   have o2 : wc.heap[wr.heap.size + 1]? = some (cbOb id map (.slice ka2 kn kc2) (.slice va2 vn vc2) (.slice na2 nn nc2) ret) := by rw [← hwc]; exact obj_top _ _ (by simp)
   rw [hwc]
   clear hwc
   ·have HE1 := η (HW.out.trans' hE1)
    have a0 := cO (i := 0) o1
    have a1 := cO (i := 1) o1
    have a2 := cO (i := 2) o1
    have a3 := cO (i := 3) o1
    have a4 := cO (i := 4) o1
    have a5 := cO (i := 5) o1
    have b0 := cO (i := 0) o2
    have b1 := cO (i := 1) o2
    have b2 := cO (i := 2) o2
    have b3 := cO (i := 3) o2
    have b4 := cO (i := 4) o2
    have b5 := cO (i := 5) o2
    have s1 := ((XK.out.ext HW.out).ext hE1).run_str (P := Tryz.prog) Tryz.underlying23 Tryz.underlying5 Tryz.underlying9
    have s2 := ((XV.out.ext HW.out).ext hE1).run_str (P := Tryz.prog) Tryz.underlying23 Tryz.underlying5 Tryz.underlying9
    have s3 := ((YK.out.ext HW.out).ext hE1).run_str (P := Tryz.prog) Tryz.underlying23 Tryz.underlying5 Tryz.underlying9
    have s4 := ((YV.out.ext HW.out).ext hE1).run_str (P := Tryz.prog) Tryz.underlying23 Tryz.underlying5 Tryz.underlying9
    generalize strOfNums key = sk at *
    generalize strOfNums val = sv at *
    have hb1 : (id != id) = false := by simp
    have hb2 : (map != map) = false := by simp
    have hb3 : (ret != ret) = false := by simp
    have hb4 : ((nn : Int) != nn) = false := by simp
    have hb5 : (sk != sk) = false := bytes_bne sk
    have hb6 : (sv != sv) = false := bytes_bne sv
    clear o1 o2 hE1 ix iy c0 c1 c2 c3 c4 c5 d0 d1 d2 d3 d4 d5
    go_wp2_with fail
    go_loopw [8] (fun i wr2 => ∃ (k : Nat), k ≤ nn ∧ i = .int .i64 k ∧ Hid (Ext wc wr2)) (fun i _ => nn - (intOf i).toNat)
    case atStart => exact ⟨0, Nat.zero_le _, rfl, η (Ext.rfl' _)⟩
    case round =>
     obtain ⟨k, hk, rfl, HX⟩ := hrel
     have e4 := HX.out.cellOf a4
     have f4 := HX.out.cellOf b4
     by_cases hlk : (k : Int) < nn
     ·obtain ⟨z, hz⟩ := at_of_lt (xs := N) (k := k) (by have := HNN.out; omega)
      have jx := fun W => XN.out.run_at (P := Tryz.prog) el_u64.under el_u64.size .i64 (k : Int) (by omega) (by omega) W
      have jy := fun W => YN.out.run_at (P := Tryz.prog) el_u64.under el_u64.size .i64 (k : Int) (by omega) (by omega) W
      have g1 := (XN.out.ext (HE1.out.trans' HX.out)).cell hz (j := 0) rfl
      have g2 := (YN.out.ext (HE1.out.trans' HX.out)).cell hz (j := 0) rfl
      simp only [Nat.mul_one, Nat.add_zero, Int.toNat_natCast] at jx jy g1 g2
      have hbz : (z != z) = false := by simp
      clear hz
      go_wp2_with fail
      go_quiet (fail)
      go_wp2_with fail
      go_roundw
      case rel => exact ⟨k + 1, by omega, by go_num, η (by have := HX.out; (repeat (first|exact xE0 _|assumption|refine xE1 ?_ _|refine xE2 ?_|refine xE3 ?_ _|refine xE4 ?_ (by assumption))))⟩
      case measure => simp [intOf]; omega
     ·go_wp2_with fail
      go_roundw
      case rel => exact ⟨j + 1, by omega, by go_num, η (HE1.out.trans' HX.out)⟩
      case measure => simp [intOf]; omega
  ·go_wp2_with fail
   go_returns
   exact ⟨rfl, HW.out⟩
theorem ERd.ext {u u' : World} {e : EV} {cv mv : Value} (h : ERd u e cv mv) (k : Ext u u') : ERd u' e cv mv := by
 obtain ⟨cs, rows, h1, h2, h3, h4, h5, h6⟩ := h
 refine ⟨cs, rows, h1.ext k, h2, fun c hc => ⟨(h3 c hc).1.ext k, (h3 c hc).2.1.ext k, (h3 c hc).2.2.ext k⟩, h4.ext k, h5, fun i row l a b => ?_⟩
 obtain ⟨I, g1, g2, g3⟩ := h6 i row l a b
 exact ⟨I, g1.ext k, fun x hx => ⟨(g2 x hx).1.ext k, (g2 x hx).2.ext k⟩, g3⟩
theorem ERd.calls {u : World} {e : EV} {cv mv : Value} (h : ERd u e cv mv) : CallsAt u cv e.calls := by
 obtain ⟨cs, rows, h1, h2, h3, _⟩ := h
 exact ⟨cs, h1, h2, h3⟩
abbrev endOb (a b c d : Int) (cv mv : Value) : Obj := .cells #[.int .i64 a, .int .i64 b, .int .u64 c, .int .i64 d, cv, mv] 45 (0, 0)
theorem el_irows : El Tryz.prog 25 34 1 24 (.slice none 0 0) := ⟨Tryz.underlying25, by kernel_rfl, rfl, by decide, fun _ => by kernel_rfl⟩
set_option maxRecDepth 20000 in
set_option maxHeartbeats 4000000 in
theorem alike_true (e1 e2 : EV) (cv mv dv nv : Value) (w : World) (h1 : ERd w e1 cv mv) (h2 : ERd w e2 dv nv) (hc : e1.code = e2.code) (hr : e1.r0 = e2.r0) (hcl : e1.calls = e2.calls) (hm : e1.maps = e2.maps) :
  Calls Tryz.prog 40 #[.agg #[.int .i64 e1.code, .int .i64 e1.at_, .int .u64 e1.r0, .int .i64 e1.steps, cv, mv], .agg #[.int .i64 e2.code, .int .i64 e2.at_, .int .u64 e2.r0, .int .i64 e2.steps, dv, nv]] w (BoolAns true w) := by
 have HC1 := η h1.calls
 have HC2 := η h2.calls
 rw [← hcl] at HC2
 obtain ⟨cs, rows, -, -, -, hR, hl, hI⟩ := h1
 obtain ⟨cs2, rows2, -, -, -, hR2, hl2, hI2⟩ := h2
 obtain ⟨code, at1, r0, st1, l1, M⟩ := e1
 obtain ⟨code2, at2, r02, st2, l2, M2⟩ := e2
 simp only at hc hr hcl hm hl hl2 hI hI2 HC1 HC2
 subst hc hr hcl hm
 obtain ⟨ma, n, mc, rfl, hmn, hMN⟩ := hR.val
 obtain ⟨na, n2, nc, rfl, hnn, hNN⟩ := hR2.val
 obtain rfl : n = n2 := by rw [hMN.out, hNN.out, hl, hl2]
 have HR := η hR
 have HR2 := η hR2
 have HI := η hI
 have HI2 := η hI2
 have HLL := η (And.intro hl hl2)
 clear hR hR2 hI hI2 hl hl2
 obtain ⟨ca, cn, cc, rfl, hcn⟩ : ∃ a n c, cv = .slice a n c ∧ Hid (n = l1.length) := by
  obtain ⟨cs, h1, h2, _⟩ := HC1.out
  obtain ⟨a, n, c, e, _, hn⟩ := h1.val
  exact ⟨a, n, c, e, η (by rw [hn.out, ← h2, List.length_map])⟩
 obtain ⟨da, dn, dc, rfl, hdn⟩ : ∃ a n c, dv = .slice a n c ∧ Hid (n = l1.length) := by
  obtain ⟨cs, h1, h2, _⟩ := HC2.out
  obtain ⟨a, n, c, e, _, hn⟩ := h1.val
  exact ⟨a, n, c, e, η (by rw [hn.out, ← h2, List.length_map])⟩
 have hb1 : (code != code) = false := by simp
 have hb2 : (r0 != r0) = false := by simp
 have hb3 : ((n : Int) != n) = false := by simp
 have HCA := η (fun W (he : Ext w W) => calls_true _ _ _ W (HC1.out.ext he) (HC2.out.ext he))
 go_enter Tryz.func40, Tryz.ntmps40
 go_upto_region 1 with fail
 obtain ⟨wc, hwc⟩ : ∃ u, (w.alloc (endOb code at1 r0 st1 (.slice ca cn cc) (.slice ma n mc))).alloc (endOb code at2 r0 st2 (.slice da dn dc) (.slice na n nc)) = u := ⟨_, rfl⟩
 have hE1 : Ext w wc := by rw [← hwc]; (repeat (first|exact xE0 _|assumption|refine xE1 ?_ _|refine xE2 ?_|refine xE3 ?_ _|refine xE4 ?_ (by assumption)))
 have o1 : wc.heap[w.heap.size]? = some (endOb code at1 r0 st1 (.slice ca cn cc) (.slice ma n mc)) := by rw [← hwc]; exact obj_old _ (obj_top _ _ rfl)
 have o2 : wc.heap[w.heap.size + 1]? = some (endOb code at2 r0 st2 (.slice da dn dc) (.slice na n nc)) := by rw [← hwc]; exact obj_top _ _ (by simp)
 rw [hwc]
 clear hwc
 have HE1 := η hE1
 have HO1 := η o1
 have HO2 := η o2
 have a0 := cO (i := 0) o1
 have a2 := cO (i := 2) o1
 have a4 := cO (i := 4) o1
 have b0 := cO (i := 0) o2
 have b2 := cO (i := 2) o2
 have b4 := cO (i := 4) o2
 clear hE1 o1 o2
 go_wp2_with fail
 refine (HCA.out _ HE1.out).mono ?_
 rintro e w2 ⟨rfl, hE2⟩
 have HE2 := η (HE1.out.trans' hE2)
 have HP1 := η (hE2.obj HO1.out)
 have HP2 := η (hE2.obj HO2.out)
 have a5 := cO (i := 5) HP1.out
 have b5 := cO (i := 5) HP2.out
 clear a0 a2 a4 b0 b2 b4 hE2
 go_wp2_with fail
 go_loopw [5] (fun i wr => ∃ (k : Nat), k ≤ n ∧ i = .int .i64 k ∧ Hid (Ext w2 wr)) (fun i _ => n - (intOf i).toNat)
 case atStart => exact ⟨0, Nat.zero_le _, rfl, η (Ext.rfl' _)⟩
 case round =>
  obtain ⟨k, hk, rfl, HX⟩ := hrel
  have e5 := HX.out.cellOf a5
  have f5 := HX.out.cellOf b5
  by_cases hlt : (k : Int) < n
  ·obtain ⟨x, hx⟩ := at_of_lt (xs := rows) (k := k) (by have := HLL.out; have := hMN.out; omega)
   obtain ⟨y, hy⟩ := at_of_lt (xs := rows2) (k := k) (by have := HLL.out; have := hNN.out; omega)
   obtain ⟨z, hz⟩ := at_of_lt (xs := M) (k := k) (by have := HLL.out; have := hMN.out; omega)
   have ix := fun W => HR.out.run_at (P := Tryz.prog) el_irows.under el_irows.size .i64 (k : Int) (by omega) (by omega) W
   have iy := fun W => HR2.out.run_at (P := Tryz.prog) el_irows.under el_irows.size .i64 (k : Int) (by omega) (by omega) W
   have cx := (HR.out.ext (HE2.out.trans' HX.out)).cell hx (j := 0) rfl
   have cy := (HR2.out.ext (HE2.out.trans' HX.out)).cell hy (j := 0) rfl
   simp only [Nat.mul_one, Nat.add_zero, Int.toNat_natCast, SV.v] at ix iy cx cy
   have HSA := η (fun W (he : Ext w W) => same_true (.slice x.a x.n x.c) (.slice y.a y.n y.c) z W (by
    obtain ⟨I, g1, g2, g3⟩ := HI.out k x z hx hz
    exact ⟨I, g1.ext he, fun q hq => ⟨(g2 q hq).1.ext he, (g2 q hq).2.ext he⟩, g3⟩) (by
    obtain ⟨I, g1, g2, g3⟩ := HI2.out k y z hy hz
    exact ⟨I, g1.ext he, fun q hq => ⟨(g2 q hq).1.ext he, (g2 q hq).2.ext he⟩, g3⟩))
   have HX2 := η (HE2.out.trans' HX.out)
   clear hx hy hz
   obtain ⟨xa, xn, xc⟩ := x
   obtain ⟨ya, yn, yc⟩ := y
   simp only at cx cy HSA
   go_upto_region 6 with fail
   go_cut [53] from 42 to 53 (fun v wx => v = .bool false ∧ Hid (Ext wr wx))
   case first =>
    have e5g := Grow.cell e5
    have f5g := Grow.cell f5
    have cxg := Grow.cell cx
    have cyg := Grow.cell cy
    clear e5 f5 cx cy
    (refine wp_region_grow (by kernel_rfl) (by kernel_rfl) ?_; (repeat (go_big_quiet_step (((go_at_call 74; exact Calls.grow (HSA.out _ (HX2.out.trans' (Grow.ext _)))))))); refine wpQuiet_nil ?_; rintro wz ⟨nz, hz⟩; have hwq := nz.ext; rw [← hz] at hwq; clear hz)
    go_wp2_with fail
    go_meet
    exact ⟨rfl, η hwq⟩
   case rest =>
    obtain ⟨rfl, HC⟩ := hcut
    clear cx cy e5 f5
    go_wp2_with fail
    go_roundw
    case rel => exact ⟨k + 1, by omega, by go_num, η (HX.out.trans' HC.out)⟩
    case measure => simp [intOf]; omega
  ·go_wp2_with fail
   go_returns
   exact ⟨rfl, HE2.out.trans' HX.out⟩
set_option maxRecDepth 20000 in
set_option maxHeartbeats 4000000 in
theorem same_end (e : EV) (cv mv dv nv : Value) (w : World) (h1 : ERd w e cv mv) (h2 : ERd w e dv nv) :
  Calls Tryz.prog 15 #[.agg #[.int .i64 e.code, .int .i64 e.at_, .int .u64 e.r0, .int .i64 e.steps, cv, mv], .agg #[.int .i64 e.code, .int .i64 e.at_, .int .u64 e.r0, .int .i64 e.steps, dv, nv]] w (BoolAns true w) := by
 have HAL := η (fun W (he : Ext w W) => alike_true e e cv mv dv nv W (h1.ext he) (h2.ext he) rfl rfl rfl rfl)
 obtain ⟨code, at1, r0, st1, l1, M⟩ := e
 simp only at HAL
 clear h1 h2
 have hb1 : (at1 == at1) = true := by simp
 have hb2 : (st1 == st1) = true := by simp
 go_enter Tryz.func15, Tryz.ntmps15
 go_upto_region 1 with fail
 obtain ⟨wc, hwc⟩ : ∃ u, (w.alloc (endOb code at1 r0 st1 cv mv)).alloc (endOb code at1 r0 st1 dv nv) = u := ⟨_, rfl⟩
 have hE1 : Ext w wc := by rw [← hwc]; (repeat (first|exact xE0 _|assumption|refine xE1 ?_ _|refine xE2 ?_|refine xE3 ?_ _|refine xE4 ?_ (by assumption)))
 have o1 : wc.heap[w.heap.size]? = some (endOb code at1 r0 st1 cv mv) := by rw [← hwc]; exact obj_old _ (obj_top _ _ rfl)
 have o2 : wc.heap[w.heap.size + 1]? = some (endOb code at1 r0 st1 dv nv) := by rw [← hwc]; exact obj_top _ _ (by simp)
 rw [hwc]
 clear hwc
 have HE1 := η hE1
 have HO1 := η o1
 have HO2 := η o2
 have a0 := cO (i := 0) o1
 have a1 := cO (i := 1) o1
 have a2 := cO (i := 2) o1
 have a3 := cO (i := 3) o1
 have a4 := cO (i := 4) o1
 have a5 := cO (i := 5) o1
 have b0 := cO (i := 0) o2
 have b1 := cO (i := 1) o2
 have b2 := cO (i := 2) o2
 have b3 := cO (i := 3) o2
 have b4 := cO (i := 4) o2
 have b5 := cO (i := 5) o2
 clear hE1 o1 o2
 go_wp2_with fail
 refine (HAL.out _ HE1.out).mono ?_
 rintro e w2 ⟨rfl, hE2⟩
 have HE2 := η (HE1.out.trans' hE2)
 have g1 := cO (i := 1) (hE2.obj HO1.out)
 have g3 := cO (i := 3) (hE2.obj HO1.out)
 have k1 := cO (i := 1) (hE2.obj HO2.out)
 have k3 := cO (i := 3) (hE2.obj HO2.out)
 clear a0 a1 a2 a3 a4 a5 b0 b1 b2 b3 b4 b5 hE2
 go_wp2_with fail
 go_returns
 exact ⟨rfl, HE2.out⟩
end Go.Proofs.YtppefchjoodgnaaGreat
