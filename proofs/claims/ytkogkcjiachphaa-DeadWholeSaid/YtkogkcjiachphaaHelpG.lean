/- The helpers: what each function of layer 10 (and of its reference) tells. -/
import Derived.Test.YtkogkcjiachphaaProg
import Derived.Test.YtkogkcjiachphaaBase2
namespace Go.Proofs.Ytkogkcjiachphaa
open Go.RowKit
set_option linter.unusedVariables false
set_option linter.unusedSimpArgs false

/-- What a helper is told, tells, draws, and at most; whether it is one. -/
def tolds (id : Int) : List Int := if id = 1 ∨ id = 3 then [1, 2] else if id = 2 then [1, 2, 3, 4] else if id = 6 then [4, 4] else []
def tells (id : Int) : Int := if id = 1 then 2 else if id = 2 ∨ id = 3 ∨ id = 5 ∨ id = 6 ∨ id = 7 ∨ id = 8 then 1 else 0
def draws (id : Int) : Bool := id == 5 || id == 7 || id == 8
def most (id : Int) : Int := if id = 2 ∨ id = 3 ∨ id = 5 then 18446744073709551615 else if id = 7 then 4294967295 else if id = 8 then 63 else 0
def helper (id : Int) : Bool := id == 1 || id == 2 || id == 3 || id == 5 || id == 6 || id == 7 || id == 8
theorem ids (id : Int) : id = 1 ∨ id = 2 ∨ id = 3 ∨ id = 5 ∨ id = 6 ∨ id = 7 ∨ id = 8 ∨ ((id == 1) = false ∧ (id == 2) = false ∧ (id == 3) = false ∧ (id == 5) = false ∧ (id == 6) = false ∧ (id == 7) = false ∧ (id == 8) = false) := by
  simp only [beq_eq_false_iff_ne, ne_eq]; omega

/-- What Sig answers. -/
def SigAns (id : Int) (w : World) (e : Ending) (w' : World) : Prop :=
  ∃ v, e = .returned (.tuple #[.agg #[v, .int .u8 (tells id), .bool (draws id), .int .u64 (most id)], .bool (helper id)]) ∧ Sl w' .u8 v (tolds id) ∧ Ext w w'

theorem sl_none (w : World) (k : IntKind) : Sl w k (.slice none 0 0) [] := Rd.nil _ _ _
theorem sl_lit {W : World} {k : IntKind} {b o c : Nat} {xs : List Int} (hc : xs.length ≤ c) (hm : c ≤ maxLen) (h : ∀ i x, xs[i]? = some x → W.cell? ⟨b, o + i, none⟩ = some (.int k x)) : Sl W k (.slice (some ⟨b, o, none⟩) xs.length c) xs := by
  refine ⟨some ⟨b, o, none⟩, c, rfl, hc, hm, (fun e => by cases e), ?_⟩
  intro i x hx j u hu
  cases j with
  | zero => simp only [List.getElem?_cons_zero, Option.some.injEq] at hu; subst hu; simpa [elt, Addr.add_lit] using h i x hx
  | succ j => simp at hu

theorem sl_top {w : World} {k : IntKind} {b : Nat} {t : TypeId} (xs : List Int) (hb : b = w.heap.size) (hm : xs.length ≤ maxLen := by decide) :
    Sl (w.alloc (.cells (xs.map (Value.int k)).toArray t)) k (.slice (some ⟨b, 0, none⟩) xs.length xs.length) xs := by
  subst hb
  refine sl_lit (Nat.le_refl _) hm fun i x hx => ?_
  rw [World.cell?_alloc_new]
  simp [hx]

set_option maxHeartbeats 1000000 in
theorem rsig (id : Int) (w : World) : Calls Try.prog 75 #[.int .i64 id] w (SigAns id w) := by
  rcases ids id with h | h | h | h | h | h | h | ⟨h1, h2, h3, h5, h6, h7, h8⟩
  all_goals
    try subst h
    go_enter Try.func75, Try.ntmps75
    go_wp2
    go_returns
  · exact ⟨_, rfl, sl_top [1, 2] (by simp), by go_grown⟩
  · exact ⟨_, rfl, sl_top [1, 2, 3, 4] (by simp), by go_grown⟩
  · exact ⟨_, rfl, sl_top [1, 2] (by simp), by go_grown⟩
  · exact ⟨_, rfl, sl_none _ _, by go_grown⟩
  · exact ⟨_, rfl, sl_top [4, 4] (by simp), by go_grown⟩
  · exact ⟨_, rfl, sl_none _ _, by go_grown⟩
  · exact ⟨_, rfl, sl_none _ _, by go_grown⟩
  · simp only [beq_eq_false_iff_ne, ne_eq] at h1 h2 h3 h5 h6 h7 h8
    exact ⟨.slice none 0 0, by simp [tells, draws, most, helper, *], by simp only [tolds]; rw [if_neg (by omega), if_neg (by omega), if_neg (by omega)]; exact sl_none _ _, by go_grown⟩

/-- The block laid last, draws or none. -/
theorem World.alloc_top {w : World} (c : Array Value) (t : TypeId) (b : Nat) (hb : b = w.heap.size) : (w.alloc (.cells c t)).drew.heap[b]? = some (.cells c t (0, 0)) := by
  subst hb; exact heap_alloc_new w _
/-- .. told in memory of the call's own. -/
def SigOwn (id : Int) (w : World) (e : Ending) (w' : World) : Prop :=
  ∃ v, e = .returned (.tuple #[.agg #[v, .int .u8 (tells id), .bool (draws id), .int .u64 (most id)], .bool (helper id)]) ∧ Own w' w.heap.size 5 1 (fun x => [Value.int .u8 x]) v (tolds id) ∧ Ext w w'
theorem SigOwn.ans {id : Int} {w w' : World} {e : Ending} (h : SigOwn id w e w') : SigAns id w e w' := by
  obtain ⟨v, h1, h2, h3⟩ := h
  exact ⟨v, h1, h2.rd (enc_int _), h3⟩
theorem own_top {w : World} {k : IntKind} {base b : Nat} {t : TypeId} (xs : List Int) (hb : b = w.heap.size) (hle : base ≤ w.heap.size) (hm : xs.length ≤ maxLen := by decide) :
    Own (w.alloc (.cells (xs.map (Value.int k)).toArray t)) base t 1 (fun x => [Value.int k x]) (.slice (some ⟨b, 0, none⟩) xs.length xs.length) xs := by
  have h := Own.lit (enc_int k) (w := w) (base := base) (e := t) xs hb rfl hle hm
  rwa [flat1] at h

set_option maxHeartbeats 1000000 in
theorem psig_own (id : Int) (w : World) : Calls Try.prog 90 #[.int .i64 id] w (SigOwn id w) := by
  rcases ids id with h | h | h | h | h | h | h | ⟨h1, h2, h3, h5, h6, h7, h8⟩
  all_goals
    try subst h
    go_enter Try.func90, Try.ntmps90
    go_wp2
    go_returns
  · exact ⟨_, rfl, own_top [1, 2] (by simp) (by simp <;> omega), by go_grown⟩
  · refine ⟨_, rfl, ?_, by go_grown⟩
    have hge : 4 ≤ (Question.appendCap 4 2 5).cut (w.tape w.drawn (Question.appendCap 4 2 5)) := Nat.le_add_right _ _
    have hle : (Question.appendCap 4 2 5).cut (w.tape w.drawn (Question.appendCap 4 2 5)) ≤ maxLen := cut_le 4 2 _ _ (by decide)
    refine ⟨by simp [tolds], .inr ⟨_, _, _, rfl, ?_, World.alloc_top _ _ _ (by simp), hge, hle, ?_, ?_⟩⟩
    · omega
    · simp [Builtin.zeroCells]; omega
    · simp [tolds]
  · exact ⟨_, rfl, own_top [1, 2] (by simp) (by simp <;> omega), by go_grown⟩
  · exact ⟨_, rfl, Own.nil _ _ _ _ _, by go_grown⟩
  · exact ⟨_, rfl, own_top [4, 4] (by simp) (by simp <;> omega), by go_grown⟩
  · exact ⟨_, rfl, Own.nil _ _ _ _ _, by go_grown⟩
  · exact ⟨_, rfl, Own.nil _ _ _ _ _, by go_grown⟩
  · simp only [beq_eq_false_iff_ne, ne_eq] at h1 h2 h3 h5 h6 h7 h8
    exact ⟨.slice none 0 0, by simp [tells, draws, most, helper, *], by simp only [tolds]; rw [if_neg (by omega), if_neg (by omega), if_neg (by omega)]; exact Own.nil _ _ _ _ _, by go_grown⟩
theorem psig (id : Int) (w : World) : Calls Try.prog 90 #[.int .i64 id] w (SigAns id w) := (psig_own id w).mono fun _ _ h => h.ans
end Go.Proofs.Ytkogkcjiachphaa
