/- What the claim leans on: LvX. -/
import Derived.Test.YtppefchjoodgnaaGreatPL40
import Derived.Test.YtppefchjoodgnaaGreatPL37
namespace Go.Proofs.YtppefchjoodgnaaGreat
open Go.RowKit
set_option linter.unusedVariables false
set_option linter.unusedSimpArgs false
def movI (d n : Int) : Ins := ⟨183, d, 0, 0, n⟩
noncomputable def idleX (L : List Ins) (k : Nat) (x : Ins) : Bool := idleK L k && ((whatZ x).kind == 1 || ((whatZ x).kind == 2 || (whatZ x).kind == 5))
noncomputable def idled (L : List Ins) (n : Int) (k : Nat) (x : Ins) : Ins := if idleX L k x = true then movI x.dst n else x
noncomputable def idledL (L : List Ins) (n : Int) : List Ins := L.mapIdx (idled L n)
theorem mov_what {d : Int} (h : d ≤ 9) (n : Int) : whatS (movI d n) = some ⟨1, 176, true, false, false, 0⟩ := by
 unfold whatS movI
 have h1 : ¬ (10 < d ∨ (10 : Int) < 0) := by omega
 simp only [h1, if_false]
 unfold arithS zerosS
 have h2 : d ≠ 10 := by omega
 simp [h2]
theorem idleK_begins {L : List Ins} {k : Nat} (h : idleK L k = true) : beginsS L k = true := by
 unfold idleK at h
 cases hb : beginsS L k with
 | true => rfl
 | false =>
  exfalso
  split at h
  ·simp only [Bool.and_eq_true] at h
   have : wrN L k = 0 := by unfold wrN atS; rw [hb]; rfl
   rw [this] at h
   simp at h
  ·cases h
theorem idleX_facts {L : List Ins} {k : Nat} {x : Ins} (hp : progS L = true) (hx : L[k]? = some x) (hok : InsOk L) (h : idleX L k x = true) :
  beginsS L k = true ∧ ((whatZ x).kind = 1 ∨ (whatZ x).kind = 2 ∨ (whatZ x).kind = 5) ∧ x.op ≠ 24 ∧ 0 ≤ x.dst ∧ x.dst ≤ 9 ∧ (∀ d, d = x.dst.toNat → ¬ NeedB (rdN L) (wrN L) (ahN L) d k) := by
 unfold idleX at h
 simp only [Bool.and_eq_true, Bool.or_eq_true, beq_iff_eq] at h
 have hb := idleK_begins h.1
 have hst := (begins_iff.1 hb).2.2.2
 rw [Int.toNat_natCast] at hst
 obtain ⟨x', hx', hxo, hko, hwh, _⟩ := start_on hp hok hst
 rw [hx] at hx'
 cases hx'
 have hop : x.op ≠ 24 := fun e => by have := hko.k3.2 e; omega
 have hd1 := hko.kd (by omega)
 have hd2 := hko.dst
 refine ⟨hb, h.2, hop, hxo.dst.1, by omega, ?_⟩
 rintro d rfl hn
 have hi : k < (liveB L).length := by rw [liveB_length hp]; exact (List.getElem?_eq_some_iff.1 hx).1
 obtain ⟨b, hbb⟩ := at_of_lt hi
 have h1 := h.1
 rw [idle_at hx hbb] at h1
 simp only [Bool.and_eq_true, beq_iff_eq] at h1
 have hbe : b = bitsOf (fun r => NeedB (rdN L) (wrN L) (ahN L) r k) := by
  have hi2 := (List.getElem?_eq_some_iff.1 hx).1
  unfold liveB at hbb
  rw [hp] at hbb
  simp only [if_true, List.getElem?_map, List.getElem?_range hi2, Option.map_some] at hbb
  exact (Option.some.inj hbb).symm
 have hbit : b.testBit x.dst.toNat = true := by
  rw [hbe, bitsOf_bit]
  exact ⟨by have := hxo.dst.1; omega, hn⟩
 have hw : (wrN L k).testBit x.dst.toNat = true := by
  rw [wrN_at hb hx]
  unfold writesS
  rw [if_pos (by omega)]
  exact bit_self
 have h4 := congrArg (fun z => z.testBit x.dst.toNat) h1.2.2
 simp only [Nat.testBit_and, hw, hbit, Nat.zero_testBit, Bool.and_self] at h4
 cases h4
section
variable {L : List Ins} {n : Int}
theorem idled_at (k : Nat) : (idledL L n)[k]? = (L[k]?).map (idled L n k) := by unfold idledL; rw [List.getElem?_mapIdx]
theorem idled_len : (idledL L n).length = L.length := by unfold idledL; rw [List.length_mapIdx]
theorem stF_eq : ∀ (b : Bool) (L L' : List Ins), L'.length = L.length → (∀ (k : Nat) (x y : Ins), L[k]? = some x → L'[k]? = some y → (y.op == 24) = (x.op == 24)) → stF b L' = stF b L
 | _, [], [], _, _ => by simp [stF]
 | _, [], _ :: _, h, _ => by simp at h
 | _, _ :: _, [], h, _ => by simp at h
 | true, x :: L, y :: L', h, hh => by
  rw [stF, stF, stF_eq false L L' (by simpa using h) (fun k a b ha hb => hh (k + 1) a b (by simpa using ha) (by simpa using hb))]
 | false, x :: L, y :: L', h, hh => by
  rw [stF, stF, hh 0 x y rfl rfl, stF_eq _ L L' (by simpa using h) (fun k a b ha hb => hh (k + 1) a b (by simpa using ha) (by simpa using hb))]
theorem idled_st (hp : progS L = true) (hok : InsOk L) : stF false (idledL L n) = stF false L := by
 refine stF_eq false L _ idled_len (fun k x y hx hy => ?_)
 rw [idled_at, hx] at hy
 simp only [Option.map_some, Option.some.injEq] at hy
 subst hy
 unfold idled
 split
 ·rename_i h
  have := (idleX_facts hp hx hok h).2.2.1
  rw [show (x.op == 24) = false by simpa using this]
  rfl
 ·rfl
theorem idled_ok (hok : InsOk L) (hn : -2147483648 ≤ n ∧ n ≤ 2147483647) : InsOk (idledL L n) := by
 intro y hy
 obtain ⟨k, hk⟩ := List.getElem?_of_mem hy
 rw [idled_at] at hk
 cases hx : L[k]? with
 | none => rw [hx] at hk; cases hk
 | some x =>
  rw [hx] at hk
  simp only [Option.map_some, Option.some.injEq] at hk
  subst hk
  have hxo := hok.at hx
  unfold idled
  split
  ·exact ⟨⟨by simp [movI], by simp [movI]⟩, hxo.dst, ⟨by simp [movI], by simp [movI]⟩, ⟨by simp [movI], by simp [movI]⟩, hn⟩
  ·exact hxo
theorem idled_half (hp : progS L = true) (hok : InsOk L) {k : Nat} (h : (stF false L)[k]? ≠ some true) : (idledL L n)[k]? = L[k]? := by
 rw [idled_at]
 cases hx : L[k]? with
 | none => rfl
 | some x =>
  have : idleX L k x = false := by
   cases hi : idleX L k x with
   | false => rfl
   | true =>
    have := (begins_iff.1 (idleX_facts hp hx hok hi).1).2.2.2
    rw [Int.toNat_natCast] at this
    exact absurd this h
  simp only [Option.map_some, idled, this]
  rfl
theorem st_next {L : List Ins} : ∀ (b : Bool) {k : Nat} {x : Ins}, (stF b L)[k]? = some true → L[k]? = some x → x.op = 24 → (stF b L)[k + 1]? ≠ some true := by
 induction L with
 | nil => intro b k x h hx; simp at hx
 | cons y L ih =>
  intro b k x h hx ho
  cases k with
  | zero =>
   simp only [List.getElem?_cons_zero, Option.some.injEq] at hx
   subst hx
   cases b with
   | true => simp [stF] at h
   | false =>
    rw [stF, ho]
    cases L with
    | nil => simp [stF]
    | cons z L => simp [stF]
  | succ k =>
   simp only [List.getElem?_cons_succ] at hx
   cases b with
   | true => rw [stF] at h ⊢; exact ih false (by simpa using h) hx ho
   | false => rw [stF] at h ⊢; exact ih _ (by simpa using h) hx ho
theorem idled_prog (hp : progS L = true) (hok : InsOk L) : progS (idledL L n) = true := by
 have P := ProgF.of hp
 have hst := idled_st (n := n) hp hok
 have h1 : ∀ j, j < (idledL L n).length → ok1 (idledL L n) j = true := fun j hj => by
  rw [idled_len] at hj
  have ho := P.o1 j hj
  unfold ok1 at ho ⊢
  rw [hst, idled_at]
  obtain ⟨x, hx⟩ := at_of_lt hj
  rw [hx] at ho ⊢
  simp only [Option.map_some]
  cases hs : (stF false L)[j]? with
  | none => rfl
  | some s =>
   cases s with
   | false => rfl
   | true =>
    rw [hs] at ho
    simp only at ho ⊢
    unfold idled
    split
    ·rename_i hi
     obtain ⟨_, _, _, _, h9, _⟩ := idleX_facts hp hx hok hi
     unfold wholeS
     rw [mov_what h9]
     rfl
    ·unfold wholeS at ho ⊢
     by_cases h24 : x.op = 24
     ·rw [idled_half hp hok (st_next false hs hx h24)]
      exact ho
     ·have : (x.op == 24) = false := by simpa using h24
      rw [this] at ho ⊢
      exact ho
 have h2 : ∀ j, j < (idledL L n).length → ok2 (idledL L n) j = true := fun j hj => by
  rw [idled_len] at hj
  have ho := P.o2 j hj
  unfold ok2 at ho ⊢
  rw [hst, idled_at]
  obtain ⟨x, hx⟩ := at_of_lt hj
  rw [hx] at ho ⊢
  simp only [Option.map_some]
  cases hs : (stF false L)[j]? with
  | none => rfl
  | some s =>
   cases s with
   | false => rfl
   | true =>
    rw [hs] at ho
    simp only at ho ⊢
    by_cases hi : idleX L j x = true
    ·obtain ⟨_, _, _, _, h9, _⟩ := idleX_facts hp hx hok hi
     have : toS (movI x.dst n) j = none := by
      unfold toS whatZ
      rw [mov_what h9]
      simp
     rw [idled, if_pos hi, this]
    ·have hj : ∀ t, jumpOk (idledL L n) t = jumpOk L t := fun t => by unfold jumpOk; rw [hst, idled_len]
     rw [idled, if_neg hi]
     cases ht : toS x j with
     | none => rfl
     | some t => rw [ht] at ho; simp only at ho ⊢; rw [hj]; exact ho
 have hla : ∀ m, lastS (idledL L n) m = lastS L m := by
  intro m
  induction m with
  | zero => rfl
  | succ m ih => rw [lastS, lastS, hst, ih]
 have h3 : endS (idledL L n) = true := by
  have ho := P.last
  unfold endS at ho ⊢
  rw [idled_len, hla, idled_at]
  cases hx : L[lastS L L.length]? with
  | none => rw [hx] at ho; exact ho
  | some x =>
   rw [hx] at ho
   simp only [Option.map_some] at ho ⊢
   unfold idled
   split
   ·rename_i hi
    have := (idleX_facts hp hx hok hi).2.1
    simp only [Bool.or_eq_true, beq_iff_eq] at ho
    omega
   ·exact ho
 unfold progS
 simp only [Bool.and_eq_true, decide_eq_true_eq, List.all_eq_true, List.mem_range]
 exact ⟨by rw [idled_len]; exact P.len.1, by rw [idled_len]; exact P.len.2, h1, h2, h3⟩
end
section
variable {σ : RS} {x : Ins} {k : Wh} {L' : List Ins} {R : Nat → Int} {S : Nat → Bool}
def RS.ofL (σ : RS) (L' : List Ins) : RS := { σ with L := L' }
def RS.goes (σ : RS) (p : Int) : RS := { σ with place := p, steps := σ.steps + 1 }
theorem tells_L : ∀ (ts : List Int) (c : Cl) (i : Nat), (σ.ofL L').tells c i ts = σ.tells c i ts
 | [], c, i => rfl
 | t :: ts, c, i => by
  unfold RS.tells
  rw [show (σ.ofL L').tell c i t = σ.tell c i t from rfl, tells_L ts]
theorem call_L (x : Ins) : (σ.ofL L').call x = ((σ.call x).1.ofL L', (σ.call x).2) := by
 have ht : (σ.ofL L').told x.imm = σ.told x.imm := by unfold RS.told; rw [tells_L]
 have ha : ∀ c, (σ.ofL L').acts c = σ.acts c := fun c => rfl
 unfold RS.call
 rw [ht, ha]
 have e1 : (σ.ofL L').dr = σ.dr := rfl
 rw [e1]
 (repeat' split) <;> rfl
theorem ite_pair {α β : Type} {c : Prop} [Decidable c] {f : α → β} {a b : α} {a' b' : β} (h1 : a' = f a) (h2 : b' = f b) : (if c then a' else b') = f (if c then a else b) := by split <;> assumption
theorem does_L (x : Ins) (k : Wh) (h3 : L'[σ.place.toNat + 1]? = σ.L[σ.place.toNat + 1]? ∨ k.kind ≠ 3) (hlen : L'.length = σ.L.length) : (σ.ofL L').does x k = ((σ.does x k).1.ofL L', (σ.does x k).2) := by
 have ht : targetS L' x σ.place.toNat = targetS σ.L x σ.place.toNat := by unfold targetS; rw [hlen]
 have e1 : (σ.ofL L').place = σ.place := rfl
 have e2 : (σ.ofL L').L = L' := rfl
 have e3 : ∀ d, (σ.ofL L').S d = σ.S d := fun d => rfl
 have e4 : (σ.ofL L').second x k = σ.second x k := rfl
 have e5 : (σ.ofL L').arith x k = ((σ.arith x k).1.ofL L', (σ.arith x k).2) := by
  unfold RS.arith
  rw [e4]
  have : ∀ d, (σ.ofL L').S d = σ.S d := fun d => rfl
  rw [this]
  split <;> rfl
 have e6 : (σ.ofL L').load x k = ((σ.load x k).1.ofL L', (σ.load x k).2) := by
  unfold RS.load
  rw [e3]
  have a1 : (σ.ofL L').addr x.src x = σ.addr x.src x := rfl
  have a2 : (σ.ofL L').V = σ.V := rfl
  rw [a1, a2]
  (repeat' split) <;> rfl
 have e7 : (σ.ofL L').store x k = ((σ.store x k).1.ofL L', (σ.store x k).2) := by
  unfold RS.store RS.putM
  rw [e4, e3]
  have a1 : (σ.ofL L').addr x.dst x = σ.addr x.dst x := rfl
  have a2 : (σ.ofL L').V = σ.V := rfl
  rw [a1, a2]
  (repeat' split) <;> rfl
 have e8 : (σ.ofL L').D = σ.D := rfl
 have e9 : ∀ d, (σ.ofL L').R d = σ.R d := fun d => rfl
 unfold RS.does
 simp only [e1, e2, e3, e4, e5, e6, e7, e8, e9, ht, call_L]
 let f : RS × Int × Int → RS × Int × Int := fun z => (z.1.ofL L', z.2)
 show _ = f _
 refine ite_pair rfl (ite_pair (ite_pair rfl rfl) ?_)
 by_cases hk : k.kind = 3
 ·have h3' := h3.resolve_right (by simp [hk])
  rw [if_pos hk, if_pos hk, h3']
  cases σ.L[σ.place.toNat + 1]? <;> rfl
 ·rw [if_neg hk, if_neg hk]
  exact ite_pair (ite_pair rfl rfl) (ite_pair rfl (ite_pair rfl (ite_pair rfl (ite_pair (ite_pair rfl rfl) (ite_pair rfl (ite_pair (ite_pair rfl rfl) rfl))))))
end
section
variable {σ : RS} {R : Nat → Int} {S : Nat → Bool} {n : Int}
theorem step_idle (hi : σ.Inv) (hb : BytesOk σ.V.1) (hov : σ.over = false) (h : Agr (Nd σ.L σ.place.toNat) σ R S) :
  (σ.step.2 ≠ 0 ∧ σ.step.2 ≠ 100 ∧ σ.step.2 ≠ 111) ∨ ∃ R' S', ((σ.rs R S).ofL (idledL σ.L n)).step = ((σ.step.1.rs R' S').ofL (idledL σ.L n), σ.step.2) ∧ (σ.step.1.over = false → Agr (Nd σ.L σ.step.1.place.toNat) σ.step.1 R' S') ∧ (σ.step.1.over = true → σ.step.2 = 0 → R' 0 = σ.step.1.R 0) := by
 obtain ⟨x, hon⟩ := hi.on
 have hst := hi.place.2
 by_cases hx : idleX σ.L σ.place.toNat x = true
 ·obtain ⟨hbg, hk, hop, hd0, hd9, hnb⟩ := idleX_facts hi.prog hon.code hi.ins hx
  have hcode : ((σ.rs R S).ofL (idledL σ.L n)).L[σ.place.toNat]? = some (movI x.dst n) := by
   show (idledL σ.L n)[σ.place.toNat]? = _
   rw [idled_at, hon.code, Option.map_some, idled, if_pos hx]
  have hz : whatZ (movI x.dst n) = ⟨1, 176, true, false, false, 0⟩ := by unfold whatZ; rw [mov_what hd9]; rfl
  have hnx : nextI (movI x.dst n) σ.place.toNat = nextI x σ.place.toNat := by unfold nextI; rw [if_neg hop, if_neg (by simp [movI])]
  -- what the other one does
  obtain ⟨v', hv'⟩ : ∃ v', ((σ.rs R S).ofL (idledL σ.L n)).step = ((((σ.rs R S).setR x.dst.toNat v').ofL (idledL σ.L n)).goes (nextI x σ.place.toNat), 0) := by
   refine ⟨aluN 176 true 0 (R x.dst.toNat) (negB 176 (immN (movI x.dst n))), ?_⟩
   have hd : ((σ.rs R S).ofL (idledL σ.L n)).does (movI x.dst n) (whatZ (movI x.dst n)) = (((σ.rs R S).setR x.dst.toNat (aluN 176 true 0 (R x.dst.toNat) (negB 176 (immN (movI x.dst n))))).ofL (idledL σ.L n), (nextI x σ.place.toNat : Int), 0) := by
    rw [hz]
    unfold RS.does
    rw [if_pos rfl]
    unfold RS.arith RS.second
    rw [if_neg (by simp)]
    rw [show ((σ.rs R S).ofL (idledL σ.L n)).place = σ.place from rfl, hnx]
    rfl
   have e1 : ((σ.rs R S).ofL (idledL σ.L n)).over = false := hov
   have e2 : ((σ.rs R S).ofL (idledL σ.L n)).place = σ.place := rfl
   unfold RS.step
   rw [if_neg (by rw [e1]; decide), e2, hcode]
   simp only [hd]
   rw [if_neg (by simp)]
   rfl
  -- what the first one does
  have hcase : ((σ.does x (whatZ x)).2.2 ≠ 0 ∧ (σ.does x (whatZ x)).2.2 ≠ 100 ∧ (σ.does x (whatZ x)).2.2 ≠ 111) ∨ ∃ v, σ.does x (whatZ x) = (σ.setR x.dst.toNat v, (nextI x σ.place.toNat : Int), 0) := by
   rcases hk with e | e | e
   ·simp only [RS.does, e, if_true]
    unfold RS.arith
    split
    ·exact .inl (by simp)
    ·exact .inr ⟨_, rfl⟩
   ·by_cases hS : σ.S x.dst.toNat = false
    ·left
     simp [RS.does, e, hS]
    ·right
     simp only [RS.does, e, hS]
     simp
     exact ⟨_, rfl⟩
   ·simp only [RS.does, e]
    simp
    unfold RS.load
    split
    ·exact .inl (by simp)
    ·split
     ·rename_i hm
      left
      have := mload_c σ.V.1 (σ.addr x.src x) (whatZ x).size
      refine ⟨hm, ?_, ?_⟩
      ·show (mload σ.V.1 (σ.addr x.src x) (whatZ x).size).2 ≠ 100; omega
      ·show (mload σ.V.1 (σ.addr x.src x) (whatZ x).size).2 ≠ 111; omega
     ·exact .inr ⟨⟨_, rfl⟩, rfl⟩
  have hstep : σ.step = if (σ.does x (whatZ x)).2.2 ≠ 0 then ({ (σ.does x (whatZ x)).1 with over := true, code := (σ.does x (whatZ x)).2.2 }, (σ.does x (whatZ x)).2.2) else ({ (σ.does x (whatZ x)).1 with place := (σ.does x (whatZ x)).2.1, steps := (σ.does x (whatZ x)).1.steps + 1 }, 0) := by
   rw [RS.step, if_neg (by rw [hov]; decide), hon.code]
  rcases hcase with ⟨h1, h2, h2'⟩ | ⟨v, hv⟩
  ·left
   rw [hstep, if_pos h1]
   exact ⟨h1, h2, h2'⟩
  ·right
   rw [hv, if_neg (by simp)] at hstep
   have hstep' : σ.step = ((σ.setR x.dst.toNat v).goes (nextI x σ.place.toNat), 0) := hstep
   rw [hstep', hv']
   have hb0 : NeedB (rdN σ.L) (wrN σ.L) (ahN σ.L) = NeedB (rdN σ.L) (wrN σ.L) (ahN σ.L) := rfl
   refine ⟨updN R x.dst.toNat v', updN S x.dst.toNat true, rfl, fun _ d hd => ?_, fun ho => ?_⟩
   ·have hnx2 : ((nextI x σ.place.toNat : Nat) : Int) ∈ ahN σ.L σ.place.toNat := by
     unfold ahN
     rw [aheadV_at hbg]
     unfold aheadAt
     rw [hon.code]
     exact mem_ahead.2 (.inl ⟨by unfold goesOn; rcases hk with e | e | e <;> rw [e] <;> rfl, rfl⟩)
    have hd' : Need (rdN σ.L) (wrN σ.L) (ahN σ.L) d (nextI x σ.place.toNat) := by
     have : Nd σ.L ((nextI x σ.place.toNat : Int)).toNat d := hd
     rwa [Int.toNat_natCast] at this
    have hB : NeedB (rdN σ.L) (wrN σ.L) (ahN σ.L) d σ.place.toNat := ⟨_, hnx2, hd'⟩
    have hne : d ≠ x.dst.toNat := fun e => hnb d e hB
    have hA := h d (Need.on (by rw [wrN_at hbg hon.code]; unfold writesS; rw [if_pos (by omega)]; exact bit_off hne) hB)
    show updN R x.dst.toNat v' d = updN σ.R x.dst.toNat v d ∧ updN S x.dst.toNat true d = updN σ.S x.dst.toNat true d
    unfold updN
    simp only [if_neg hne]
    exact hA
   ·have : σ.over = true := ho
    rw [hov] at this
    cases this
 ·right
  obtain ⟨R', S', g1, g2, g3⟩ := step_agr hi hov h
  refine ⟨R', S', ?_, g2, g3⟩
  have hcode : ((σ.rs R S).ofL (idledL σ.L n)).L[σ.place.toNat]? = some x := by
   show (idledL σ.L n)[σ.place.toNat]? = _
   rw [idled_at, hon.code, Option.map_some, idled, if_neg hx]
  have hcode1 : (σ.rs R S).L[σ.place.toNat]? = some x := hon.code
  have h3 : (idledL σ.L n)[σ.place.toNat + 1]? = (σ.rs R S).L[(σ.rs R S).place.toNat + 1]? ∨ (whatZ x).kind ≠ 3 := by
   by_cases hk : (whatZ x).kind = 3
   ·left
    exact idled_half hi.prog hi.ins (st_next false hst hon.code (hon.kind.k3.1 (.inl hk)))
   ·exact .inr hk
  have hd := does_L (σ := σ.rs R S) (L' := idledL σ.L n) x (whatZ x) h3 idled_len
  have e1 : ((σ.rs R S).ofL (idledL σ.L n)).over = false := hov
  have e1' : (σ.rs R S).over = false := hov
  have e2 : ((σ.rs R S).ofL (idledL σ.L n)).place = σ.place := rfl
  have e2' : (σ.rs R S).place = σ.place := rfl
  have e3 : ((σ.step.1.rs R' S').ofL (idledL σ.L n), σ.step.2) = ((σ.rs R S).step.1.ofL (idledL σ.L n), (σ.rs R S).step.2) := by rw [g1]
  rw [e3]
  unfold RS.step
  rw [if_neg (by rw [e1]; decide), if_neg (by rw [e1']; decide), e2, e2', hcode, hcode1]
  simp only [hd]
  by_cases he : ((σ.rs R S).does x (whatZ x)).2.2 ≠ 0
  ·rw [if_pos he, if_pos he]; rfl
  ·rw [if_neg he, if_neg he]; rfl
theorem step_not (hi : σ.Inv) (hov : σ.over = false) (h : σ.step.2 ≠ 0) : σ.step.1.over = true ∧ σ.step.1.code = σ.step.2 := by
 obtain ⟨x, hon⟩ := hi.on
 revert h
 unfold RS.step
 rw [if_neg (by rw [hov]; decide), hon.code]
 simp only
 by_cases he : (σ.does x (whatZ x)).2.2 ≠ 0
 ·rw [if_pos he]; exact fun _ => ⟨rfl, rfl⟩
 ·rw [if_neg he]; exact fun h => absurd rfl h
theorem iter_idle : ∀ (m : Nat) (σ : RS) (R : Nat → Int) (S : Nat → Bool), σ.Inv → BytesOk σ.V.1 → (σ.over = false → Agr (Nd σ.L σ.place.toNat) σ R S) → (σ.over = true → σ.code = 0 → R 0 = σ.R 0) →
  ((RS.iter m σ).over = true ∧ (RS.iter m σ).code ≠ 0 ∧ (RS.iter m σ).code ≠ 100 ∧ (RS.iter m σ).code ≠ 111) ∨ ∃ R' S', RS.iter m ((σ.rs R S).ofL (idledL σ.L n)) = ((RS.iter m σ).rs R' S').ofL (idledL σ.L n) ∧ ((RS.iter m σ).over = true → (RS.iter m σ).code = 0 → R' 0 = (RS.iter m σ).R 0)
 | 0, σ, R, S, hi, hb, h1, h2 => .inr ⟨R, S, rfl, h2⟩
 | m + 1, σ, R, S, hi, hb, h1, h2 => by
  rw [RS.iter, RS.iter]
  have e1 : ((σ.rs R S).ofL (idledL σ.L n)).over = σ.over := rfl
  rw [e1]
  by_cases hov : σ.over = true
  ·rw [if_pos hov, if_pos hov]
   exact .inr ⟨R, S, rfl, h2⟩
  ·rw [if_neg hov, if_neg hov]
   have hov' : σ.over = false := by simpa using hov
   obtain ⟨i1, i2, i3⟩ := hi.step hb
   rcases step_idle (n := n) hi hb hov' (h1 hov') with ⟨g1, g2, g2'⟩ | ⟨R', S', g1, g2, g3⟩
   ·obtain ⟨k1, k2⟩ := step_not hi hov' g1
    left
    rw [iter_over _ _ k1, k2]
    exact ⟨k1, g1, g2, g2'⟩
   ·rw [show ((σ.rs R S).ofL (idledL σ.L n)).step.1 = (σ.step.1.rs R' S').ofL (idledL σ.L n) by rw [g1]]
    have := iter_idle m σ.step.1 R' S' i1 (step_bytes hb) (fun hv => by rw [i2]; exact g2 hv) (fun hv hc => g3 hv (by
     by_cases he : σ.step.2 = 0
     ·exact he
     ·exact absurd hc (step_code hi hov' he)))
    rw [i2] at this
    exact this
theorem run_idle (hi : σ.Inv) (hb : BytesOk σ.V.1) (fuel : Int) : ((σ.run fuel).endV.code ≠ 0 ∧ (σ.run fuel).endV.code ≠ 111 ∧ (σ.run fuel).endV.code ≠ 100) ∨ ((σ.ofL (idledL σ.L n)).run fuel).endV = (σ.run fuel).endV := by
 rcases iter_idle (n := n) (fuel - σ.steps).toNat σ σ.R σ.S hi hb (fun _ d _ => ⟨rfl, rfl⟩) (fun _ _ => rfl) with ⟨g0, g1, g2, g3⟩ | ⟨R', S', g1, g2⟩
 ·have hc : (σ.run fuel).endV.code = (σ.run fuel).code := by show (σ.run fuel).codeV = _; unfold RS.codeV; exact if_pos g0
  left
  rw [hc]
  exact ⟨g1, g3, g2⟩
 ·right
  have e : (σ.ofL (idledL σ.L n)).run fuel = ((σ.run fuel).rs R' S').ofL (idledL σ.L n) := g1
  rw [e]
  show ((σ.run fuel).rs R' S').endV = _
  exact end_rs g2
end
end Go.Proofs.YtppefchjoodgnaaGreat
