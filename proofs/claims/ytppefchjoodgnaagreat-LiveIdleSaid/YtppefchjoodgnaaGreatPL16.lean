/- What the claim leans on: DrawG · MsS · MsK · MsA. -/
import Derived.Test.YtppefchjoodgnaaGreatPL15
import Derived.Test.YtppefchjoodgnaaGreatPL09
import Derived.Test.YtppefchjoodgnaaGreatPL08
namespace Go.Proofs.YtppefchjoodgnaaGreat
open Go.RowKit
set_option linter.unusedVariables false
set_option linter.unusedSimpArgs false
def U64s (xs : List Int) : Prop := ∀ x ∈ xs, 0 ≤ x ∧ x ≤ 18446744073709551615
def drawn (id : Int) (xs : List Int) : Int := if draws id = true then match xs with | [] => 0 | x :: _ => bits .and .u64 x (most id) else 0
def drawnErr (id : Int) (xs : List Int) : Int := if draws id = true then (if xs = [] then 100 else 0) else 1
def drawnRest (id : Int) (xs : List Int) : List Int := if draws id = true then xs.drop 1 else []
def DrawAns (id : Int) (xs : List Int) (w : World) (e : Ending) (w' : World) : Prop :=
 ∃ v, e = .returned (.tuple #[.int .u64 (drawn id xs), v, .int .i64 (drawnErr id xs)]) ∧ Sl w' .u64 v (drawnRest id xs) ∧ Ext w w'
def DrawOwn (id : Int) (xs : List Int) (w : World) (e : Ending) (w' : World) : Prop :=
 ∃ v, e = .returned (.tuple #[.int .u64 (drawn id xs), v, .int .i64 (drawnErr id xs)]) ∧ Own w' w.heap.size 29 1 (fun x => [Value.int .u64 x]) v (drawnRest id xs) ∧ Ext w w'
theorem DrawOwn.ans {id : Int} {xs : List Int} {w w' : World} {e : Ending} (h : DrawOwn id xs w e w') : DrawAns id xs w e w' := by
 obtain ⟨v, h1, h2, h3⟩ := h
 exact ⟨v, h1, h2.rd (enc_int _), h3⟩
theorem and_most (id x : Int) (h0 : 0 ≤ x) (h1 : x ≤ 18446744073709551615) (hd : draws id = true) : bits .and .u64 x (most id) = x % (most id + 1) := by
 obtain ⟨n, rfl⟩ := Int.eq_ofNat_of_zero_le h0
 have hn : n < 18446744073709551616 := by omega
 have key : ∀ k, k ≤ 64 → bits .and .u64 (n : Int) ((2 ^ k - 1 : Nat) : Int) = (n : Int) % ((2 ^ k : Nat) : Int) := by
  intro k hk
  have hp : 2 ^ k ≤ 18446744073709551616 := by
   calc 2 ^ k ≤ 2 ^ 64 := Nat.pow_le_pow_right (by decide) hk
    _ = 18446744073709551616 := by decide
  have hpos : 0 < 2 ^ k := Nat.pow_pos (by decide)
  rw [bits_and_u64_nat n (2 ^ k - 1) hn (by omega), Nat.and_two_pow_sub_one_eq_mod]
  rfl
 simp only [draws, Bool.or_eq_true, beq_iff_eq] at hd
 rcases hd with (rfl | rfl) | rfl
 ·exact key 64 (by decide)
 ·exact key 32 (by decide)
 ·exact key 6 (by decide)
theorem ret_drawn {id x n : Int} {xs : List Int} {v : Value} (hd : draws id = true) (hM : bits .and .u64 x (most id) = x % (most id + 1)) (hn : n = x % (most id + 1)) :
  Ending.returned (.tuple #[.int .u64 n, v, .int .i64 0]) = .returned (.tuple #[.int .u64 (drawn id (x :: xs)), v, .int .i64 (drawnErr id (x :: xs))]) := by
 subst hn
 simp only [drawn, drawnErr, hd, if_true]
 rw [hM]
 simp
theorem most_le (id : Int) : 0 ≤ most id ∧ most id ≤ 18446744073709551615 := by
 unfold most; split
 ·omega
 ·split
  ·omega
  ·split <;> omega
set_option maxHeartbeats 1000000 in
theorem rdraw_max (id x : Int) (xs : List Int) (la : Option Addr) (ln lc : Nat) (w : World) (h : Sl w .u64 (.slice la ln lc) (x :: xs)) (hb : (xs.length + 1) * 8 ≤ 140737488355328)
  (hN : Hid (ln = xs.length + 1)) (hd : draws id = true) (hx0 : 0 ≤ x) (HX : Hid (x ≤ 18446744073709551615)) (hmax : (most id != 18446744073709551615) = false) :
  Calls Tryz.prog 148 #[.int .i64 id, .slice la ln lc] w (DrawOwn id (x :: xs) w) := by
 have hh : helper id = true := by simp [draws, helper] at hd ⊢; omega
 have hl0 : (0 : Int) < ln := by have := hN.out; omega
 have hl1 : ((ln : Int) == 0) = false := by simp; omega
 have hcut := fun W => h.run_cut_l (P := Tryz.prog) Tryz.underlying26 el_u64.size .i64 1 (by omega) (by omega) W
 have hat := fun W => h.run_at (P := Tryz.prog) Tryz.underlying26 el_u64.size .i64 0 (by omega) (by omega) W
 have hx := h.cell (i := 0) (x := x) rfl (j := 0) rfl
 simp only [Nat.zero_mul, Nat.add_zero, Int.toNat_zero, Int.toNat_one] at hx hat hcut
 have hx' := World.block_lt_of_cell? w _ hx
 have HT : Hid (Sl w .u64 (cutV (.slice la ln lc) 1 ln 1) xs) := by
  have h1 := h.cut (l := 1) (m := ln) (by omega) (Nat.le_of_eq hN.out)
  simp only [List.drop_succ_cons, List.drop_zero] at h1
  rw [List.take_of_length_le (by have := hN.out; omega)] at h1
  exact h1
 have HM := η (and_most id x hx0 HX.out hd)
 have HE : Hid (x = x % (most id + 1)) := by
  have h2 := HX.out
  have h3 : most id = 18446744073709551615 := by simpa using hmax
  show x = _
  rw [h3, Int.emod_eq_of_lt hx0 (by omega)]
 clear h
 go_enter Tryz.func148, Tryz.ntmps148
 go_wp2_with (go_at_call 144; refine (rsig _ _).mono ?_; rintro e w1 ⟨v, rfl, hv, he⟩; obtain ⟨sa, sn, sc, rfl, hsn, hSN⟩ := hv.val; have HV := η hv; clear hv; obtain ⟨hc, hf, hz⟩ := he.facts; obtain ⟨hx1, hx1'⟩ := he.keep hx)
 refine wp_loop_rounds 1 ?_
 rw [rounds_succ]
 go_wp2_with (at_builtin; refine app_own el_u64 (enc_int .u64) rfl _ _ rfl rfl (Own.made _ w.heap.size _ _ _ ?b0 ?b1) rfl (ys := xs) ?b2 ?b3 ?b4 ?b5)
 case b0 => simp
 case b1 => simp; omega
 case b2 => exact HT.out.ext (he.trans' (by go_grown))
 case b3 => exact ⟨by simp; omega, by simp; omega⟩
 case b4 => simp; omega
 intro v' w2 hown hgrow hbel
 go_wp2
 go_returns
 exact ⟨v', ret_drawn hd HM.out HE.out, by simp [drawnRest, hd]; exact hown, hbel _ _ (by go_grown) (Nat.le_refl _)⟩
set_option maxHeartbeats 1000000 in
theorem rdraw_small (id x : Int) (xs : List Int) (la : Option Addr) (ln lc : Nat) (w : World) (h : Sl w .u64 (.slice la ln lc) (x :: xs)) (hb : (xs.length + 1) * 8 ≤ 140737488355328)
  (hN : Hid (ln = xs.length + 1)) (hd : draws id = true) (hx0 : 0 ≤ x) (HX : Hid (x ≤ 18446744073709551615)) (hmax : (most id != 18446744073709551615) = true) (hm0 : 0 ≤ most id) (hle : ¬ most id < x) :
  Calls Tryz.prog 148 #[.int .i64 id, .slice la ln lc] w (DrawOwn id (x :: xs) w) := by
 have hh : helper id = true := by simp [draws, helper] at hd ⊢; omega
 have hl0 : (0 : Int) < ln := by have := hN.out; omega
 have hl1 : ((ln : Int) == 0) = false := by simp; omega
 have hcut := fun W => h.run_cut_l (P := Tryz.prog) Tryz.underlying26 el_u64.size .i64 1 (by omega) (by omega) W
 have hat := fun W => h.run_at (P := Tryz.prog) Tryz.underlying26 el_u64.size .i64 0 (by omega) (by omega) W
 have hx := h.cell (i := 0) (x := x) rfl (j := 0) rfl
 simp only [Nat.zero_mul, Nat.add_zero, Int.toNat_zero, Int.toNat_one] at hx hat hcut
 have hx' := World.block_lt_of_cell? w _ hx
 have HT : Hid (Sl w .u64 (cutV (.slice la ln lc) 1 ln 1) xs) := by
  have h1 := h.cut (l := 1) (m := ln) (by omega) (Nat.le_of_eq hN.out)
  simp only [List.drop_succ_cons, List.drop_zero] at h1
  rw [List.take_of_length_le (by have := hN.out; omega)] at h1
  exact h1
 have HM := η (and_most id x hx0 HX.out hd)
 have HE : Hid (x = x % (most id + 1)) := by
  show x = _
  rw [Int.emod_eq_of_lt hx0 (by omega)]
 clear h
 go_enter Tryz.func148, Tryz.ntmps148
 go_wp2_with (go_at_call 144; refine (rsig _ _).mono ?_; rintro e w1 ⟨v, rfl, hv, he⟩; obtain ⟨sa, sn, sc, rfl, hsn, hSN⟩ := hv.val; have HV := η hv; clear hv; obtain ⟨hc, hf, hz⟩ := he.facts; obtain ⟨hx1, hx1'⟩ := he.keep hx)
 refine wp_loop_rounds 1 ?_
 rw [rounds_succ]
 go_wp2_with (at_builtin; refine app_own el_u64 (enc_int .u64) rfl _ _ rfl rfl (Own.made _ w.heap.size _ _ _ ?b0 ?b1) rfl (ys := xs) ?b2 ?b3 ?b4 ?b5)
 case b0 => simp
 case b1 => simp; omega
 case b2 => exact HT.out.ext (he.trans' (by go_grown))
 case b3 => exact ⟨by simp; omega, by simp; omega⟩
 case b4 => simp; omega
 intro v' w2 hown hgrow hbel
 go_wp2
 go_returns
 exact ⟨v', ret_drawn hd HM.out HE.out, by simp [drawnRest, hd]; exact hown, hbel _ _ (by go_grown) (Nat.le_refl _)⟩
set_option maxHeartbeats 1000000 in
theorem rdraw_big (id x : Int) (xs : List Int) (la : Option Addr) (ln lc : Nat) (w : World) (h : Sl w .u64 (.slice la ln lc) (x :: xs)) (hb : (xs.length + 1) * 8 ≤ 140737488355328)
  (hN : Hid (ln = xs.length + 1)) (hd : draws id = true) (hx0 : 0 ≤ x) (HX : Hid (x ≤ 18446744073709551615)) (hmax : (most id != 18446744073709551615) = true) (hm0 : 0 ≤ most id) (hm1 : most id ≤ 4294967295) (hgt : most id < x) (hr : ¬ most id < x % (most id + 1)) :
  Calls Tryz.prog 148 #[.int .i64 id, .slice la ln lc] w (DrawOwn id (x :: xs) w) := by
 have hh : helper id = true := by simp [draws, helper] at hd ⊢; omega
 have hl0 : (0 : Int) < ln := by have := hN.out; omega
 have hl1 : ((ln : Int) == 0) = false := by simp; omega
 have hcut := fun W => h.run_cut_l (P := Tryz.prog) Tryz.underlying26 el_u64.size .i64 1 (by omega) (by omega) W
 have hat := fun W => h.run_at (P := Tryz.prog) Tryz.underlying26 el_u64.size .i64 0 (by omega) (by omega) W
 have hx := h.cell (i := 0) (x := x) rfl (j := 0) rfl
 simp only [Nat.zero_mul, Nat.add_zero, Int.toNat_zero, Int.toNat_one] at hx hat hcut
 have hx' := World.block_lt_of_cell? w _ hx
 have HT : Hid (Sl w .u64 (cutV (.slice la ln lc) 1 ln 1) xs) := by
  have h1 := h.cut (l := 1) (m := ln) (by omega) (Nat.le_of_eq hN.out)
  simp only [List.drop_succ_cons, List.drop_zero] at h1
  rw [List.take_of_length_le (by have := hN.out; omega)] at h1
  exact h1
 have HM := η (and_most id x hx0 HX.out hd)
 clear h
 go_enter Tryz.func148, Tryz.ntmps148
 go_wp2_with (go_at_call 144; refine (rsig _ _).mono ?_; rintro e w1 ⟨v, rfl, hv, he⟩; obtain ⟨sa, sn, sc, rfl, hsn, hSN⟩ := hv.val; have HV := η hv; clear hv; obtain ⟨hc, hf, hz⟩ := he.facts; obtain ⟨hx1, hx1'⟩ := he.keep hx)
 refine wp_loop_rounds 2 ?_
 rw [rounds_succ]
 go_wp2_with fail
 rw [rounds_succ]
 go_wp2_with (at_builtin; refine app_own el_u64 (enc_int .u64) rfl _ _ rfl rfl (Own.made _ w.heap.size _ _ _ ?b0 ?b1) rfl (ys := xs) ?b2 ?b3 ?b4 ?b5)
 case b0 => simp
 case b1 => simp; omega
 case b2 => exact HT.out.ext (he.trans' (by go_grown))
 case b3 => exact ⟨by simp; omega, by simp; omega⟩
 case b4 => simp; omega
 intro v' w2 hown hgrow hbel
 go_wp2
 go_returns
 exact ⟨v', ret_drawn hd HM.out rfl, by simp [drawnRest, hd]; exact hown, hbel _ _ (by go_grown) (Nat.le_refl _)⟩
set_option maxHeartbeats 1000000 in
theorem rdraw (id : Int) (l : Value) (xs : List Int) (w : World) (h : Sl w .u64 l xs) (hb : xs.length * 8 ≤ 140737488355328) (hu : U64s xs) :
  Calls Tryz.prog 148 #[.int .i64 id, l] w (DrawOwn id xs w) := by
 obtain ⟨la, ln, lc, rfl, hln, hN⟩ := h.val
 have HU := η hu
 clear hu
 by_cases hd : draws id = true
 ·have hh : helper id = true := by simp [draws, helper] at hd ⊢; omega
  cases xs with
  | nil =>
   clear h
   obtain rfl : ln = 0 := hN.out
   go_enter Tryz.func148, Tryz.ntmps148
   go_wp2_with (go_at_call 144; refine (rsig id _).mono ?_; rintro e w1 ⟨v, rfl, hv, he⟩; obtain ⟨sa, sn, sc, rfl, hsn, hSN⟩ := hv.val; have HV := η hv; clear hv; obtain ⟨hc, hf, hz⟩ := he.facts)
   go_returns
   exact ⟨.slice none 0 0, by simp [drawn, drawnErr, hd], by simp [drawnRest]; exact Own.nil _ _ _ _ _, by go_grown⟩
  | cons x xs =>
   have h1 := HU.out x List.mem_cons_self
   have hids : id = 5 ∨ id = 7 ∨ id = 8 := by simp [draws] at hd; omega
   have hm := most_le id
   by_cases hmax : (most id != 18446744073709551615) = true
   ·have hm1 : most id ≤ 4294967295 := by rcases hids with rfl | rfl | rfl <;> first | (exact absurd hmax (by decide)) | decide
    by_cases hgt : most id < x
    ·exact rdraw_big id x xs la ln lc w h (by simpa using hb) hN hd h1.1 h1.2 hmax hm.1 hm1 hgt (by have := Int.emod_lt_of_pos x (show 0 < most id + 1 by omega); omega)
    ·exact rdraw_small id x xs la ln lc w h (by simpa using hb) hN hd h1.1 h1.2 hmax hm.1 hgt
   ·exact rdraw_max id x xs la ln lc w h (by simpa using hb) hN hd h1.1 h1.2 (by simpa using hmax)
 ·have hd' : draws id = false := by simpa using hd
  clear h
  cases hh : helper id
  all_goals
   go_enter Tryz.func148, Tryz.ntmps148
   go_wp2_with (go_at_call 144; refine (rsig id _).mono ?_; rintro e w1 ⟨v, rfl, hv, he⟩; obtain ⟨sa, sn, sc, rfl, hsn, hSN⟩ := hv.val; have HV := η hv; clear hv; obtain ⟨hc, hf, hz⟩ := he.facts)
   go_returns
   exact ⟨.slice none 0 0, by simp [drawn, drawnErr, hd'], by simp [drawnRest, hd']; exact Own.nil _ _ _ _ _, by go_grown⟩
def u64R (n : Int) : Prop := 0 ≤ n ∧ n ≤ 18446744073709551615
def RS.Ok (σ : RS) : Prop := ∀ d, d ≤ 10 → u64R (σ.R d)
def RS.setR (σ : RS) (d : Nat) (n : Int) : RS := { σ with R := updN σ.R d n, S := updN σ.S d true }
def RS.setM (σ : RS) (M : Areas) : RS := { σ with V := (M, σ.V.2) }
def immN (x : Ins) : Int := signN (x.imm % 4294967296) 32
def RS.second (σ : RS) (x : Ins) (k : Wh) : Int × Bool := if k.reg then (σ.R x.src.toNat, σ.S x.src.toNat) else (immN x, true)
def RS.addr (σ : RS) (i : Int) (x : Ins) : Int := IntKind.u64.wrap (σ.R i.toNat + signN (x.off % 65536) 16)
theorem imm_rng (x : Ins) : u64R (immN x) := sign_rng (a := x.imm % 4294967296) (n := 32) (by simp [wid]) (by omega) (by omega)
theorem second_rng {σ : RS} (h : σ.Ok) (x : Ins) (k : Wh) (hs : x.src ≤ 10) : u64R (σ.second x k).1 := by
 unfold RS.second
 split
 ·exact h _ (by omega)
 ·exact imm_rng x
theorem addr_rng (σ : RS) (i : Int) (x : Ins) : u64R (σ.addr i x) := wrap_rng _
def negB (op b : Int) : Int := if op = 128 then 0 else b
def RS.arith (σ : RS) (x : Ins) (k : Wh) : RS × Int :=
 if (σ.second x k).2 = false ∨ (k.op ≠ 176 ∧ σ.S x.dst.toNat = false) then (σ, 110)
 else (σ.setR x.dst.toNat (aluN k.op k.wide x.off (σ.R x.dst.toNat) (negB k.op (σ.second x k).1)), 0)
def RS.load (σ : RS) (x : Ins) (k : Wh) : RS × Int :=
 if σ.S x.src.toNat = false then (σ, 110)
 else if (mload σ.V.1 (σ.addr x.src x) k.size).2 ≠ 0 then (σ, (mload σ.V.1 (σ.addr x.src x) k.size).2)
 else (σ.setR x.dst.toNat (if k.signed then signN (mload σ.V.1 (σ.addr x.src x) k.size).1 (8 * k.size) else (mload σ.V.1 (σ.addr x.src x) k.size).1), 0)
def RS.putM (σ : RS) (at_ size n : Int) : RS × Int := (σ.setM (mstore σ.V.1 at_ size n).1, (mstore σ.V.1 at_ size n).2)
def RS.store (σ : RS) (x : Ins) (k : Wh) : RS × Int :=
 if (σ.second x k).2 = false ∨ σ.S x.dst.toNat = false then (σ, 110)
 else if k.kind = 8 then
  (if (mload σ.V.1 (σ.addr x.dst x) k.size).2 ≠ 0 then (σ, (mload σ.V.1 (σ.addr x.dst x) k.size).2)
   else σ.putM (σ.addr x.dst x) k.size (aluN k.op true 0 (mload σ.V.1 (σ.addr x.dst x) k.size).1 (σ.second x k).1))
 else σ.putM (σ.addr x.dst x) k.size (σ.second x k).1
def tblN (d : Nat) (n : Int) : Int := if 12884901888 ≤ n ∧ n < 12884901888 + d then n - 12884901888 else -1
def Cl.new (id : Int) : Cl := ⟨id, 0, [], [], [], 0⟩
def RS.tell (σ : RS) (c : Cl) (i : Nat) (t : Int) : Cl × Int :=
 if σ.S (i + 1) = false then (c, 110)
 else if t = 1 then ({ c with map := tblN σ.D.length (σ.R (i + 1)) }, if tblN σ.D.length (σ.R (i + 1)) < 0 then 113 else 0)
 else if t = 2 then ({ c with key := (mread σ.V.1 (σ.R (i + 1)) ((pick σ.D c.map).map TDef.key |>.getD 0)).1 }, (mread σ.V.1 (σ.R (i + 1)) ((pick σ.D c.map).map TDef.key |>.getD 0)).2)
 else if t = 3 then ({ c with val := (mread σ.V.1 (σ.R (i + 1)) ((pick σ.D c.map).map TDef.val |>.getD 0)).1 }, (mread σ.V.1 (σ.R (i + 1)) ((pick σ.D c.map).map TDef.val |>.getD 0)).2)
 else ({ c with n := c.n ++ [σ.R (i + 1)] }, 0)
def RS.tells (σ : RS) : Cl → Nat → List Int → Cl × Int
 | c, _, [] => (c, 0)
 | c, i, t :: ts => if (σ.tell c i t).2 ≠ 0 then σ.tell c i t else σ.tells (σ.tell c i t).1 (i + 1) ts
def RS.told (σ : RS) (id : Int) : Cl × Int := if (σ.tells (Cl.new id) 0 (tolds id)).2 ≠ 0 then (Cl.new 0, (σ.tells (Cl.new id) 0 (tolds id)).2) else σ.tells (Cl.new id) 0 (tolds id)
def RS.acts (σ : RS) (c : Cl) : (Areas × List TM) × Int × Int :=
 if c.id = 1 then (σ.V, tlook σ.V.2 c.map c.key)
 else if c.id = 2 then rput σ.V c.map c.key c.val (c.n.headD 0)
 else if c.id = 3 then ((σ.V.1, (rdrop σ.V.2 c.map c.key).1), (rdrop σ.V.2 c.map c.key).2)
 else (σ.V, 0, 0)
def RS.done (σ : RS) (c : Cl) : RS := RS.setR { σ with calls := σ.calls ++ [c], R := fun j => if 1 ≤ j ∧ j ≤ 5 then 0 else σ.R j, S := fun j => if 1 ≤ j ∧ j ≤ 5 then false else σ.S j } 0 c.ret
def RS.call (σ : RS) (x : Ins) : RS × Int :=
 if helper x.imm = false then (σ, 112)
 else if (σ.told x.imm).2 ≠ 0 then (σ, (σ.told x.imm).2)
 else if draws x.imm = true then
  (if drawnErr x.imm σ.dr ≠ 0 then (σ, drawnErr x.imm σ.dr) else (RS.done { σ with dr := drawnRest x.imm σ.dr } { (σ.told x.imm).1 with ret := drawn x.imm σ.dr }, 0))
 else if (σ.acts (σ.told x.imm).1).2.2 ≠ 0 then ({ σ with V := (σ.acts (σ.told x.imm).1).1 }, (σ.acts (σ.told x.imm).1).2.2)
 else (RS.done { σ with V := (σ.acts (σ.told x.imm).1).1 } { (σ.told x.imm).1 with ret := (σ.acts (σ.told x.imm).1).2.1 }, 0)
def longN (x y : Ins) : Int := x.imm % 4294967296 + 4294967296 * (y.imm % 4294967296)
def RS.does (σ : RS) (x : Ins) (k : Wh) : RS × Int × Int :=
 if k.kind = 1 then ((σ.arith x k).1, nextI x σ.place.toNat, (σ.arith x k).2)
 else if k.kind = 2 then (if σ.S x.dst.toNat = false then (σ, 0, 110) else (σ.setR x.dst.toNat (swapN k.wide (8 * k.size) (σ.R x.dst.toNat)), nextI x σ.place.toNat, 0))
 else if k.kind = 3 then (match σ.L[σ.place.toNat + 1]? with | some y => (σ.setR x.dst.toNat (longN x y), nextI x σ.place.toNat, 0) | none => (σ, 0, 0))
 else if k.kind = 4 then (if (σ.D.length : Int) ≤ x.imm then (σ, 0, 113) else (σ.setR x.dst.toNat (12884901888 + x.imm), nextI x σ.place.toNat, 0))
 else if k.kind = 5 then ((σ.load x k).1, nextI x σ.place.toNat, (σ.load x k).2)
 else if k.kind = 6 ∨ k.kind = 7 ∨ k.kind = 8 then ((σ.store x k).1, nextI x σ.place.toNat, (σ.store x k).2)
 else if k.kind = 9 then (σ, (targetS σ.L x σ.place.toNat).getD 0, 0)
 else if k.kind = 10 then
  (if (σ.second x k).2 = false ∨ σ.S x.dst.toNat = false then (σ, 0, 110)
   else (σ, (if condN k.op k.wide (σ.R x.dst.toNat) (σ.second x k).1 = true then (targetS σ.L x σ.place.toNat).getD 0 else nextI x σ.place.toNat), 0))
 else if k.kind = 11 then ((σ.call x).1, nextI x σ.place.toNat, (σ.call x).2)
 else if k.kind = 12 then (if σ.S 0 = false then (σ, 0, 110) else ({ σ with over := true }, σ.place, 0))
 else (σ, nextI x σ.place.toNat, 0)
def RS.step (σ : RS) : RS × Int :=
 if σ.over then (σ, 114)
 else match σ.L[σ.place.toNat]? with
  | none => (σ, 0)
  | some x =>
   if (σ.does x (whatZ x)).2.2 ≠ 0 then ({ (σ.does x (whatZ x)).1 with over := true, code := (σ.does x (whatZ x)).2.2 }, (σ.does x (whatZ x)).2.2)
   else ({ (σ.does x (whatZ x)).1 with place := (σ.does x (whatZ x)).2.1, steps := (σ.does x (whatZ x)).1.steps + 1 }, 0)
def RS.iter : Nat → RS → RS
 | 0, σ => σ
 | n + 1, σ => if σ.over then σ else RS.iter n σ.step.1
def RS.run (σ : RS) (fuel : Int) : RS := RS.iter (fuel - σ.steps).toNat σ
structure KindOk (x : Ins) (k : Wh) : Prop where
 dst : x.dst ≤ 10
 src : x.src ≤ 10
 rng : 1 ≤ k.kind ∧ k.kind ≤ 12
 k1 : k.kind = 1 → doOk k.op k.wide x.off
 kd : k.kind ≤ 5 → x.dst ≠ 10
 k2 : k.kind = 2 → k.size = 2 ∨ k.size = 4 ∨ k.size = 8
 k3 : (k.kind = 3 ∨ k.kind = 4) ↔ x.op = 24
 k4 : k.kind = 4 → 0 ≤ x.imm
 km : 5 ≤ k.kind → k.kind ≤ 8 → k.size = 1 ∨ k.size = 2 ∨ k.size = 4 ∨ k.size = 8
 k8 : k.kind = 8 → doOk k.op true 0
 k10 : k.kind = 10 → condOk k.op
 kr : k.kind = 1 → k.op = 128 → k.reg = false
 ks : k.kind = 7 ∨ k.kind = 8 → k.reg = true
 k6 : k.kind = 6 → k.reg = false
theorem size_ok (op : Int) : sizeS op = 1 ∨ sizeS op = 2 ∨ sizeS op = 4 ∨ sizeS op = 8 := by unfold sizeS; (repeat' split) <;> simp
theorem kind_ok (x : Ins) (k : Wh) (h : whatS x = some k) : KindOk x k := by
 unfold whatS at h
 split at h
 ·cases h
 rename_i hr
 split at h
 ·rename_i h24
  unfold wideS at h
  split at h
  ·cases h
  rename_i hd
  split at h
  ·cases h
   constructor <;> simp_all <;> omega
  split at h
  ·cases h
   constructor <;> simp_all <;> omega
  ·cases h
 rename_i h24
 split at h
 ·unfold swapsS at h
  split at h
  ·rename_i hs
   cases h
   have := hs.2.2
   constructor <;> simp_all <;> omega
  ·cases h
 split at h
 ·unfold arithS at h
  split at h
  ·cases h
  split at h
  ·cases h
  split at h
  ·rename_i hop
   split at h
   ·rename_i ho
    cases h
    constructor <;> simp_all [doOk] <;> omega
   ·cases h
  split at h
  ·rename_i hop
   split at h
   ·rename_i ho
    cases h
    constructor <;> simp_all [doOk] <;> omega
   ·cases h
  split at h
  ·rename_i hop
   split at h
   ·rename_i ho
    cases h
    have hz : x.off = 0 := by
     have := ho.2
     simp [zerosS] at this
     exact this.1.2
    constructor <;> simp_all [doOk] <;> omega
   ·cases h
  split at h
  ·rename_i hop
   split at h
   ·rename_i ho
    cases h
    constructor <;> simp_all [doOk] <;> omega
   ·cases h
  ·cases h
 split at h
 ·unfold jumpsS at h
  split at h
  ·split at h
   ·cases h; constructor <;> simp_all <;> omega
   ·cases h
  split at h
  ·split at h
   ·cases h; constructor <;> simp_all <;> omega
   ·cases h
  split at h
  ·split at h
   ·cases h; constructor <;> simp_all <;> omega
   ·cases h
  split at h
  ·split at h
   ·cases h; constructor <;> simp_all <;> omega
   ·cases h
  split at h
  ·rename_i hg
   split at h
   ·cases h
    have hc : condOk (x.op / 16 * 16) := by
     simp [g11] at hg
     unfold condOk
     omega
    constructor <;> simp_all <;> omega
   ·cases h
  ·cases h
 split at h
 ·cases h
 have hz := size_ok x.op
 unfold movesS at h
 split at h
 ·split at h
  ·cases h; constructor <;> simp_all <;> omega
  ·cases h
 split at h
 ·split at h
  ·cases h; constructor <;> simp_all <;> omega
  ·cases h
 split at h
 ·split at h
  ·split at h
   ·cases h; constructor <;> simp_all <;> omega
   ·cases h
  split at h
  ·rename_i ha
   cases h
   have hi : doOk (x.imm % 256) true 0 := by
    have := ha.2.2
    simp only [List.mem_cons, List.not_mem_nil, or_false] at this
    rcases this with e | e | e | e <;> rw [e] <;> simp [doOk]
   constructor <;> simp_all <;> omega
  ·cases h
 ·cases h
section
variable {F0 Z0 : List Nat} {wf w w' : World} {base mb : Nat} {σ : RS}
theorem MRel.cell1 (h : MRel F0 Z0 wf base w mb σ) (i : Nat) (v : Value) {σ' : RS} (hc : ∀ l, (rCells σ l).set i v = rCells σ' l) (hV : σ'.V = σ.V := by rfl) (hL : σ'.L = σ.L := by rfl) (hD : σ'.D = σ.D := by rfl) (hd : σ'.dr = σ.dr := by rfl) (hcl : σ'.calls = σ.calls := by rfl) : MRel F0 Z0 wf base (w.setCell ⟨mb, i, none⟩ v) mb σ' := by
 refine h.turn ((Keep.rfl' _ _).setCell (by simp) v) (fun l hl => ?_) hV hL hD hd hcl
 have := heap_setCell_same w mb i _ _ v hl.head
 rw [← hc l]
 simpa using this
theorem MRel.setR (h : MRel F0 Z0 wf base w mb σ) {d : Nat} (hd : d ≤ 10) (n : Int) : MRel F0 Z0 wf base ((w.setCell ⟨mb, 1 + d, none⟩ (.int .u64 n)).setCell ⟨mb, 12 + d, none⟩ (.bool true)) mb (σ.setR d n) :=
 (h.cell1 (1 + d) _ (fun l => rset_R σ l hd n)).cell1 (12 + d) _ (fun l => rset_S { σ with R := updN σ.R d n } l hd true)
def MAns (F0 Z0 : List Nat) (wf : World) (base mb : Nat) (σ : RS) (r : Value) (e : Ending) (w' : World) : Prop := e = .returned r ∧ MRel F0 Z0 wf base w' mb σ
theorem m_set (h : MRel F0 Z0 wf base w mb σ) (d : Nat) (hd : d ≤ 10) (n : Int) :
  Calls Tryz.prog 36 #[.pointer (some ⟨mb, 0, none⟩), .int .i64 d, .int .u64 n] w (MAns F0 Z0 wf base mb (σ.setR d n) (.tuple #[])) := by
 have HM := η h
 obtain ⟨h0, hl, l, h1, h2, h3⟩ := h
 have c1 := h1.cell (1 + d) (rcell_R σ l hd)
 have c2 := h1.cell (12 + d) (rcell_S σ l hd)
 have mf := fun i => frozen_obj (i := i) h1.head
 have hlt := heap_lt h1.head
 go_enter Tryz.func36, Tryz.ntmps36
 go_wp2_with fail
 go_returns
 exact ⟨rfl, HM.out.setR hd n⟩
theorem m_imm (x : Ins) (w : World) (hx : x.Ok) : Calls Tryz.prog 143 #[x.agg] w fun e w' => e = .returned (.int .u64 (immN x)) ∧ Ext w w' := by
 have HX := η hx.imm
 go_enter Tryz.func143, Tryz.ntmps143
 go_wp2_with fail
 refine (r_Sign _ _ _ (by simp [wid]) (by omega) (by omega)).mono ?_
 rintro e w1 ⟨rfl, rfl⟩
 go_wp2_with fail
 go_returns
 exact ⟨rfl, by (repeat (first|exact xE0 _|assumption|refine xE1 ?_ _|refine xE2 ?_|refine xE3 ?_ _|refine xE4 ?_ (by assumption)))⟩
set_option maxHeartbeats 1000000 in
theorem m_second (x : Ins) (k : Wh) (h : MRel F0 Z0 wf base w mb σ) (hx : x.Ok) (hs : x.src ≤ 10) :
  Calls Tryz.prog 106 #[.pointer (some ⟨mb, 0, none⟩), x.agg, k.agg] w fun e w' => e = .returned (.tuple #[.int .u64 (σ.second x k).1, .bool (σ.second x k).2]) ∧ Ext w w' := by
 obtain ⟨op, dst, src, off, imm⟩ := x
 have hsrc : 0 ≤ src := hx.src.1
 obtain ⟨d, rfl⟩ : ∃ d : Nat, src = d := ⟨src.toNat, by omega⟩
 have HX := η hx
 obtain ⟨h0, hl, l, h1, h2, h3⟩ := h
 have hdd : d ≤ 10 := by simp at hs; omega
 have c1 := h1.cell (1 + d) (rcell_R σ l hdd)
 have c2 := h1.cell (12 + d) (rcell_S σ l hdd)
 have hlt := heap_lt h1.head
 clear hx
 unfold RS.second
 simp only [Int.toNat_natCast]
 cases hk : k.reg
 ·go_enter Tryz.func106, Tryz.ntmps106
  go_wp2_with fail
  refine (m_imm _ _ HX.out).mono ?_
  rintro e w1 ⟨rfl, he⟩
  go_wp2_with fail
  go_returns
  exact ⟨rfl, by (repeat (first|exact xE0 _|assumption|refine xE1 ?_ _|refine xE2 ?_|refine xE3 ?_ _|refine xE4 ?_ (by assumption)))⟩
 ·go_enter Tryz.func106, Tryz.ntmps106
  go_wp2_with fail
  go_quiet (fail)
  go_wp2_with fail
  go_returns
  exact ⟨rfl, by (repeat (first|exact xE0 _|assumption|refine xE1 ?_ _|refine xE2 ?_|refine xE3 ?_ _|refine xE4 ?_ (by assumption)))⟩
set_option maxHeartbeats 1000000 in
theorem m_address (x : Ins) (d : Nat) (h : MRel F0 Z0 wf base w mb σ) (hx : x.Ok) (hd : d ≤ 10) :
  Calls Tryz.prog 141 #[.pointer (some ⟨mb, 0, none⟩), .int .u8 d, x.agg] w fun e w' => e = .returned (.int .u64 (σ.addr d x)) ∧ Ext w w' := by
 have HX := η hx.off
 have hd1 : (d : Int) ≤ 10 := by omega
 have hd2 : 0 ≤ (d : Int) := by omega
 have hd3 : (d : Int) < 11 := by omega
 have e16 : IntKind.u64.wrap (IntKind.u16.wrap x.off) = x.off % 65536 := by simp [IntKind.wrap, IntKind.bits, IntKind.signed]; try omega
 have HSG := η (fun W => r_Sign (x.off % 65536) 16 W (by simp [wid]) (by omega) (by omega))
 obtain ⟨h0, hl, l, h1, h2, h3⟩ := h
 have c1 := h1.cell (1 + d) (rcell_R σ l hd)
 have hlt := heap_lt h1.head
 unfold RS.addr
 simp only [Int.toNat_natCast]
 clear hx
 go_enter Tryz.func141, Tryz.ntmps141
 go_wp2_with fail
 go_quiet ((go_at_call 142; exact Calls.quiet_of_same (HSG.out _)))
 go_wp2_with fail
 go_returns
 exact ⟨rfl, by (repeat (first|exact xE0 _|assumption|refine xE1 ?_ _|refine xE2 ?_|refine xE3 ?_ _|refine xE4 ?_ (by assumption)))⟩
set_option maxHeartbeats 2000000 in
theorem m_arith (x : Ins) (k : Wh) (h : MRel F0 Z0 wf base w mb σ) (ho : σ.Ok) (hx : x.Ok) (hk : KindOk x k) (h1 : k.kind = 1) :
  Calls Tryz.prog 99 #[.pointer (some ⟨mb, 0, none⟩), x.agg, k.agg] w (MAns F0 Z0 wf base mb (σ.arith x k).1 (.int .i64 (σ.arith x k).2)) := by
 obtain ⟨op, dst, src, off, imm⟩ := x
 obtain ⟨kind, kop, wide, reg, sg, size⟩ := k
 have hdst : 0 ≤ dst := hx.dst.1
 obtain ⟨d, rfl⟩ : ∃ d : Nat, dst = d := ⟨dst.toNat, by omega⟩
 have hdd : d ≤ 10 := by have := hk.dst; simp at this; omega
 have HX := η hx
 have HK := η hk
 have HB := η (second_rng ho ⟨op, d, src, off, imm⟩ ⟨kind, kop, wide, reg, sg, size⟩ hk.src)
 have HR := η (ho d hdd)
 have HM := η h
 have HDO := η (hk.k1 h1)
 obtain ⟨h0, hl, l, g1, g2, g3⟩ := h
 have HG := η g1
 have HC1 := η (rcell_R σ l hdd)
 have HC2 := η (rcell_S σ l hdd)
 clear hx hk h0 g2 g3 hl h1
 have HSEC := η (fun W (he : Ext w W) => m_second ⟨op, d, src, off, imm⟩ ⟨kind, kop, wide, reg, sg, size⟩ (HM.out.go he) HX.out HK.out.src)
 obtain ⟨res, hres⟩ : ∃ r, RS.arith σ ⟨op, d, src, off, imm⟩ ⟨kind, kop, wide, reg, sg, size⟩ = r := ⟨_, rfl⟩
 rw [hres]
 have HRES := η hres
 clear hres
 obtain ⟨b, ok, hb⟩ : ∃ b ok, σ.second ⟨op, d, src, off, imm⟩ ⟨kind, kop, wide, reg, sg, size⟩ = (b, ok) := ⟨_, _, rfl⟩
 rw [hb] at HSEC HB
 have HBB := η hb
 clear hb
 have hd1 : (d : Int) ≤ 10 := by omega
 have hd2 : 0 ≤ (d : Int) := by omega
 have hd3 : (d : Int) < 11 := by omega
 go_enter Tryz.func99, Tryz.ntmps99
 go_wp2_with fail
 refine (HSEC.out _ (by (repeat (first|exact xE0 _|assumption|refine xE1 ?_ _|refine xE2 ?_|refine xE3 ?_ _|refine xE4 ?_ (by assumption))))).mono ?_
 rintro e w1 ⟨rfl, he⟩
 have HE := η he
 have hE : Ext w w1 := by (repeat (first|exact xE0 _|assumption|refine xE1 ?_ _|refine xE2 ?_|refine xE3 ?_ _|refine xE4 ?_ (by assumption)))
 have HM1 := η (HM.out.go hE)
 have c2 := (HG.out.ext hE).cell _ HC2.out
 have c1 := (HG.out.ext hE).cell _ HC1.out
 have hmb1 := HM1.out.lt
 clear hE
 have b0 : w1.heap[w.heap.size]? = some (insObj ⟨op, d, src, off, imm⟩) := he.obj (obj_old _ (obj_top w _ rfl))
 have b1 : w1.heap[w.heap.size + 1]? = some (whObj ⟨kind, kop, wide, reg, sg, size⟩) := he.obj (obj_top _ _ (by simp))
 have x1 : w1.cell? ⟨w.heap.size, 1, none⟩ = some (.int .u8 d) := cO b0
 have x3 : w1.cell? ⟨w.heap.size, 3, none⟩ = some (.int .i16 off) := cO b0
 have k1 : w1.cell? ⟨w.heap.size + 1, 1, none⟩ = some (.int .u8 kop) := cO b1
 have k2 : w1.cell? ⟨w.heap.size + 1, 2, none⟩ = some (.bool wide) := cO b1
 clear b0 b1 he
 have bad : (ok = false ∨ ((kop != 176) = true ∧ σ.S d = false)) → res = (σ, 110) := fun hg => by
  rw [← HRES.out, RS.arith, HBB.out, if_pos]
  simpa using hg
 have good : ¬ (ok = false ∨ ((kop != 176) = true ∧ σ.S d = false)) → res = (σ.setR d (aluN kop wide off (σ.R d) (negB kop b)), 0) := fun hg => by
  rw [← HRES.out, RS.arith, HBB.out, if_neg]
  ·simp
  ·simpa using hg
 have BAD := η bad
 have GOOD := η good
 clear bad good
 by_cases hg : (ok = false ∨ ((kop != 176) = true ∧ σ.S d = false))
 ·obtain rfl := BAD.out hg
  clear BAD GOOD
  cases hok : ok <;> cases hq : (kop != 176) <;> cases hs : σ.S d
  all_goals
   first
   | (exfalso; rw [hok, hq, hs] at hg; revert hg; decide)
   | (rw [hs] at c2
      clear hg
      go_wp2_with fail
      go_quiet (fail)
      go_wp2_with fail
      go_returns
      exact ⟨rfl, HM1.out.go (by (repeat (first|exact xE0 _|assumption|refine xE1 ?_ _|refine xE2 ?_|refine xE3 ?_ _|refine xE4 ?_ (by assumption))))⟩)
 ·obtain rfl := GOOD.out hg
  clear BAD GOOD
  cases hok : ok <;> cases hq : (kop != 176) <;> cases hs : σ.S d
  all_goals
   first
   | (exfalso; rw [hok, hq, hs] at hg; revert hg; decide)
   | (rw [hs] at c2
      clear hg
      go_upto_region 2 with fail
      go_cut [34] from 18 to 35 (fun v wx => v = .bool false ∧ ∃ n, wx = w1.drewN n)
      case first =>
       go_wp2_with fail
       go_quiet (fail)
       go_wp2_with fail
       go_meet
       exact ⟨rfl, _, rfl⟩
      case rest =>
       obtain ⟨rfl, nq, rfl⟩ := hcut
       cases hneg : (kop == 128)
       all_goals
        have hn2 : negB kop b = if (kop == 128) = true then 0 else b := by simp [negB]
        rw [hneg] at hn2
        simp only [if_true, Bool.false_eq_true, if_false] at hn2
        have HN2 := η hn2
        clear hn2
        go_upto_region 6 with fail
        have p1 := Grow.cell (W := w1.drewN nq) (show (w1.drewN nq).cell? _ = _ from x1)
        have p3 := Grow.cell (W := w1.drewN nq) (show (w1.drewN nq).cell? _ = _ from x3)
        have q1 := Grow.cell (W := w1.drewN nq) (show (w1.drewN nq).cell? _ = _ from k1)
        have q2 := Grow.cell (W := w1.drewN nq) (show (w1.drewN nq).cell? _ = _ from k2)
        have r1 := Grow.cell (W := w1.drewN nq) (show (w1.drewN nq).cell? _ = _ from c1)
        clear x1 x3 k1 k2 c1 c2
        refine wp_region_grow (by kernel_rfl) (by kernel_rfl) ?_
        repeat (go_big_quiet_step ((go_at_call 138; exact Calls.grow (r_do kop wide off (σ.R d) _ _ HDO.out HR.out.1 HR.out.2 (by first | exact HB.out.1 | decide) (by first | exact HB.out.2 | decide)))))
        refine wpQuiet_nil ?_
        rintro wz ⟨nz, hz⟩
        have hwq := nz.ext
        have y1 := p1 nz
        rw [← hz] at hwq y1
        clear p1 p3 q1 q2 r1 hz
        go_wp2_with fail
        refine (m_set (HM1.out.go (by (repeat (first|exact xE0 _|assumption|refine xE1 ?_ _|refine xE2 ?_|refine xE3 ?_ _|refine xE4 ?_ (by assumption))))) d hdd _).mono ?_
        rintro e w6 ⟨rfl, hM⟩
        go_wp2_with fail
        go_returns
        exact ⟨rfl, by rw [HN2.out]; exact hM⟩)
end
end Go.Proofs.YtppefchjoodgnaaGreat
