/- What the claim leans on: DrawG · MsS · Pm · MsK · MsA · RefB · MsB. -/
import Derived.Test.YtppefchjoodgnaaGreatPN20
import Derived.Test.YtppefchjoodgnaaGreatPN13
import Derived.Test.YtppefchjoodgnaaGreatPN10
import Derived.Test.YtppefchjoodgnaaGreatPN08
import Derived.Test.YtppefchjoodgnaaGreatPN04
namespace Go.Proofs.YtppefchjoodgnaaGreat
open Go.RowKit
set_option linter.unusedVariables false
set_option linter.unusedSimpArgs false
def U64s (xs : List Int) : Prop := ∀ x ∈ xs, 0 ≤ x ∧ x ≤ 18446744073709551615
def drawn (id : Int) (xs : List Int) : Int := if draws id = true then match xs with | [] => 0 | x :: _ => bits .and .u64 x (most id) else 0
def drawnErr (id : Int) (xs : List Int) : Int := if draws id = true then (if xs = [] then 100 else 0) else 1
def drawnRest (id : Int) (xs : List Int) : List Int := if draws id = true then xs.drop 1 else []
def DrawAns (id : Int) (xs : List Int) (w : World) (e : Ending) (w' : World) : Prop :=
 ∃ v, e = .returned (.tuple #[.int .u64 (drawn id xs), v, .int .i64 (drawnErr id xs)]) ∧ Sl w' .u64 v (drawnRest id xs) ∧ Ext w w'
def DrawOwn (id : Int) (xs : List Int) (w : World) (e : Ending) (w' : World) : Prop :=
 ∃ v, e = .returned (.tuple #[.int .u64 (drawn id xs), v, .int .i64 (drawnErr id xs)]) ∧ Own w' w.heap.size 29 1 (fun x => [Value.int .u64 x]) v (drawnRest id xs) ∧ Ext w w'
theorem DrawOwn.ans {id : Int} {xs : List Int} {w w' : World} {e : Ending} (h : DrawOwn id xs w e w') : DrawAns id xs w e w' := by
 obtain ⟨v, h1, h2, h3⟩ := h
 exact ⟨v, h1, h2.rd (enc_int _), h3⟩
set_option maxHeartbeats 1000000 in
theorem pdraw_own (id : Int) (l : Value) (xs : List Int) (w : World) (h : Sl w .u64 l xs) (hb : xs.length * 8 ≤ 140737488355328) :
  Calls Tryz.prog 172 #[.int .i64 id, l] w (DrawOwn id xs w) := by
 obtain ⟨la, ln, lc, rfl, hln, hN⟩ := h.val
 have HS := η h
 by_cases hd : draws id = true
 ·cases xs with
  | nil =>
   clear h
   obtain rfl : ln = 0 := hN.out
   go_enter Tryz.func172, Tryz.ntmps172
   go_wp2_with (go_at_call 113; refine (psig id _).mono ?_; rintro e w1 ⟨v, rfl, hv, he⟩; obtain ⟨sa, sn, sc, rfl, hsn, hSN⟩ := hv.val; have HV := η hv; clear hv; obtain ⟨hc, hf⟩ := bcell he; have hz := he.size)
   go_returns
   exact ⟨.slice none 0 0, by simp [drawn, drawnErr, hd], by simp [drawnRest]; exact Own.nil _ _ _ _ _, by go_grown⟩
  | cons x xs =>
   have hl0 : (0 : Int) < ln := by have := hN.out; simp at this; omega
   have hl1 : ((ln : Int) == 0) = false := by simp; omega
   have hcut := fun W => h.run_cut_l (P := Tryz.prog) Tryz.underlying26 el_u64.size .i64 1 (by omega) (by omega) W
   have hat := fun W => h.run_at (P := Tryz.prog) Tryz.underlying26 el_u64.size .i64 0 (by omega) (by omega) W
   have hx := h.cell (i := 0) (x := x) rfl (j := 0) rfl
   simp only [Nat.zero_mul, Nat.add_zero, Int.toNat_zero, Int.toNat_one] at hx hat hcut
   have hx' := World.block_lt_of_cell? w _ hx
   clear h
   go_enter Tryz.func172, Tryz.ntmps172
   go_wp2_with (go_at_call 113; refine (psig id _).mono ?_; rintro e w1 ⟨v, rfl, hv, he⟩; obtain ⟨sa, sn, sc, rfl, hsn, hSN⟩ := hv.val; have HV := η hv; clear hv; obtain ⟨hc, hf⟩ := bcell he; have hz := he.size)
   have hx1 := he.cellOf hx
   have hx2 := he.cellOf hx
   go_region_held3 (fun w' => w'.cell? (elt (.slice la ln lc) 0) = some (.int .u64 x) ∧ w'.cell? ⟨w1.heap.size, 3, none⟩ = some (.int .u64 (most id)))
    (first | go_keep | (go_split_ands; exact ⟨he2.cellOf (by assumption), he2.cellOf (by assumption)⟩))
    (first | (go_at_call 51; refine (clone_u64 _ xs _ ?_ ?_).mono ?_; (have := (HS.out.cut (l := 1) (m := ln) (by omega) (Nat.le_of_eq hN.out)); simp [hN.out] at this; rw [hN.out]; refine Rd.ext this ?_; go_grown); (simp at hb; omega); rintro e w2 ⟨v2, rfl, hv2, he2⟩))
   go_wp2
   go_returns
   exact ⟨v2, by simp [drawn, drawnErr, hd], by simp [drawnRest, hd]; exact hv2.mono (by simp; omega), (he.trans' (by go_grown)).trans' he2⟩
 ·have hd' : draws id = false := by simpa using hd
  clear h
  go_enter Tryz.func172, Tryz.ntmps172
  go_wp2_with (go_at_call 113; refine (psig id _).mono ?_; rintro e w1 ⟨v, rfl, hv, he⟩; obtain ⟨sa, sn, sc, rfl, hsn, hSN⟩ := hv.val; have HV := η hv; clear hv; obtain ⟨hc, hf⟩ := bcell he; have hz := he.size)
  go_returns
  exact ⟨.slice none 0 0, by simp [drawn, drawnErr, hd'], by simp [drawnRest, hd']; exact Own.nil _ _ _ _ _, by go_grown⟩
def u64R (n : Int) : Prop := 0 ≤ n ∧ n ≤ 18446744073709551615
def RS.Ok (σ : RS) : Prop := ∀ d, d ≤ 10 → u64R (σ.R d)
def RS.setR (σ : RS) (d : Nat) (n : Int) : RS := { σ with R := updN σ.R d n, S := updN σ.S d true }
def RS.setM (σ : RS) (M : Areas) : RS := { σ with V := (M, σ.V.2) }
def immN (x : Ins) : Int := signN (x.imm % 4294967296) 32
def RS.second (σ : RS) (x : Ins) (k : Wh) : Int × Bool := if k.reg then (σ.R x.src.toNat, σ.S x.src.toNat) else (immN x, true)
def RS.addr (σ : RS) (i : Int) (x : Ins) : Int := IntKind.u64.wrap (σ.R i.toNat + signN (x.off % 65536) 16)
theorem imm_rng (x : Ins) : u64R (immN x) := sign_rng (a := x.imm % 4294967296) (n := 32) (by simp [wid]) (by omega) (by omega)
theorem second_rng {σ : RS} (h : σ.Ok) (x : Ins) (k : Wh) (hs : x.src ≤ 10) : u64R (σ.second x k).1 := by
 unfold RS.second
 split
 ·exact h _ (by omega)
 ·exact imm_rng x
theorem addr_rng (σ : RS) (i : Int) (x : Ins) : u64R (σ.addr i x) := wrap_rng _
def negB (op b : Int) : Int := if op = 128 then 0 else b
def RS.arith (σ : RS) (x : Ins) (k : Wh) : RS × Int :=
 if (σ.second x k).2 = false ∨ (k.op ≠ 176 ∧ σ.S x.dst.toNat = false) then (σ, 110)
 else (σ.setR x.dst.toNat (aluN k.op k.wide x.off (σ.R x.dst.toNat) (negB k.op (σ.second x k).1)), 0)
def RS.load (σ : RS) (x : Ins) (k : Wh) : RS × Int :=
 if σ.S x.src.toNat = false then (σ, 110)
 else if (mload σ.V.1 (σ.addr x.src x) k.size).2 ≠ 0 then (σ, (mload σ.V.1 (σ.addr x.src x) k.size).2)
 else (σ.setR x.dst.toNat (if k.signed then signN (mload σ.V.1 (σ.addr x.src x) k.size).1 (8 * k.size) else (mload σ.V.1 (σ.addr x.src x) k.size).1), 0)
def RS.putM (σ : RS) (at_ size n : Int) : RS × Int := (σ.setM (mstore σ.V.1 at_ size n).1, (mstore σ.V.1 at_ size n).2)
def RS.store (σ : RS) (x : Ins) (k : Wh) : RS × Int :=
 if (σ.second x k).2 = false ∨ σ.S x.dst.toNat = false then (σ, 110)
 else if k.kind = 8 then
  (if (mload σ.V.1 (σ.addr x.dst x) k.size).2 ≠ 0 then (σ, (mload σ.V.1 (σ.addr x.dst x) k.size).2)
   else σ.putM (σ.addr x.dst x) k.size (aluN k.op true 0 (mload σ.V.1 (σ.addr x.dst x) k.size).1 (σ.second x k).1))
 else σ.putM (σ.addr x.dst x) k.size (σ.second x k).1
def tblN (d : Nat) (n : Int) : Int := if 12884901888 ≤ n ∧ n < 12884901888 + d then n - 12884901888 else -1
def Cl.new (id : Int) : Cl := ⟨id, 0, [], [], [], 0⟩
def RS.tell (σ : RS) (c : Cl) (i : Nat) (t : Int) : Cl × Int :=
 if σ.S (i + 1) = false then (c, 110)
 else if t = 1 then ({ c with map := tblN σ.D.length (σ.R (i + 1)) }, if tblN σ.D.length (σ.R (i + 1)) < 0 then 113 else 0)
 else if t = 2 then ({ c with key := (mread σ.V.1 (σ.R (i + 1)) ((pick σ.D c.map).map TDef.key |>.getD 0)).1 }, (mread σ.V.1 (σ.R (i + 1)) ((pick σ.D c.map).map TDef.key |>.getD 0)).2)
 else if t = 3 then ({ c with val := (mread σ.V.1 (σ.R (i + 1)) ((pick σ.D c.map).map TDef.val |>.getD 0)).1 }, (mread σ.V.1 (σ.R (i + 1)) ((pick σ.D c.map).map TDef.val |>.getD 0)).2)
 else ({ c with n := c.n ++ [σ.R (i + 1)] }, 0)
def RS.tells (σ : RS) : Cl → Nat → List Int → Cl × Int
 | c, _, [] => (c, 0)
 | c, i, t :: ts => if (σ.tell c i t).2 ≠ 0 then σ.tell c i t else σ.tells (σ.tell c i t).1 (i + 1) ts
def RS.told (σ : RS) (id : Int) : Cl × Int := if (σ.tells (Cl.new id) 0 (tolds id)).2 ≠ 0 then (Cl.new 0, (σ.tells (Cl.new id) 0 (tolds id)).2) else σ.tells (Cl.new id) 0 (tolds id)
def RS.acts (σ : RS) (c : Cl) : (Areas × List TM) × Int × Int :=
 if c.id = 1 then (σ.V, tlook σ.V.2 c.map c.key)
 else if c.id = 2 then rput σ.V c.map c.key c.val (c.n.headD 0)
 else if c.id = 3 then ((σ.V.1, (rdrop σ.V.2 c.map c.key).1), (rdrop σ.V.2 c.map c.key).2)
 else (σ.V, 0, 0)
def RS.done (σ : RS) (c : Cl) : RS := RS.setR { σ with calls := σ.calls ++ [c], R := fun j => if 1 ≤ j ∧ j ≤ 5 then 0 else σ.R j, S := fun j => if 1 ≤ j ∧ j ≤ 5 then false else σ.S j } 0 c.ret
def RS.call (σ : RS) (x : Ins) : RS × Int :=
 if helper x.imm = false then (σ, 112)
 else if (σ.told x.imm).2 ≠ 0 then (σ, (σ.told x.imm).2)
 else if draws x.imm = true then
  (if drawnErr x.imm σ.dr ≠ 0 then (σ, drawnErr x.imm σ.dr) else (RS.done { σ with dr := drawnRest x.imm σ.dr } { (σ.told x.imm).1 with ret := drawn x.imm σ.dr }, 0))
 else if (σ.acts (σ.told x.imm).1).2.2 ≠ 0 then ({ σ with V := (σ.acts (σ.told x.imm).1).1 }, (σ.acts (σ.told x.imm).1).2.2)
 else (RS.done { σ with V := (σ.acts (σ.told x.imm).1).1 } { (σ.told x.imm).1 with ret := (σ.acts (σ.told x.imm).1).2.1 }, 0)
def longN (x y : Ins) : Int := x.imm % 4294967296 + 4294967296 * (y.imm % 4294967296)
def RS.does (σ : RS) (x : Ins) (k : Wh) : RS × Int × Int :=
 if k.kind = 1 then ((σ.arith x k).1, nextI x σ.place.toNat, (σ.arith x k).2)
 else if k.kind = 2 then (if σ.S x.dst.toNat = false then (σ, 0, 110) else (σ.setR x.dst.toNat (swapN k.wide (8 * k.size) (σ.R x.dst.toNat)), nextI x σ.place.toNat, 0))
 else if k.kind = 3 then (match σ.L[σ.place.toNat + 1]? with | some y => (σ.setR x.dst.toNat (longN x y), nextI x σ.place.toNat, 0) | none => (σ, 0, 0))
 else if k.kind = 4 then (if (σ.D.length : Int) ≤ x.imm then (σ, 0, 113) else (σ.setR x.dst.toNat (12884901888 + x.imm), nextI x σ.place.toNat, 0))
 else if k.kind = 5 then ((σ.load x k).1, nextI x σ.place.toNat, (σ.load x k).2)
 else if k.kind = 6 ∨ k.kind = 7 ∨ k.kind = 8 then ((σ.store x k).1, nextI x σ.place.toNat, (σ.store x k).2)
 else if k.kind = 9 then (σ, (targetS σ.L x σ.place.toNat).getD 0, 0)
 else if k.kind = 10 then
  (if (σ.second x k).2 = false ∨ σ.S x.dst.toNat = false then (σ, 0, 110)
   else (σ, (if condN k.op k.wide (σ.R x.dst.toNat) (σ.second x k).1 = true then (targetS σ.L x σ.place.toNat).getD 0 else nextI x σ.place.toNat), 0))
 else if k.kind = 11 then ((σ.call x).1, nextI x σ.place.toNat, (σ.call x).2)
 else if k.kind = 12 then (if σ.S 0 = false then (σ, 0, 110) else ({ σ with over := true }, σ.place, 0))
 else (σ, nextI x σ.place.toNat, 0)
def RS.step (σ : RS) : RS × Int :=
 if σ.over then (σ, 114)
 else match σ.L[σ.place.toNat]? with
  | none => (σ, 0)
  | some x =>
   if (σ.does x (whatZ x)).2.2 ≠ 0 then ({ (σ.does x (whatZ x)).1 with over := true, code := (σ.does x (whatZ x)).2.2 }, (σ.does x (whatZ x)).2.2)
   else ({ (σ.does x (whatZ x)).1 with place := (σ.does x (whatZ x)).2.1, steps := (σ.does x (whatZ x)).1.steps + 1 }, 0)
def RS.iter : Nat → RS → RS
 | 0, σ => σ
 | n + 1, σ => if σ.over then σ else RS.iter n σ.step.1
def RS.run (σ : RS) (fuel : Int) : RS := RS.iter (fuel - σ.steps).toNat σ
structure PLay where
 lv : Value
 tb : Nat
 T : Tabs
 dv : Value
 drv : Value
 cv : Value
 cs : List CB
def pCells (σ : RS) (l : PLay) : List Value := [l.lv, .int .u64 (σ.R 0), .bool (σ.S 0), .int .u64 (σ.R 1), .bool (σ.S 1), .int .u64 (σ.R 2), .bool (σ.S 2), .int .u64 (σ.R 3), .bool (σ.S 3), .int .u64 (σ.R 4), .bool (σ.S 4), .int .u64 (σ.R 5), .bool (σ.S 5), .int .u64 (σ.R 6), .bool (σ.S 6), .int .u64 (σ.R 7), .bool (σ.S 7), .int .u64 (σ.R 8), .bool (σ.S 8), .int .u64 (σ.R 9), .bool (σ.S 9), .int .u64 (σ.R 10), .bool (σ.S 10),
 .pointer (some ⟨l.T.b, 0, none⟩), .pointer (some ⟨l.tb, 0, none⟩), l.dv, l.drv, .int .i64 σ.place, .bool σ.over, .int .i64 σ.code, .int .i64 σ.steps, l.cv]
def pfoot (mb : Nat) (l : PLay) : List Nat := mb :: (l.cv.ownBlock.toList ++ tfoot l.tb l.T)
def pfrz (l : PLay) : List Nat := fblk l.lv ++ (fblk l.dv ++ (vblk l.drv ++ l.cs.flatMap fun c => vblk c.kv ++ (vblk c.vv ++ vblk c.nv)))
structure PAt (w : World) (base mb : Nat) (σ : RS) (l : PLay) : Prop where
 head : w.heap[mb]? = some (.cells (pCells σ l).toArray 109 (0, 0))
 low : base ≤ mb
 tab : TabAt w base l.tb l.T
 view : tview l.T = σ.V
 calls : Own w base 76 6 CB.enc l.cv l.cs
 cls : l.cs.map (·.c) = σ.calls
 callS : ∀ c ∈ l.cs, Sl w .u8 c.kv c.c.key ∧ Sl w .u8 c.vv c.c.val ∧ Sl w .u64 c.nv c.c.n
 code : Rd w 5 Ins.enc l.lv σ.L
 defs : Rd w 4 TDef.enc l.dv σ.D
 draws : Sl w .u64 l.drv σ.dr
 apart : (pfoot mb l).Nodup
 frz : ∀ j ∈ pfrz l, j ∉ pfoot mb l ∧ j < w.heap.size
section
variable {w w' : World} {base mb : Nat} {σ : RS} {l : PLay} {F : List Nat}
theorem mem_kvP {l : PLay} {c : CB} (hc : c ∈ l.cs) {j : Nat} (hj : j ∈ vblk c.kv ++ (vblk c.vv ++ vblk c.nv)) : j ∈ pfrz l := by
 simp only [pfrz, List.mem_append, List.mem_flatMap]
 exact .inr (.inr (.inr ⟨c, hc, by simpa using hj⟩))
theorem PAt.keep (h : PAt w base mb σ l) (k : Keep F w w') (hF : ∀ j ∈ pfoot mb l, j ∉ F) (hZ : ∀ j ∈ pfrz l, j ∉ F) : PAt w' base mb σ l := by
 have hz : ∀ {v : Value}, (∀ j ∈ vblk v, j ∈ pfrz l) → ∀ a n c, v = .slice (some a) n c → a.block ∉ F := fun hv => vblk_not fun j hj => hZ j (hv j hj)
 refine ⟨k.obj h.head (hF _ (by simp [pfoot])), h.low, h.tab.keep k (fun j hj => hF j (by simp [pfoot, hj])), h.view, h.calls.keep k (fun j hj => hF j (by simp [pfoot, hj])), h.cls, fun c hc => ⟨?_, ?_, ?_⟩, ?_, ?_, ?_, h.apart, fun j hj => ⟨(h.frz j hj).1, Nat.lt_of_lt_of_le (h.frz j hj).2 k.size⟩⟩
 ·exact (h.callS c hc).1.keep k (hz fun j hj => mem_kvP hc (by simp [hj]))
 ·exact (h.callS c hc).2.1.keep k (hz fun j hj => mem_kvP hc (by simp [hj]))
 ·exact (h.callS c hc).2.2.keep k (hz fun j hj => mem_kvP hc (by simp [hj]))
 ·exact h.code.keepF k (fun j hj => hZ j (by simp [pfrz, hj]))
 ·exact h.defs.keepF k (fun j hj => hZ j (by simp [pfrz, hj]))
 ·exact h.draws.keep k (hz fun j hj => by simp [pfrz, hj])
theorem PAt.ext (h : PAt w base mb σ l) (k : Ext w w') : PAt w' base mb σ l := h.keep (F := []) (Keep.of_ext k) (fun _ _ => by simp) (fun _ _ => by simp)
theorem PAt.cells (h : PAt w base mb σ l) {σ' : RS} (k : Keep [mb] w w') (hc : w'.heap[mb]? = some (.cells (pCells σ' l).toArray 109 (0, 0))) (hV : σ'.V = σ.V) (hL : σ'.L = σ.L) (hD : σ'.D = σ.D) (hd : σ'.dr = σ.dr) (hcl : σ'.calls = σ.calls) : PAt w' base mb σ' l := by
 have ha := List.nodup_cons.1 h.apart
 have hm : ∀ {j : Nat}, j ∈ l.cv.ownBlock.toList ++ tfoot l.tb l.T → j ∉ [mb] := fun hj e => ha.1 (by rw [List.mem_singleton] at e; rwa [← e])
 have hx : ∀ j ∈ pfrz l, j ∉ [mb] := fun j hj e => (h.frz j hj).1 (by rw [List.mem_singleton] at e; subst e; simp [pfoot])
 have hz : ∀ {v : Value}, (∀ j ∈ vblk v, j ∈ pfrz l) → ∀ a n c, v = .slice (some a) n c → a.block ∉ [mb] := fun hv => vblk_not fun j hj => hx j (hv j hj)
 refine ⟨hc, h.low, h.tab.keep k (fun j hj => hm (by simp [hj])), by rw [hV]; exact h.view, h.calls.keep k (fun j hj => hm (by simp [hj])), by rw [hcl]; exact h.cls, fun c hc => ⟨?_, ?_, ?_⟩, ?_, ?_, ?_, h.apart, fun j hj => ⟨(h.frz j hj).1, Nat.lt_of_lt_of_le (h.frz j hj).2 k.size⟩⟩
 ·exact (h.callS c hc).1.keep k (hz fun j hj => mem_kvP hc (by simp [hj]))
 ·exact (h.callS c hc).2.1.keep k (hz fun j hj => mem_kvP hc (by simp [hj]))
 ·exact (h.callS c hc).2.2.keep k (hz fun j hj => mem_kvP hc (by simp [hj]))
 ·rw [hL]; exact h.code.keepF k (fun j hj => hx j (by simp [pfrz, hj]))
 ·rw [hD]; exact h.defs.keepF k (fun j hj => hx j (by simp [pfrz, hj]))
 ·rw [hd]; exact h.draws.keep k (hz fun j hj => by simp [pfrz, hj])
theorem PAt.cell (h : PAt w base mb σ l) (i : Nat) {v : Value} (hv : (pCells σ l)[i]? = some v) : w.cell? ⟨mb, i, none⟩ = some v := by
 rw [cO h.head]
 simpa using hv
theorem pcell_R (σ : RS) (l : PLay) {d : Nat} (hd : d ≤ 10) : (pCells σ l)[1 + 2 * d]? = some (.int .u64 (σ.R d)) := by
 rcases ten hd with rfl | rfl | rfl | rfl | rfl | rfl | rfl | rfl | rfl | rfl | rfl <;> rfl
theorem pcell_S (σ : RS) (l : PLay) {d : Nat} (hd : d ≤ 10) : (pCells σ l)[2 + 2 * d]? = some (.bool (σ.S d)) := by
 rcases ten hd with rfl | rfl | rfl | rfl | rfl | rfl | rfl | rfl | rfl | rfl | rfl <;> rfl
theorem pset_R (σ : RS) (l : PLay) {d : Nat} (hd : d ≤ 10) (n : Int) : (pCells σ l).set (1 + 2 * d) (.int .u64 n) = pCells { σ with R := updN σ.R d n } l := by
 rcases ten hd with rfl | rfl | rfl | rfl | rfl | rfl | rfl | rfl | rfl | rfl | rfl <;> simp [pCells, updN]
theorem pset_S (σ : RS) (l : PLay) {d : Nat} (hd : d ≤ 10) (n : Bool) : (pCells σ l).set (2 + 2 * d) (.bool n) = pCells { σ with S := updN σ.S d n } l := by
 rcases ten hd with rfl | rfl | rfl | rfl | rfl | rfl | rfl | rfl | rfl | rfl | rfl <;> simp [pCells, updN]
end
structure PRel (F0 Z0 : List Nat) (wf : World) (base : Nat) (w : World) (mb : Nat) (σ : RS) : Prop where
 keep : Keep F0 wf w
 low : base ≤ wf.heap.size
 lay : ∃ l, PAt w base mb σ l ∧ (∀ j ∈ pfoot mb l, j ∈ F0 ∨ wf.heap.size ≤ j) ∧ ∀ j ∈ pfrz l, j ∈ Z0 ∨ wf.heap.size ≤ j
section
variable {F0 Z0 : List Nat} {wf w w' : World} {base mb : Nat} {σ : RS}
theorem PRel.go (h : PRel F0 Z0 wf base w mb σ) (k : Ext w w') : PRel F0 Z0 wf base w' mb σ := by
 obtain ⟨h0, hl, l, h1, h2, h3⟩ := h
 exact ⟨h0.through (F := []) (Keep.of_ext k) (fun _ hj => by cases hj), hl, l, h1.ext k, h2, h3⟩
theorem PRel.turn (h : PRel F0 Z0 wf base w mb σ) {σ' : RS} (k : Keep [mb] w w') (hc : ∀ l, PAt w base mb σ l → w'.heap[mb]? = some (.cells (pCells σ' l).toArray 109 (0, 0))) (hV : σ'.V = σ.V := by rfl) (hL : σ'.L = σ.L := by rfl) (hD : σ'.D = σ.D := by rfl) (hd : σ'.dr = σ.dr := by rfl) (hcl : σ'.calls = σ.calls := by rfl) : PRel F0 Z0 wf base w' mb σ' := by
 obtain ⟨h0, hl, l, h1, h2, h3⟩ := h
 exact ⟨h0.through k (fun j hj => by rw [List.mem_singleton] at hj; subst hj; exact h2 _ (by simp [pfoot])), hl, l, h1.cells k (hc l h1) hV hL hD hd hcl, h2, h3⟩
theorem PRel.lt (h : PRel F0 Z0 wf base w mb σ) : mb < w.heap.size := by
 obtain ⟨h0, hl, l, h1, h2, h3⟩ := h
 exact heap_lt h1.head
end
structure KindOk (x : Ins) (k : Wh) : Prop where
 dst : x.dst ≤ 10
 src : x.src ≤ 10
 rng : 1 ≤ k.kind ∧ k.kind ≤ 12
 k1 : k.kind = 1 → doOk k.op k.wide x.off
 kd : k.kind ≤ 5 → x.dst ≠ 10
 k2 : k.kind = 2 → k.size = 2 ∨ k.size = 4 ∨ k.size = 8
 k3 : (k.kind = 3 ∨ k.kind = 4) ↔ x.op = 24
 k4 : k.kind = 4 → 0 ≤ x.imm
 km : 5 ≤ k.kind → k.kind ≤ 8 → k.size = 1 ∨ k.size = 2 ∨ k.size = 4 ∨ k.size = 8
 k8 : k.kind = 8 → doOk k.op true 0
 k10 : k.kind = 10 → condOk k.op
 kr : k.kind = 1 → k.op = 128 → k.reg = false
 ks : k.kind = 7 ∨ k.kind = 8 → k.reg = true
 k6 : k.kind = 6 → k.reg = false
theorem size_ok (op : Int) : sizeS op = 1 ∨ sizeS op = 2 ∨ sizeS op = 4 ∨ sizeS op = 8 := by unfold sizeS; (repeat' split) <;> simp
theorem kind_ok (x : Ins) (k : Wh) (h : whatS x = some k) : KindOk x k := by
 unfold whatS at h
 split at h
 ·cases h
 rename_i hr
 split at h
 ·rename_i h24
  unfold wideS at h
  split at h
  ·cases h
  rename_i hd
  split at h
  ·cases h
   constructor <;> simp_all <;> omega
  split at h
  ·cases h
   constructor <;> simp_all <;> omega
  ·cases h
 rename_i h24
 split at h
 ·unfold swapsS at h
  split at h
  ·rename_i hs
   cases h
   have := hs.2.2
   constructor <;> simp_all <;> omega
  ·cases h
 split at h
 ·unfold arithS at h
  split at h
  ·cases h
  split at h
  ·cases h
  split at h
  ·rename_i hop
   split at h
   ·rename_i ho
    cases h
    constructor <;> simp_all [doOk] <;> omega
   ·cases h
  split at h
  ·rename_i hop
   split at h
   ·rename_i ho
    cases h
    constructor <;> simp_all [doOk] <;> omega
   ·cases h
  split at h
  ·rename_i hop
   split at h
   ·rename_i ho
    cases h
    have hz : x.off = 0 := by
     have := ho.2
     simp [zerosS] at this
     exact this.1.2
    constructor <;> simp_all [doOk] <;> omega
   ·cases h
  split at h
  ·rename_i hop
   split at h
   ·rename_i ho
    cases h
    constructor <;> simp_all [doOk] <;> omega
   ·cases h
  ·cases h
 split at h
 ·unfold jumpsS at h
  split at h
  ·split at h
   ·cases h; constructor <;> simp_all <;> omega
   ·cases h
  split at h
  ·split at h
   ·cases h; constructor <;> simp_all <;> omega
   ·cases h
  split at h
  ·split at h
   ·cases h; constructor <;> simp_all <;> omega
   ·cases h
  split at h
  ·split at h
   ·cases h; constructor <;> simp_all <;> omega
   ·cases h
  split at h
  ·rename_i hg
   split at h
   ·cases h
    have hc : condOk (x.op / 16 * 16) := by
     simp [g11] at hg
     unfold condOk
     omega
    constructor <;> simp_all <;> omega
   ·cases h
  ·cases h
 split at h
 ·cases h
 have hz := size_ok x.op
 unfold movesS at h
 split at h
 ·split at h
  ·cases h; constructor <;> simp_all <;> omega
  ·cases h
 split at h
 ·split at h
  ·cases h; constructor <;> simp_all <;> omega
  ·cases h
 split at h
 ·split at h
  ·split at h
   ·cases h; constructor <;> simp_all <;> omega
   ·cases h
  split at h
  ·rename_i ha
   cases h
   have hi : doOk (x.imm % 256) true 0 := by
    have := ha.2.2
    simp only [List.mem_cons, List.not_mem_nil, or_false] at this
    rcases this with e | e | e | e <;> rw [e] <;> simp [doOk]
   constructor <;> simp_all <;> omega
  ·cases h
 ·cases h
section
variable {F0 Z0 : List Nat} {wf w w' : World} {base mb : Nat} {σ : RS}
theorem MRel.cell1 (h : MRel F0 Z0 wf base w mb σ) (i : Nat) (v : Value) {σ' : RS} (hc : ∀ l, (rCells σ l).set i v = rCells σ' l) (hV : σ'.V = σ.V := by rfl) (hL : σ'.L = σ.L := by rfl) (hD : σ'.D = σ.D := by rfl) (hd : σ'.dr = σ.dr := by rfl) (hcl : σ'.calls = σ.calls := by rfl) : MRel F0 Z0 wf base (w.setCell ⟨mb, i, none⟩ v) mb σ' := by
 refine h.turn ((Keep.rfl' _ _).setCell (by simp) v) (fun l hl => ?_) hV hL hD hd hcl
 have := heap_setCell_same w mb i _ _ v hl.head
 rw [← hc l]
 simpa using this
theorem MRel.setR (h : MRel F0 Z0 wf base w mb σ) {d : Nat} (hd : d ≤ 10) (n : Int) : MRel F0 Z0 wf base ((w.setCell ⟨mb, 1 + d, none⟩ (.int .u64 n)).setCell ⟨mb, 12 + d, none⟩ (.bool true)) mb (σ.setR d n) :=
 (h.cell1 (1 + d) _ (fun l => rset_R σ l hd n)).cell1 (12 + d) _ (fun l => rset_S { σ with R := updN σ.R d n } l hd true)
end
def BytesOk (M : Areas) : Prop := ∀ q ∈ M, ∀ x ∈ q.2.bytes, 0 ≤ x ∧ x ≤ 255
theorem pow_le8 : ∀ k : Nat, k ≤ 8 → (256 : Int) ^ k ≤ 18446744073709551616 := by decide
theorem mload_rng {M : Areas} (hM : BytesOk M) (p s : Int) : u64R (mload M p s).1 := by
 unfold mload
 split
 ·rename_i hs
  obtain ⟨h1, h2⟩ := mread_u8 hM p s
  obtain ⟨h3, h4⟩ := le_lt _ h1
  have h5 : (mread M p s).1.length ≤ 8 := by
   simp only [sized, Bool.or_eq_true, beq_iff_eq] at hs
   omega
  have := pow_le8 _ h5
  exact ⟨h3, by omega⟩
 ·exact ⟨by decide, by decide⟩
section
variable {F0 Z0 : List Nat} {wf w w' : World} {base mb : Nat} {σ : RS} {l : RLay}
theorem MAt.lt (h : MAt w base mb σ l) : ∀ j ∈ mfoot mb l, j < w.heap.size := fun j hj => by
 simp only [mfoot, List.mem_cons, List.mem_append] at hj
 rcases hj with rfl | hj | hj
 ·exact heap_lt h.head
 ·exact (h.calls.lt (by simpa using hj)).2
 ·exact (h.tab.lt j hj).2
theorem MAt.tabStep (h : MAt w base mb σ l) (k : Keep (rtfoot l.tb l.T) w w') {T' : RTabs} (ht : RTabAt w' base l.tb T') (hrb : T'.rb = l.T.rb) (hf : ∀ j ∈ rtfoot l.tb T', j ∈ rtfoot l.tb l.T ∨ w.heap.size ≤ j) :
  MAt w' base mb { σ with V := rview T' } { l with T := T' } := by
 have hlt := h.lt
 have n0 := List.nodup_cons.1 h.apart
 have n1 := List.nodup_append.1 n0.2
 have hmb : mb ∉ rtfoot l.tb l.T := fun hj => n0.1 (List.mem_append_right _ hj)
 have hcv : ∀ j, l.cv.ownBlock = some j → j ∉ rtfoot l.tb l.T := fun j hj hj' => n1.2.2 j (by simpa using hj) j hj' rfl
 have hx : ∀ j ∈ mfrz l, j ∉ rtfoot l.tb l.T := fun j hj hj' => (h.frz j hj).1 (by simp [mfoot, hj'])
 have hz : ∀ {v : Value}, (∀ j ∈ vblk v, j ∈ mfrz l) → ∀ a n c, v = .slice (some a) n c → a.block ∉ rtfoot l.tb l.T := fun hv => vblk_not fun j hj => hx j (hv j hj)
 have hnew : ∀ j, j < w.heap.size → j ∉ rtfoot l.tb l.T → j ∉ rtfoot l.tb T' := fun j h1 h2 h3 => (hf j h3).elim h2 (fun h4 => by omega)
 refine ⟨?_, h.low, ht, rfl, h.calls.keep k hcv, h.cls, fun c hc => ⟨?_, ?_, ?_⟩, ?_, ?_, ?_, ?_, ?_⟩
 ·have := k.obj h.head hmb
  rw [this]
  simp only [rCells, hrb]
 ·exact (h.callS c hc).1.keep k (hz fun j hj => mem_kv hc (by simp [hj]))
 ·exact (h.callS c hc).2.1.keep k (hz fun j hj => mem_kv hc (by simp [hj]))
 ·exact (h.callS c hc).2.2.keep k (hz fun j hj => mem_kv hc (by simp [hj]))
 ·exact h.code.keepF k (fun j hj => hx j (by simp [mfrz, hj]))
 ·exact h.defs.keepF k (fun j hj => hx j (by simp [mfrz, hj]))
 ·exact h.draws.keep k (hz fun j hj => by simp [mfrz, hj])
 ·simp only [mfoot]
  rw [List.nodup_cons, List.nodup_append]
  refine ⟨?_, n1.1, ht.apart, ?_⟩
  ·intro hj
   rcases List.mem_append.1 hj with hj | hj
   ·exact n0.1 (List.mem_append_left _ hj)
   ·exact hnew mb (heap_lt h.head) hmb hj
  ·intro a ha b hb e
   subst e
   have ha' : l.cv.ownBlock = some a := by simpa using ha
   exact hnew a (h.calls.lt ha').2 (hcv a ha') hb
 ·intro j hj
  have h1 := h.frz j hj
  refine ⟨fun h2 => ?_, Nat.lt_of_lt_of_le h1.2 k.size⟩
  simp only [mfoot, List.mem_cons, List.mem_append] at h2
  rcases h2 with rfl | h2 | h2
  ·exact h1.1 (by simp [mfoot])
  ·exact h1.1 (by simp [mfoot, h2])
  ·exact hnew j h1.2 (fun h3 => h1.1 (by simp [mfoot, h3])) h2
theorem MRel.tabStep (h0 : Keep F0 wf w) (hl : base ≤ wf.heap.size) (h : MAt w base mb σ l) (h2 : ∀ j ∈ mfoot mb l, j ∈ F0 ∨ wf.heap.size ≤ j) (h3 : ∀ j ∈ mfrz l, j ∈ Z0 ∨ wf.heap.size ≤ j)
  (k : Keep (rtfoot l.tb l.T) w w') {T' : RTabs} (ht : RTabAt w' base l.tb T') (hrb : T'.rb = l.T.rb) (hf : ∀ j ∈ rtfoot l.tb T', j ∈ rtfoot l.tb l.T ∨ w.heap.size ≤ j) :
  MRel F0 Z0 wf base w' mb { σ with V := rview T' } := by
 refine ⟨h0.through k (fun j hj => h2 j (by simp [mfoot, hj])), hl, _, h.tabStep k ht hrb hf, fun j hj => ?_, h3⟩
 simp only [mfoot, List.mem_cons, List.mem_append] at hj
 rcases hj with rfl | hj | hj
 ·exact h2 _ (by simp [mfoot])
 ·exact h2 _ (by simp [mfoot, hj])
 ·rcases hf j hj with h4 | h4
  ·exact h2 _ (by simp [mfoot, h4])
  ·exact .inr (Nat.le_trans h0.size h4)
theorem MRel.mem (h : MRel F0 Z0 wf base w mb σ) : ∃ rb lv L, w.cell? ⟨mb, 23, none⟩ = some (.pointer (some ⟨rb, 0, none⟩)) ∧ Hid (viewR L = σ.V.1) ∧ Hid (∀ w', Ext w w' → RefAt w' base rb lv L) ∧
  Hid (∀ w1 w' p s n e, Ext w w1 → RStoreAns base rb lv L p s n w1 e w' → e = .returned (.int .i64 (mstore σ.V.1 p s n).2) ∧ MRel F0 Z0 wf base w' mb (σ.setM (mstore σ.V.1 p s n).1)) := by
 have H := h
 obtain ⟨h0, hl, l, h1, h2, h3⟩ := h
 have hv : viewR l.T.L = σ.V.1 := by rw [← h1.view]; rfl
 refine ⟨l.T.rb, l.T.lv, l.T.L, h1.cell 23 rfl, η hv, η fun w' he => h1.tab.mem.ext he, η ?_⟩
 intro w1 w' p s n e hE hA
 obtain ⟨he, hk, L', hR, hvw, hfo⟩ := hA
 refine ⟨by rw [he, hv], ?_⟩
 have g := h1.ext hE
 obtain ⟨t1, t2⟩ := g.tab.memStep hk hR (fun j hj => .inl (by rw [hfo] at hj; exact hj))
 have hk2 : Keep (rtfoot l.tb l.T) w1 w' := hk.mono (fun j hj => .inl (rfoot_sub l.tb l.T j hj))
 have := MRel.tabStep (h0.through (F := []) (Keep.of_ext hE) (fun _ hj => by cases hj)) hl g h2 h3 hk2 t1 rfl t2
 have e2 : ({ σ with V := rview { l.T with lv := l.T.lv, L := L' } } : RS) = σ.setM (mstore σ.V.1 p s n).1 := by
  simp only [RS.setM, rview, hvw, hv]
  rw [← h1.view]
  rfl
 rw [e2] at this
 exact this
theorem MRel.u8 (h : MRel F0 Z0 wf base w mb σ) : BytesOk σ.V.1 := by
 obtain ⟨h0, hl, l, h1, h2, h3⟩ := h
 rw [← h1.view]
 exact h1.tab.mem.u8
end
end Go.Proofs.YtppefchjoodgnaaGreat
