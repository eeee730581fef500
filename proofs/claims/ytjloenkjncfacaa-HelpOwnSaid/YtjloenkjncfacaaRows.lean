/-
  No cell of these rows narrows 'for every input' (looked for: loops, veiled, ifaces, maps, wideKeys, modest, calm, conditions, laid).
  DERIVED. THE GIVEN ROWS OF THIS SEAT. 5 by the template 'for every input the law returns true; each argument reads behind the call as it read before'; 0 by the template 'total and deterministic' (their statements: YtjloenkjncfacaaTotals.lean).
  GIVEN WITH THE SEED: the statements are not yours to turn. If you find one false, say at which input.
  Laid BY PROGRAM, IN A SANDBOX (cutbox-rows.mjs): the forced cells as the released guide's own fill.sh prints them over the translation 6f10f9ed37942195… (all of the seat's roots in one cut). By AI agents, Wed Nov 11 2026. No macro, syntax, notation, axiom, sorry.
-/
import Derived.Test.YtjloenkjncfacaaChecked
import GoSem.Claim
import GoSem.ClaimJoined
import GoSem.ClaimMapViews
import Derived.JoinedTies
import Derived.KernelRfl
namespace Go.Proofs.Ytjloenkjncfacaa
/- THE CELL 'sum', in the pinned program and in every row, IS THE sha256 OF THE DUMP (.gsa) THAT YtjloenkjncfacaaProg.lean LOADS. Nothing in Lean hashes anything: it is a label: what it is worth is what the hold of that sum in a sandbox is worth. -/
noncomputable def Try.pinned : Pinned := { name := "ytjloenkjncfacaa", sum := "6f10f9ed37942195d4f72f239716e81824a0ae4e9401ccf6ee34f2c6c9bad151", checked := Try.checked }
namespace Rows
def none {H : Type} : Left H := { results := [], args := [] }

/-- 'hacklelaw10.HelpDraws': WHATEVER THE INPUT: true; the input reads as it did. -/
def helpDrawsSpec : ChangeSpec := { name := "helpDraws", fn := fun _ => fun
  | [d1, d2] => { results := [.lit (.bool true)], args := [d1, d2] }
  | _ => none }
def helpDrawsRow : OpenClaim := { program := "ytjloenkjncfacaa", sum := "6f10f9ed37942195d4f72f239716e81824a0ae4e9401ccf6ee34f2c6c9bad151", func := "hackle/hacklelaw10.HelpDraws", spec := "helpDraws", apart := false }
def HelpDrawsSaid : Prop := helpDrawsRow.holds Try.pinned (OpenSpec.ofChange helpDrawsSpec)

/-- ITS FALSE NEIGHBOUR: 'it returns false'. Refute it at one input. -/
def helpDrawsWrong : ChangeSpec := { name := "helpDraws", fn := fun _ => fun
  | [d1, d2] => { results := [.lit (.bool false)], args := [d1, d2] }
  | _ => none }
def HelpDrawsWrongFalsely : Prop := helpDrawsRow.holds Try.pinned (OpenSpec.ofChange helpDrawsWrong)

/-- 'hacklelaw10.HelpTold': WHATEVER THE INPUT: true; the input reads as it did. -/
def helpToldSpec : ChangeSpec := { name := "helpTold", fn := fun _ => fun
  | [d] => { results := [.lit (.bool true)], args := [d] }
  | _ => none }
def helpToldRow : OpenClaim := { program := "ytjloenkjncfacaa", sum := "6f10f9ed37942195d4f72f239716e81824a0ae4e9401ccf6ee34f2c6c9bad151", func := "hackle/hacklelaw10.HelpTold", spec := "helpTold", apart := false }
def HelpToldSaid : Prop := helpToldRow.holds Try.pinned (OpenSpec.ofChange helpToldSpec)

/-- ITS FALSE NEIGHBOUR: 'it returns false'. Refute it at one input. -/
def helpToldWrong : ChangeSpec := { name := "helpTold", fn := fun _ => fun
  | [d] => { results := [.lit (.bool false)], args := [d] }
  | _ => none }
def HelpToldWrongFalsely : Prop := helpToldRow.holds Try.pinned (OpenSpec.ofChange helpToldWrong)

/-- 'hacklelaw10.HelpLast': WHATEVER THE INPUT: true; the input reads as it did. -/
def helpLastSpec : ChangeSpec := { name := "helpLast", fn := fun _ => fun
  | [d1, d2, d3] => { results := [.lit (.bool true)], args := [d1, d2, d3] }
  | _ => none }
def helpLastRow : OpenClaim := { program := "ytjloenkjncfacaa", sum := "6f10f9ed37942195d4f72f239716e81824a0ae4e9401ccf6ee34f2c6c9bad151", func := "hackle/hacklelaw10.HelpLast", spec := "helpLast", apart := false }
def HelpLastSaid : Prop := helpLastRow.holds Try.pinned (OpenSpec.ofChange helpLastSpec)

/-- ITS FALSE NEIGHBOUR: 'it returns false'. Refute it at one input. -/
def helpLastWrong : ChangeSpec := { name := "helpLast", fn := fun _ => fun
  | [d1, d2, d3] => { results := [.lit (.bool false)], args := [d1, d2, d3] }
  | _ => none }
def HelpLastWrongFalsely : Prop := helpLastRow.holds Try.pinned (OpenSpec.ofChange helpLastWrong)

/-- 'hacklelaw10.HelpSigs': WHATEVER THE INPUT: true; the input reads as it did. -/
def helpSigsSpec : ChangeSpec := { name := "helpSigs", fn := fun _ => fun
  | [d1, d2, d3] => { results := [.lit (.bool true)], args := [d1, d2, d3] }
  | _ => none }
def helpSigsRow : OpenClaim := { program := "ytjloenkjncfacaa", sum := "6f10f9ed37942195d4f72f239716e81824a0ae4e9401ccf6ee34f2c6c9bad151", func := "hackle/hacklelaw10.HelpSigs", spec := "helpSigs", apart := false }
def HelpSigsSaid : Prop := helpSigsRow.holds Try.pinned (OpenSpec.ofChange helpSigsSpec)

/-- ITS FALSE NEIGHBOUR: 'it returns false'. Refute it at one input. -/
def helpSigsWrong : ChangeSpec := { name := "helpSigs", fn := fun _ => fun
  | [d1, d2, d3] => { results := [.lit (.bool false)], args := [d1, d2, d3] }
  | _ => none }
def HelpSigsWrongFalsely : Prop := helpSigsRow.holds Try.pinned (OpenSpec.ofChange helpSigsWrong)

/-- 'hacklelaw10.HelpOwn': WHATEVER THE INPUT: true; the input reads as it did. -/
def helpOwnSpec : ChangeSpec := { name := "helpOwn", fn := fun _ => fun
  | [d1, d2] => { results := [.lit (.bool true)], args := [d1, d2] }
  | _ => none }
def helpOwnRow : OpenClaim := { program := "ytjloenkjncfacaa", sum := "6f10f9ed37942195d4f72f239716e81824a0ae4e9401ccf6ee34f2c6c9bad151", func := "hackle/hacklelaw10.HelpOwn", spec := "helpOwn", apart := false }
def HelpOwnSaid : Prop := helpOwnRow.holds Try.pinned (OpenSpec.ofChange helpOwnSpec)

/-- ITS FALSE NEIGHBOUR: 'it returns false'. Refute it at one input. -/
def helpOwnWrong : ChangeSpec := { name := "helpOwn", fn := fun _ => fun
  | [d1, d2] => { results := [.lit (.bool false)], args := [d1, d2] }
  | _ => none }
def HelpOwnWrongFalsely : Prop := helpOwnRow.holds Try.pinned (OpenSpec.ofChange helpOwnWrong)

/- THE SECOND FORM. 'bulk': how many values and letters a reading holds, each counted each time it is reached (what is shared counts as often as it is met; a slice's spare places count too). A statement '..UptoSaid' is the law's where the arguments, and the package variables that the reading takes, are together of bulk at most 1048576: NARROWER than '..Said'. Prove '..Said' where nothing that the law and all that it calls make is longer than what came in: it says more and counts as full. Else prove '..UptoSaid'. A law counts once. -/
mutual
def uptoBulk {H : Type} : DataW H → Nat
  | .lit (.string bytes) => bytes.length + 1
  | .lit _ => 1
  | .nil => 1
  | .ptr d => uptoBulk d + 1
  | .slice elems spare => uptoBulkAll elems + uptoBulkAll spare + 1
  | .agg parts => uptoBulkAll parts + 1
  | .iface _ d => uptoBulk d + 1
  | .map entries => uptoBulkEntries entries + 1
  | .held _ => 1
def uptoBulkAll {H : Type} : List (DataW H) → Nat
  | [] => 0
  | d :: r => uptoBulk d + uptoBulkAll r
def uptoBulkEntries {H : Type} : List (Lit × DataW H) → Nat
  | [] => 0
  | x :: r => uptoBulkEntry x + uptoBulkEntries r
def uptoBulkEntry {H : Type} : Lit × DataW H → Nat
  | (.string bytes, d) => bytes.length + uptoBulk d + 1
  | (_, d) => uptoBulk d + 1
 end
def uptoSmall : (H : Type) → List (DataW H) → Bool := fun _ ds => decide (uptoBulkAll ds ≤ 1048576)
def OpenSpec.upto (s : _root_.Go.ChangeSpec) : _root_.Go.OpenSpec := { _root_.Go.OpenSpec.ofChange s with cond := some uptoSmall }

/-- 'hacklelaw10.HelpDraws', WHERE WHAT IT READS IS OF BULK AT MOST 1048576: true; the input reads as it did. -/
def helpDrawsUptoRow : OpenClaim := { program := "ytjloenkjncfacaa", sum := "6f10f9ed37942195d4f72f239716e81824a0ae4e9401ccf6ee34f2c6c9bad151", func := "hackle/hacklelaw10.HelpDraws", spec := "helpDraws", apart := false, narrowed := true }
def HelpDrawsUptoSaid : Prop := helpDrawsUptoRow.holds Try.pinned (OpenSpec.upto helpDrawsSpec)

/-- 'hacklelaw10.HelpTold', WHERE WHAT IT READS IS OF BULK AT MOST 1048576: true; the input reads as it did. -/
def helpToldUptoRow : OpenClaim := { program := "ytjloenkjncfacaa", sum := "6f10f9ed37942195d4f72f239716e81824a0ae4e9401ccf6ee34f2c6c9bad151", func := "hackle/hacklelaw10.HelpTold", spec := "helpTold", apart := false, narrowed := true }
def HelpToldUptoSaid : Prop := helpToldUptoRow.holds Try.pinned (OpenSpec.upto helpToldSpec)

/-- 'hacklelaw10.HelpLast', WHERE WHAT IT READS IS OF BULK AT MOST 1048576: true; the input reads as it did. -/
def helpLastUptoRow : OpenClaim := { program := "ytjloenkjncfacaa", sum := "6f10f9ed37942195d4f72f239716e81824a0ae4e9401ccf6ee34f2c6c9bad151", func := "hackle/hacklelaw10.HelpLast", spec := "helpLast", apart := false, narrowed := true }
def HelpLastUptoSaid : Prop := helpLastUptoRow.holds Try.pinned (OpenSpec.upto helpLastSpec)

/-- 'hacklelaw10.HelpSigs', WHERE WHAT IT READS IS OF BULK AT MOST 1048576: true; the input reads as it did. -/
def helpSigsUptoRow : OpenClaim := { program := "ytjloenkjncfacaa", sum := "6f10f9ed37942195d4f72f239716e81824a0ae4e9401ccf6ee34f2c6c9bad151", func := "hackle/hacklelaw10.HelpSigs", spec := "helpSigs", apart := false, narrowed := true }
def HelpSigsUptoSaid : Prop := helpSigsUptoRow.holds Try.pinned (OpenSpec.upto helpSigsSpec)

/-- 'hacklelaw10.HelpOwn', WHERE WHAT IT READS IS OF BULK AT MOST 1048576: true; the input reads as it did. -/
def helpOwnUptoRow : OpenClaim := { program := "ytjloenkjncfacaa", sum := "6f10f9ed37942195d4f72f239716e81824a0ae4e9401ccf6ee34f2c6c9bad151", func := "hackle/hacklelaw10.HelpOwn", spec := "helpOwn", apart := false, narrowed := true }
def HelpOwnUptoSaid : Prop := helpOwnUptoRow.holds Try.pinned (OpenSpec.upto helpOwnSpec)

end Rows
end Go.Proofs.Ytjloenkjncfacaa
