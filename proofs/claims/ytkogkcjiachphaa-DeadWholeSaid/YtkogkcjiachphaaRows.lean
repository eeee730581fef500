/-
  No cell of these rows narrows 'for every input' (looked for: loops, veiled, ifaces, maps, wideKeys, modest, calm, conditions, laid).
  DERIVED. THE GIVEN ROWS OF THIS SEAT. 9 by the template 'for every input the law returns true; each argument reads behind the call as it read before'; 0 by the template 'total and deterministic' (their statements: YtkogkcjiachphaaTotals.lean).
  GIVEN WITH THE SEED: the statements are not yours to turn. If you find one false, say at which input.
  Laid BY PROGRAM, IN A SANDBOX (cutbox-rows.mjs): the forced cells as the released guide's own fill.sh prints them over the translation ecea97d0f4ea9083… (all of the seat's roots in one cut). By AI agents, Wed Nov 11 2026. No macro, syntax, notation, axiom, sorry.
-/
import Derived.Test.YtkogkcjiachphaaChecked
import GoSem.Claim
import GoSem.ClaimJoined
import GoSem.ClaimMapViews
import Derived.JoinedTies
import Derived.KernelRfl
namespace Go.Proofs.Ytkogkcjiachphaa
/- THE CELL 'sum', in the pinned program and in every row, IS THE sha256 OF THE DUMP (.gsa) THAT YtkogkcjiachphaaProg.lean LOADS. Nothing in Lean hashes anything: it is a label: what it is worth is what the hold of that sum in a sandbox is worth. -/
noncomputable def Try.pinned : Pinned := { name := "ytkogkcjiachphaa", sum := "ecea97d0f4ea9083ff02616818a63750fed8e84a6b6bbc3e91cf959d223bddeb", checked := Try.checked }
namespace Rows
def none {H : Type} : Left H := { results := [], args := [] }

/-- 'hacklelaw16.GraphBoth': WHATEVER THE INPUT: true; the input reads as it did. -/
def graphBothSpec : ChangeSpec := { name := "graphBoth", fn := fun _ => fun
  | [d1, d2, d3] => { results := [.lit (.bool true)], args := [d1, d2, d3] }
  | _ => none }
def graphBothRow : OpenClaim := { program := "ytkogkcjiachphaa", sum := "ecea97d0f4ea9083ff02616818a63750fed8e84a6b6bbc3e91cf959d223bddeb", func := "hackle/hacklelaw16.GraphBoth", spec := "graphBoth", recurses := true, apart := false }
def GraphBothSaid : Prop := graphBothRow.holds Try.pinned (OpenSpec.ofChange graphBothSpec)

/-- ITS FALSE NEIGHBOUR: 'it returns false'. Refute it at one input. -/
def graphBothWrong : ChangeSpec := { name := "graphBoth", fn := fun _ => fun
  | [d1, d2, d3] => { results := [.lit (.bool false)], args := [d1, d2, d3] }
  | _ => none }
def GraphBothWrongFalsely : Prop := graphBothRow.holds Try.pinned (OpenSpec.ofChange graphBothWrong)

/-- 'hacklelaw16.GraphHeads': WHATEVER THE INPUT: true; the input reads as it did. -/
def graphHeadsSpec : ChangeSpec := { name := "graphHeads", fn := fun _ => fun
  | [d] => { results := [.lit (.bool true)], args := [d] }
  | _ => none }
def graphHeadsRow : OpenClaim := { program := "ytkogkcjiachphaa", sum := "ecea97d0f4ea9083ff02616818a63750fed8e84a6b6bbc3e91cf959d223bddeb", func := "hackle/hacklelaw16.GraphHeads", spec := "graphHeads", recurses := true, apart := false }
def GraphHeadsSaid : Prop := graphHeadsRow.holds Try.pinned (OpenSpec.ofChange graphHeadsSpec)

/-- ITS FALSE NEIGHBOUR: 'it returns false'. Refute it at one input. -/
def graphHeadsWrong : ChangeSpec := { name := "graphHeads", fn := fun _ => fun
  | [d] => { results := [.lit (.bool false)], args := [d] }
  | _ => none }
def GraphHeadsWrongFalsely : Prop := graphHeadsRow.holds Try.pinned (OpenSpec.ofChange graphHeadsWrong)

/-- 'hacklelaw16.GraphTells': WHATEVER THE INPUT: true; the input reads as it did. -/
def graphTellsSpec : ChangeSpec := { name := "graphTells", fn := fun _ => fun
  | [d1, d2] => { results := [.lit (.bool true)], args := [d1, d2] }
  | _ => none }
def graphTellsRow : OpenClaim := { program := "ytkogkcjiachphaa", sum := "ecea97d0f4ea9083ff02616818a63750fed8e84a6b6bbc3e91cf959d223bddeb", func := "hackle/hacklelaw16.GraphTells", spec := "graphTells", unfollowed := true, recurses := true, apart := false }
def GraphTellsSaid : Prop := graphTellsRow.holds Try.pinned (OpenSpec.ofChange graphTellsSpec)

/-- ITS FALSE NEIGHBOUR: 'it returns false'. Refute it at one input. -/
def graphTellsWrong : ChangeSpec := { name := "graphTells", fn := fun _ => fun
  | [d1, d2] => { results := [.lit (.bool false)], args := [d1, d2] }
  | _ => none }
def GraphTellsWrongFalsely : Prop := graphTellsRow.holds Try.pinned (OpenSpec.ofChange graphTellsWrong)

/-- 'hacklelaw16.GraphReaches': WHATEVER THE INPUT: true; the input reads as it did. -/
def graphReachesSpec : ChangeSpec := { name := "graphReaches", fn := fun _ => fun
  | [d1, d2] => { results := [.lit (.bool true)], args := [d1, d2] }
  | _ => none }
def graphReachesRow : OpenClaim := { program := "ytkogkcjiachphaa", sum := "ecea97d0f4ea9083ff02616818a63750fed8e84a6b6bbc3e91cf959d223bddeb", func := "hackle/hacklelaw16.GraphReaches", spec := "graphReaches", unfollowed := true, recurses := true, apart := false }
def GraphReachesSaid : Prop := graphReachesRow.holds Try.pinned (OpenSpec.ofChange graphReachesSpec)

/-- ITS FALSE NEIGHBOUR: 'it returns false'. Refute it at one input. -/
def graphReachesWrong : ChangeSpec := { name := "graphReaches", fn := fun _ => fun
  | [d1, d2] => { results := [.lit (.bool false)], args := [d1, d2] }
  | _ => none }
def GraphReachesWrongFalsely : Prop := graphReachesRow.holds Try.pinned (OpenSpec.ofChange graphReachesWrong)

/-- 'hacklelaw16.GraphForward': WHATEVER THE INPUT: true; the input reads as it did. -/
def graphForwardSpec : ChangeSpec := { name := "graphForward", fn := fun _ => fun
  | [d] => { results := [.lit (.bool true)], args := [d] }
  | _ => none }
def graphForwardRow : OpenClaim := { program := "ytkogkcjiachphaa", sum := "ecea97d0f4ea9083ff02616818a63750fed8e84a6b6bbc3e91cf959d223bddeb", func := "hackle/hacklelaw16.GraphForward", spec := "graphForward", unfollowed := true, recurses := true, apart := false }
def GraphForwardSaid : Prop := graphForwardRow.holds Try.pinned (OpenSpec.ofChange graphForwardSpec)

/-- ITS FALSE NEIGHBOUR: 'it returns false'. Refute it at one input. -/
def graphForwardWrong : ChangeSpec := { name := "graphForward", fn := fun _ => fun
  | [d] => { results := [.lit (.bool false)], args := [d] }
  | _ => none }
def GraphForwardWrongFalsely : Prop := graphForwardRow.holds Try.pinned (OpenSpec.ofChange graphForwardWrong)

/-- 'hacklelaw17.LiveTells': WHATEVER THE INPUT: true; the input reads as it did. -/
def liveTellsSpec : ChangeSpec := { name := "liveTells", fn := fun _ => fun
  | [d1, d2] => { results := [.lit (.bool true)], args := [d1, d2] }
  | _ => none }
def liveTellsRow : OpenClaim := { program := "ytkogkcjiachphaa", sum := "ecea97d0f4ea9083ff02616818a63750fed8e84a6b6bbc3e91cf959d223bddeb", func := "hackle/hacklelaw17.LiveTells", spec := "liveTells", recurses := true, apart := false }
def LiveTellsSaid : Prop := liveTellsRow.holds Try.pinned (OpenSpec.ofChange liveTellsSpec)

/-- ITS FALSE NEIGHBOUR: 'it returns false'. Refute it at one input. -/
def liveTellsWrong : ChangeSpec := { name := "liveTells", fn := fun _ => fun
  | [d1, d2] => { results := [.lit (.bool false)], args := [d1, d2] }
  | _ => none }
def LiveTellsWrongFalsely : Prop := liveTellsRow.holds Try.pinned (OpenSpec.ofChange liveTellsWrong)

/-- 'hacklelaw17.LiveHolds': WHATEVER THE INPUT: true; the input reads as it did. -/
def liveHoldsSpec : ChangeSpec := { name := "liveHolds", fn := fun _ => fun
  | [d] => { results := [.lit (.bool true)], args := [d] }
  | _ => none }
def liveHoldsRow : OpenClaim := { program := "ytkogkcjiachphaa", sum := "ecea97d0f4ea9083ff02616818a63750fed8e84a6b6bbc3e91cf959d223bddeb", func := "hackle/hacklelaw17.LiveHolds", spec := "liveHolds", recurses := true, apart := false }
def LiveHoldsSaid : Prop := liveHoldsRow.holds Try.pinned (OpenSpec.ofChange liveHoldsSpec)

/-- ITS FALSE NEIGHBOUR: 'it returns false'. Refute it at one input. -/
def liveHoldsWrong : ChangeSpec := { name := "liveHolds", fn := fun _ => fun
  | [d] => { results := [.lit (.bool false)], args := [d] }
  | _ => none }
def LiveHoldsWrongFalsely : Prop := liveHoldsRow.holds Try.pinned (OpenSpec.ofChange liveHoldsWrong)

/-- 'hacklelaw20.DeadTells': WHATEVER THE INPUT: true; the input reads as it did. -/
def deadTellsSpec : ChangeSpec := { name := "deadTells", fn := fun _ => fun
  | [d] => { results := [.lit (.bool true)], args := [d] }
  | _ => none }
def deadTellsRow : OpenClaim := { program := "ytkogkcjiachphaa", sum := "ecea97d0f4ea9083ff02616818a63750fed8e84a6b6bbc3e91cf959d223bddeb", func := "hackle/hacklelaw20.DeadTells", spec := "deadTells", unfollowed := true, recurses := true, apart := false }
def DeadTellsSaid : Prop := deadTellsRow.holds Try.pinned (OpenSpec.ofChange deadTellsSpec)

/-- ITS FALSE NEIGHBOUR: 'it returns false'. Refute it at one input. -/
def deadTellsWrong : ChangeSpec := { name := "deadTells", fn := fun _ => fun
  | [d] => { results := [.lit (.bool false)], args := [d] }
  | _ => none }
def DeadTellsWrongFalsely : Prop := deadTellsRow.holds Try.pinned (OpenSpec.ofChange deadTellsWrong)

/-- 'hacklelaw20.DeadWhole': WHATEVER THE INPUT: true; the input reads as it did. -/
def deadWholeSpec : ChangeSpec := { name := "deadWhole", fn := fun _ => fun
  | [d] => { results := [.lit (.bool true)], args := [d] }
  | _ => none }
def deadWholeRow : OpenClaim := { program := "ytkogkcjiachphaa", sum := "ecea97d0f4ea9083ff02616818a63750fed8e84a6b6bbc3e91cf959d223bddeb", func := "hackle/hacklelaw20.DeadWhole", spec := "deadWhole", unfollowed := true, recurses := true, apart := false }
def DeadWholeSaid : Prop := deadWholeRow.holds Try.pinned (OpenSpec.ofChange deadWholeSpec)

/-- ITS FALSE NEIGHBOUR: 'it returns false'. Refute it at one input. -/
def deadWholeWrong : ChangeSpec := { name := "deadWhole", fn := fun _ => fun
  | [d] => { results := [.lit (.bool false)], args := [d] }
  | _ => none }
def DeadWholeWrongFalsely : Prop := deadWholeRow.holds Try.pinned (OpenSpec.ofChange deadWholeWrong)

/- THE SECOND FORM. 'bulk': how many values and letters a reading holds, each counted each time it is reached (what is shared counts as often as it is met; a slice's spare places count too). A statement '..UptoSaid' is the law's where the arguments, and the package variables that the reading takes, are together of bulk at most 1048576: NARROWER than '..Said'. Prove '..Said' where nothing that the law and all that it calls make is longer than what came in: it says more and counts as full. Else prove '..UptoSaid'. A law counts once. -/
mutual
def uptoBulk {H : Type} : DataW H → Nat
  | .lit (.string bytes) => bytes.length + 1
  | .lit _ => 1
  | .nil => 1
  | .ptr d => uptoBulk d + 1
  | .slice elems spare => uptoBulkAll elems + uptoBulkAll spare + 1
  | .agg parts => uptoBulkAll parts + 1
  | .iface _ d => uptoBulk d + 1
  | .map entries => uptoBulkEntries entries + 1
  | .held _ => 1
def uptoBulkAll {H : Type} : List (DataW H) → Nat
  | [] => 0
  | d :: r => uptoBulk d + uptoBulkAll r
def uptoBulkEntries {H : Type} : List (Lit × DataW H) → Nat
  | [] => 0
  | x :: r => uptoBulkEntry x + uptoBulkEntries r
def uptoBulkEntry {H : Type} : Lit × DataW H → Nat
  | (.string bytes, d) => bytes.length + uptoBulk d + 1
  | (_, d) => uptoBulk d + 1
 end
def uptoSmall : (H : Type) → List (DataW H) → Bool := fun _ ds => decide (uptoBulkAll ds ≤ 1048576)
def OpenSpec.upto (s : _root_.Go.ChangeSpec) : _root_.Go.OpenSpec := { _root_.Go.OpenSpec.ofChange s with cond := some uptoSmall }

/-- 'hacklelaw16.GraphBoth', WHERE WHAT IT READS IS OF BULK AT MOST 1048576: true; the input reads as it did. -/
def graphBothUptoRow : OpenClaim := { program := "ytkogkcjiachphaa", sum := "ecea97d0f4ea9083ff02616818a63750fed8e84a6b6bbc3e91cf959d223bddeb", func := "hackle/hacklelaw16.GraphBoth", spec := "graphBoth", recurses := true, apart := false, narrowed := true }
def GraphBothUptoSaid : Prop := graphBothUptoRow.holds Try.pinned (OpenSpec.upto graphBothSpec)

/-- 'hacklelaw16.GraphHeads', WHERE WHAT IT READS IS OF BULK AT MOST 1048576: true; the input reads as it did. -/
def graphHeadsUptoRow : OpenClaim := { program := "ytkogkcjiachphaa", sum := "ecea97d0f4ea9083ff02616818a63750fed8e84a6b6bbc3e91cf959d223bddeb", func := "hackle/hacklelaw16.GraphHeads", spec := "graphHeads", recurses := true, apart := false, narrowed := true }
def GraphHeadsUptoSaid : Prop := graphHeadsUptoRow.holds Try.pinned (OpenSpec.upto graphHeadsSpec)

/-- 'hacklelaw16.GraphTells', WHERE WHAT IT READS IS OF BULK AT MOST 1048576: true; the input reads as it did. -/
def graphTellsUptoRow : OpenClaim := { program := "ytkogkcjiachphaa", sum := "ecea97d0f4ea9083ff02616818a63750fed8e84a6b6bbc3e91cf959d223bddeb", func := "hackle/hacklelaw16.GraphTells", spec := "graphTells", unfollowed := true, recurses := true, apart := false, narrowed := true }
def GraphTellsUptoSaid : Prop := graphTellsUptoRow.holds Try.pinned (OpenSpec.upto graphTellsSpec)

/-- 'hacklelaw16.GraphReaches', WHERE WHAT IT READS IS OF BULK AT MOST 1048576: true; the input reads as it did. -/
def graphReachesUptoRow : OpenClaim := { program := "ytkogkcjiachphaa", sum := "ecea97d0f4ea9083ff02616818a63750fed8e84a6b6bbc3e91cf959d223bddeb", func := "hackle/hacklelaw16.GraphReaches", spec := "graphReaches", unfollowed := true, recurses := true, apart := false, narrowed := true }
def GraphReachesUptoSaid : Prop := graphReachesUptoRow.holds Try.pinned (OpenSpec.upto graphReachesSpec)

/-- 'hacklelaw16.GraphForward', WHERE WHAT IT READS IS OF BULK AT MOST 1048576: true; the input reads as it did. -/
def graphForwardUptoRow : OpenClaim := { program := "ytkogkcjiachphaa", sum := "ecea97d0f4ea9083ff02616818a63750fed8e84a6b6bbc3e91cf959d223bddeb", func := "hackle/hacklelaw16.GraphForward", spec := "graphForward", unfollowed := true, recurses := true, apart := false, narrowed := true }
def GraphForwardUptoSaid : Prop := graphForwardUptoRow.holds Try.pinned (OpenSpec.upto graphForwardSpec)

/-- 'hacklelaw17.LiveTells', WHERE WHAT IT READS IS OF BULK AT MOST 1048576: true; the input reads as it did. -/
def liveTellsUptoRow : OpenClaim := { program := "ytkogkcjiachphaa", sum := "ecea97d0f4ea9083ff02616818a63750fed8e84a6b6bbc3e91cf959d223bddeb", func := "hackle/hacklelaw17.LiveTells", spec := "liveTells", recurses := true, apart := false, narrowed := true }
def LiveTellsUptoSaid : Prop := liveTellsUptoRow.holds Try.pinned (OpenSpec.upto liveTellsSpec)

/-- 'hacklelaw17.LiveHolds', WHERE WHAT IT READS IS OF BULK AT MOST 1048576: true; the input reads as it did. -/
def liveHoldsUptoRow : OpenClaim := { program := "ytkogkcjiachphaa", sum := "ecea97d0f4ea9083ff02616818a63750fed8e84a6b6bbc3e91cf959d223bddeb", func := "hackle/hacklelaw17.LiveHolds", spec := "liveHolds", recurses := true, apart := false, narrowed := true }
def LiveHoldsUptoSaid : Prop := liveHoldsUptoRow.holds Try.pinned (OpenSpec.upto liveHoldsSpec)

/-- 'hacklelaw20.DeadTells', WHERE WHAT IT READS IS OF BULK AT MOST 1048576: true; the input reads as it did. -/
def deadTellsUptoRow : OpenClaim := { program := "ytkogkcjiachphaa", sum := "ecea97d0f4ea9083ff02616818a63750fed8e84a6b6bbc3e91cf959d223bddeb", func := "hackle/hacklelaw20.DeadTells", spec := "deadTells", unfollowed := true, recurses := true, apart := false, narrowed := true }
def DeadTellsUptoSaid : Prop := deadTellsUptoRow.holds Try.pinned (OpenSpec.upto deadTellsSpec)

/-- 'hacklelaw20.DeadWhole', WHERE WHAT IT READS IS OF BULK AT MOST 1048576: true; the input reads as it did. -/
def deadWholeUptoRow : OpenClaim := { program := "ytkogkcjiachphaa", sum := "ecea97d0f4ea9083ff02616818a63750fed8e84a6b6bbc3e91cf959d223bddeb", func := "hackle/hacklelaw20.DeadWhole", spec := "deadWhole", unfollowed := true, recurses := true, apart := false, narrowed := true }
def DeadWholeUptoSaid : Prop := deadWholeUptoRow.holds Try.pinned (OpenSpec.upto deadWholeSpec)

end Rows
end Go.Proofs.Ytkogkcjiachphaa
