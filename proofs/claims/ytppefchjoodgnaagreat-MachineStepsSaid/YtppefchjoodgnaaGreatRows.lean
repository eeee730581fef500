/-
  No cell of these rows narrows 'for every input' (looked for: loops, veiled, ifaces, maps, wideKeys, modest, calm, conditions, laid).
  DERIVED. THE GIVEN ROWS OF THIS SEAT. 7 by the template 'for every input the law returns true; each argument reads behind the call as it read before'; 0 by the template 'total and deterministic' (their statements: YtppefchjoodgnaaGreatTotals.lean).
  GIVEN WITH THE SEED: the statements are not yours to turn. If you find one false, say at which input.
  Laid BY PROGRAM, IN A SANDBOX (cutbox-rows.mjs): the forced cells as the released guide's own fill.sh prints them over the translation f5ac76cc28f5486e… (all of the seat's roots in one cut). By AI agents, Wed Nov 11 2026. No macro, syntax, notation, axiom, sorry.
-/
import Derived.Test.YtppefchjoodgnaaGreatChecked
import GoSem.Claim
import GoSem.ClaimJoined
import GoSem.ClaimMapViews
import Derived.JoinedTies
import Derived.KernelRfl
namespace Go.Proofs.YtppefchjoodgnaaGreat
/- THE CELL 'sum', in the pinned program and in every row, IS THE sha256 OF THE DUMP (.gsa) THAT YtppefchjoodgnaaGreatProg.lean LOADS. Nothing in Lean hashes anything: it is a label: what it is worth is what the hold of that sum in a sandbox is worth. -/
noncomputable def Tryz.pinned : Pinned := { name := "ytppefchjoodgnaagreat", sum := "f5ac76cc28f5486e63dc45276e1a25714ad0ac5c8fffef03407baf441c4d495d", checked := Tryz.checked }
namespace Rows
def none {H : Type} : Left H := { results := [], args := [] }

/-- 'hacklelaw17.LiveSound': WHATEVER THE INPUT: true; the input reads as it did. -/
def liveSoundSpec : ChangeSpec := { name := "liveSound", fn := fun _ => fun
  | [d1, d2, d3, d4, d5] => { results := [.lit (.bool true)], args := [d1, d2, d3, d4, d5] }
  | _ => none }
def liveSoundRow : OpenClaim := { program := "ytppefchjoodgnaagreat", sum := "f5ac76cc28f5486e63dc45276e1a25714ad0ac5c8fffef03407baf441c4d495d", func := "hackle/hacklelaw17.LiveSound", spec := "liveSound", recurses := true, apart := false }
def LiveSoundSaid : Prop := liveSoundRow.holds Tryz.pinned (OpenSpec.ofChange liveSoundSpec)

/-- ITS FALSE NEIGHBOUR: 'it returns false'. Refute it at one input. -/
def liveSoundWrong : ChangeSpec := { name := "liveSound", fn := fun _ => fun
  | [d1, d2, d3, d4, d5] => { results := [.lit (.bool false)], args := [d1, d2, d3, d4, d5] }
  | _ => none }
def LiveSoundWrongFalsely : Prop := liveSoundRow.holds Tryz.pinned (OpenSpec.ofChange liveSoundWrong)

/-- 'hacklelaw17.LiveIdle': WHATEVER THE INPUT: true; the input reads as it did. -/
def liveIdleSpec : ChangeSpec := { name := "liveIdle", fn := fun _ => fun
  | [d1, d2, d3] => { results := [.lit (.bool true)], args := [d1, d2, d3] }
  | _ => none }
def liveIdleRow : OpenClaim := { program := "ytppefchjoodgnaagreat", sum := "f5ac76cc28f5486e63dc45276e1a25714ad0ac5c8fffef03407baf441c4d495d", func := "hackle/hacklelaw17.LiveIdle", spec := "liveIdle", recurses := true, apart := false }
def LiveIdleSaid : Prop := liveIdleRow.holds Tryz.pinned (OpenSpec.ofChange liveIdleSpec)

/-- ITS FALSE NEIGHBOUR: 'it returns false'. Refute it at one input. -/
def liveIdleWrong : ChangeSpec := { name := "liveIdle", fn := fun _ => fun
  | [d1, d2, d3] => { results := [.lit (.bool false)], args := [d1, d2, d3] }
  | _ => none }
def LiveIdleWrongFalsely : Prop := liveIdleRow.holds Tryz.pinned (OpenSpec.ofChange liveIdleWrong)

/-- 'hacklelaw17.LiveEnds': WHATEVER THE INPUT: true; the input reads as it did. -/
def liveEndsSpec : ChangeSpec := { name := "liveEnds", fn := fun _ => fun
  | [d] => { results := [.lit (.bool true)], args := [d] }
  | _ => none }
def liveEndsRow : OpenClaim := { program := "ytppefchjoodgnaagreat", sum := "f5ac76cc28f5486e63dc45276e1a25714ad0ac5c8fffef03407baf441c4d495d", func := "hackle/hacklelaw17.LiveEnds", spec := "liveEnds", recurses := true, apart := false }
def LiveEndsSaid : Prop := liveEndsRow.holds Tryz.pinned (OpenSpec.ofChange liveEndsSpec)

/-- ITS FALSE NEIGHBOUR: 'it returns false'. Refute it at one input. -/
def liveEndsWrong : ChangeSpec := { name := "liveEnds", fn := fun _ => fun
  | [d] => { results := [.lit (.bool false)], args := [d] }
  | _ => none }
def LiveEndsWrongFalsely : Prop := liveEndsRow.holds Tryz.pinned (OpenSpec.ofChange liveEndsWrong)

/-- 'hacklelaw11.MachineParts': WHATEVER THE INPUT: true; the input reads as it did. -/
def machinePartsSpec : ChangeSpec := { name := "machineParts", fn := fun _ => fun
  | [d1, d2, d3, d4] => { results := [.lit (.bool true)], args := [d1, d2, d3, d4] }
  | _ => none }
def machinePartsRow : OpenClaim := { program := "ytppefchjoodgnaagreat", sum := "f5ac76cc28f5486e63dc45276e1a25714ad0ac5c8fffef03407baf441c4d495d", func := "hackle/hacklelaw11.MachineParts", spec := "machineParts", unfollowed := true, recurses := true, apart := false }
def MachinePartsSaid : Prop := machinePartsRow.holds Tryz.pinned (OpenSpec.ofChange machinePartsSpec)

/-- ITS FALSE NEIGHBOUR: 'it returns false'. Refute it at one input. -/
def machinePartsWrong : ChangeSpec := { name := "machineParts", fn := fun _ => fun
  | [d1, d2, d3, d4] => { results := [.lit (.bool false)], args := [d1, d2, d3, d4] }
  | _ => none }
def MachinePartsWrongFalsely : Prop := machinePartsRow.holds Tryz.pinned (OpenSpec.ofChange machinePartsWrong)

/-- 'hacklelaw11.MachineStays': WHATEVER THE INPUT: true; the input reads as it did. -/
def machineStaysSpec : ChangeSpec := { name := "machineStays", fn := fun _ => fun
  | [d1, d2, d3] => { results := [.lit (.bool true)], args := [d1, d2, d3] }
  | _ => none }
def machineStaysRow : OpenClaim := { program := "ytppefchjoodgnaagreat", sum := "f5ac76cc28f5486e63dc45276e1a25714ad0ac5c8fffef03407baf441c4d495d", func := "hackle/hacklelaw11.MachineStays", spec := "machineStays", unfollowed := true, recurses := true, apart := false }
def MachineStaysSaid : Prop := machineStaysRow.holds Tryz.pinned (OpenSpec.ofChange machineStaysSpec)

/-- ITS FALSE NEIGHBOUR: 'it returns false'. Refute it at one input. -/
def machineStaysWrong : ChangeSpec := { name := "machineStays", fn := fun _ => fun
  | [d1, d2, d3] => { results := [.lit (.bool false)], args := [d1, d2, d3] }
  | _ => none }
def MachineStaysWrongFalsely : Prop := machineStaysRow.holds Tryz.pinned (OpenSpec.ofChange machineStaysWrong)

/-- 'hacklelaw11.MachineSteps': WHATEVER THE INPUT: true; the input reads as it did. -/
def machineStepsSpec : ChangeSpec := { name := "machineSteps", fn := fun _ => fun
  | [d1, d2, d3] => { results := [.lit (.bool true)], args := [d1, d2, d3] }
  | _ => none }
def machineStepsRow : OpenClaim := { program := "ytppefchjoodgnaagreat", sum := "f5ac76cc28f5486e63dc45276e1a25714ad0ac5c8fffef03407baf441c4d495d", func := "hackle/hacklelaw11.MachineSteps", spec := "machineSteps", unfollowed := true, recurses := true, apart := false }
def MachineStepsSaid : Prop := machineStepsRow.holds Tryz.pinned (OpenSpec.ofChange machineStepsSpec)

/-- ITS FALSE NEIGHBOUR: 'it returns false'. Refute it at one input. -/
def machineStepsWrong : ChangeSpec := { name := "machineSteps", fn := fun _ => fun
  | [d1, d2, d3] => { results := [.lit (.bool false)], args := [d1, d2, d3] }
  | _ => none }
def MachineStepsWrongFalsely : Prop := machineStepsRow.holds Tryz.pinned (OpenSpec.ofChange machineStepsWrong)

/-- 'hacklelaw11.MachineTwice': WHATEVER THE INPUT: true; the input reads as it did. -/
def machineTwiceSpec : ChangeSpec := { name := "machineTwice", fn := fun _ => fun
  | [d1, d2, d3] => { results := [.lit (.bool true)], args := [d1, d2, d3] }
  | _ => none }
def machineTwiceRow : OpenClaim := { program := "ytppefchjoodgnaagreat", sum := "f5ac76cc28f5486e63dc45276e1a25714ad0ac5c8fffef03407baf441c4d495d", func := "hackle/hacklelaw11.MachineTwice", spec := "machineTwice", unfollowed := true, recurses := true, apart := false }
def MachineTwiceSaid : Prop := machineTwiceRow.holds Tryz.pinned (OpenSpec.ofChange machineTwiceSpec)

/-- ITS FALSE NEIGHBOUR: 'it returns false'. Refute it at one input. -/
def machineTwiceWrong : ChangeSpec := { name := "machineTwice", fn := fun _ => fun
  | [d1, d2, d3] => { results := [.lit (.bool false)], args := [d1, d2, d3] }
  | _ => none }
def MachineTwiceWrongFalsely : Prop := machineTwiceRow.holds Tryz.pinned (OpenSpec.ofChange machineTwiceWrong)

/- THE SECOND FORM. 'bulk': how many values and letters a reading holds, each counted each time it is reached (what is shared counts as often as it is met; a slice's spare places count too). A statement '..UptoSaid' is the law's where the arguments, and the package variables that the reading takes, are together of bulk at most 1048576: NARROWER than '..Said'. Prove '..Said' where nothing that the law and all that it calls make is longer than what came in: it says more and counts as full. Else prove '..UptoSaid'. A law counts once. -/
mutual
def uptoBulk {H : Type} : DataW H → Nat
  | .lit (.string bytes) => bytes.length + 1
  | .lit _ => 1
  | .nil => 1
  | .ptr d => uptoBulk d + 1
  | .slice elems spare => uptoBulkAll elems + uptoBulkAll spare + 1
  | .agg parts => uptoBulkAll parts + 1
  | .iface _ d => uptoBulk d + 1
  | .map entries => uptoBulkEntries entries + 1
  | .held _ => 1
def uptoBulkAll {H : Type} : List (DataW H) → Nat
  | [] => 0
  | d :: r => uptoBulk d + uptoBulkAll r
def uptoBulkEntries {H : Type} : List (Lit × DataW H) → Nat
  | [] => 0
  | x :: r => uptoBulkEntry x + uptoBulkEntries r
def uptoBulkEntry {H : Type} : Lit × DataW H → Nat
  | (.string bytes, d) => bytes.length + uptoBulk d + 1
  | (_, d) => uptoBulk d + 1
 end
def uptoSmall : (H : Type) → List (DataW H) → Bool := fun _ ds => decide (uptoBulkAll ds ≤ 1048576)
def OpenSpec.upto (s : _root_.Go.ChangeSpec) : _root_.Go.OpenSpec := { _root_.Go.OpenSpec.ofChange s with cond := some uptoSmall }

/-- 'hacklelaw17.LiveSound', WHERE WHAT IT READS IS OF BULK AT MOST 1048576: true; the input reads as it did. -/
def liveSoundUptoRow : OpenClaim := { program := "ytppefchjoodgnaagreat", sum := "f5ac76cc28f5486e63dc45276e1a25714ad0ac5c8fffef03407baf441c4d495d", func := "hackle/hacklelaw17.LiveSound", spec := "liveSound", recurses := true, apart := false, narrowed := true }
def LiveSoundUptoSaid : Prop := liveSoundUptoRow.holds Tryz.pinned (OpenSpec.upto liveSoundSpec)

/-- 'hacklelaw17.LiveIdle', WHERE WHAT IT READS IS OF BULK AT MOST 1048576: true; the input reads as it did. -/
def liveIdleUptoRow : OpenClaim := { program := "ytppefchjoodgnaagreat", sum := "f5ac76cc28f5486e63dc45276e1a25714ad0ac5c8fffef03407baf441c4d495d", func := "hackle/hacklelaw17.LiveIdle", spec := "liveIdle", recurses := true, apart := false, narrowed := true }
def LiveIdleUptoSaid : Prop := liveIdleUptoRow.holds Tryz.pinned (OpenSpec.upto liveIdleSpec)

/-- 'hacklelaw17.LiveEnds', WHERE WHAT IT READS IS OF BULK AT MOST 1048576: true; the input reads as it did. -/
def liveEndsUptoRow : OpenClaim := { program := "ytppefchjoodgnaagreat", sum := "f5ac76cc28f5486e63dc45276e1a25714ad0ac5c8fffef03407baf441c4d495d", func := "hackle/hacklelaw17.LiveEnds", spec := "liveEnds", recurses := true, apart := false, narrowed := true }
def LiveEndsUptoSaid : Prop := liveEndsUptoRow.holds Tryz.pinned (OpenSpec.upto liveEndsSpec)

/-- 'hacklelaw11.MachineParts', WHERE WHAT IT READS IS OF BULK AT MOST 1048576: true; the input reads as it did. -/
def machinePartsUptoRow : OpenClaim := { program := "ytppefchjoodgnaagreat", sum := "f5ac76cc28f5486e63dc45276e1a25714ad0ac5c8fffef03407baf441c4d495d", func := "hackle/hacklelaw11.MachineParts", spec := "machineParts", unfollowed := true, recurses := true, apart := false, narrowed := true }
def MachinePartsUptoSaid : Prop := machinePartsUptoRow.holds Tryz.pinned (OpenSpec.upto machinePartsSpec)

/-- 'hacklelaw11.MachineStays', WHERE WHAT IT READS IS OF BULK AT MOST 1048576: true; the input reads as it did. -/
def machineStaysUptoRow : OpenClaim := { program := "ytppefchjoodgnaagreat", sum := "f5ac76cc28f5486e63dc45276e1a25714ad0ac5c8fffef03407baf441c4d495d", func := "hackle/hacklelaw11.MachineStays", spec := "machineStays", unfollowed := true, recurses := true, apart := false, narrowed := true }
def MachineStaysUptoSaid : Prop := machineStaysUptoRow.holds Tryz.pinned (OpenSpec.upto machineStaysSpec)

/-- 'hacklelaw11.MachineSteps', WHERE WHAT IT READS IS OF BULK AT MOST 1048576: true; the input reads as it did. -/
def machineStepsUptoRow : OpenClaim := { program := "ytppefchjoodgnaagreat", sum := "f5ac76cc28f5486e63dc45276e1a25714ad0ac5c8fffef03407baf441c4d495d", func := "hackle/hacklelaw11.MachineSteps", spec := "machineSteps", unfollowed := true, recurses := true, apart := false, narrowed := true }
def MachineStepsUptoSaid : Prop := machineStepsUptoRow.holds Tryz.pinned (OpenSpec.upto machineStepsSpec)

/-- 'hacklelaw11.MachineTwice', WHERE WHAT IT READS IS OF BULK AT MOST 1048576: true; the input reads as it did. -/
def machineTwiceUptoRow : OpenClaim := { program := "ytppefchjoodgnaagreat", sum := "f5ac76cc28f5486e63dc45276e1a25714ad0ac5c8fffef03407baf441c4d495d", func := "hackle/hacklelaw11.MachineTwice", spec := "machineTwice", unfollowed := true, recurses := true, apart := false, narrowed := true }
def MachineTwiceUptoSaid : Prop := machineTwiceUptoRow.holds Tryz.pinned (OpenSpec.upto machineTwiceSpec)

end Rows
end Go.Proofs.YtppefchjoodgnaaGreat
