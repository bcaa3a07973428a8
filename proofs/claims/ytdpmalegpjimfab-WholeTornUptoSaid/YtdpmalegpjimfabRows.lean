/-
  No cell of these rows narrows 'for every input' (looked for: loops, veiled, ifaces, maps, wideKeys, modest, calm, conditions, laid).
  DERIVED. THE GIVEN ROWS OF THIS SEAT. 10 by the template 'for every input the law returns true; each argument reads behind the call as it read before'; 0 by the template 'total and deterministic' (their statements: YtdpmalegpjimfabTotals.lean).
  GIVEN WITH THE SEED: the statements are not yours to turn. If you find one false, say at which input.
  Laid BY PROGRAM, IN A SANDBOX (cutbox-rows.mjs): the forced cells as the released guide's own fill.sh prints them over the translation 772329bf3b1186d9… (all of the seat's roots in one cut). By AI agents, Wed Nov 11 2026. No macro, syntax, notation, axiom, sorry.
-/
import Derived.Test.YtdpmalegpjimfabChecked
import GoSem.Claim
import GoSem.ClaimJoined
import GoSem.ClaimMapViews
import Derived.JoinedTies
import Derived.KernelRfl
namespace Go.Proofs.Ytdpmalegpjimfab
/- THE CELL 'sum', in the pinned program and in every row, IS THE sha256 OF THE DUMP (.gsa) THAT YtdpmalegpjimfabProg.lean LOADS. Nothing in Lean hashes anything: it is a label: what it is worth is what the hold of that sum in a sandbox is worth. -/
noncomputable def Try.pinned : Pinned := { name := "ytdpmalegpjimfab", sum := "772329bf3b1186d9e971393d6d8b828b94aec1a887c03b18e0aeac89cd926cdb", checked := Try.checked }
namespace Rows
def none {H : Type} : Left H := { results := [], args := [] }

/-- 'notarylaw07.FrameTorn': WHATEVER THE INPUT: true; the input reads as it did. -/
def frameTornSpec : ChangeSpec := { name := "frameTorn", fn := fun _ => fun
  | [d1, d2, d3] => { results := [.lit (.bool true)], args := [d1, d2, d3] }
  | _ => none }
def frameTornRow : OpenClaim := { program := "ytdpmalegpjimfab", sum := "772329bf3b1186d9e971393d6d8b828b94aec1a887c03b18e0aeac89cd926cdb", func := "notary/notarylaw07.FrameTorn", spec := "frameTorn", apart := false }
def FrameTornSaid : Prop := frameTornRow.holds Try.pinned (OpenSpec.ofChange frameTornSpec)

/-- ITS FALSE NEIGHBOUR: 'it returns false'. Refute it at one input. -/
def frameTornWrong : ChangeSpec := { name := "frameTorn", fn := fun _ => fun
  | [d1, d2, d3] => { results := [.lit (.bool false)], args := [d1, d2, d3] }
  | _ => none }
def FrameTornWrongFalsely : Prop := frameTornRow.holds Try.pinned (OpenSpec.ofChange frameTornWrong)

/-- 'notarylaw07.FrameRuns': WHATEVER THE INPUT: true; the input reads as it did. -/
def frameRunsSpec : ChangeSpec := { name := "frameRuns", fn := fun _ => fun
  | [d1, d2, d3] => { results := [.lit (.bool true)], args := [d1, d2, d3] }
  | _ => none }
def frameRunsRow : OpenClaim := { program := "ytdpmalegpjimfab", sum := "772329bf3b1186d9e971393d6d8b828b94aec1a887c03b18e0aeac89cd926cdb", func := "notary/notarylaw07.FrameRuns", spec := "frameRuns", apart := false }
def FrameRunsSaid : Prop := frameRunsRow.holds Try.pinned (OpenSpec.ofChange frameRunsSpec)

/-- ITS FALSE NEIGHBOUR: 'it returns false'. Refute it at one input. -/
def frameRunsWrong : ChangeSpec := { name := "frameRuns", fn := fun _ => fun
  | [d1, d2, d3] => { results := [.lit (.bool false)], args := [d1, d2, d3] }
  | _ => none }
def FrameRunsWrongFalsely : Prop := frameRunsRow.holds Try.pinned (OpenSpec.ofChange frameRunsWrong)

/-- 'notarylaw07.FrameWalks': WHATEVER THE INPUT: true; the input reads as it did. -/
def frameWalksSpec : ChangeSpec := { name := "frameWalks", fn := fun _ => fun
  | [d] => { results := [.lit (.bool true)], args := [d] }
  | _ => none }
def frameWalksRow : OpenClaim := { program := "ytdpmalegpjimfab", sum := "772329bf3b1186d9e971393d6d8b828b94aec1a887c03b18e0aeac89cd926cdb", func := "notary/notarylaw07.FrameWalks", spec := "frameWalks", apart := false }
def FrameWalksSaid : Prop := frameWalksRow.holds Try.pinned (OpenSpec.ofChange frameWalksSpec)

/-- ITS FALSE NEIGHBOUR: 'it returns false'. Refute it at one input. -/
def frameWalksWrong : ChangeSpec := { name := "frameWalks", fn := fun _ => fun
  | [d] => { results := [.lit (.bool false)], args := [d] }
  | _ => none }
def FrameWalksWrongFalsely : Prop := frameWalksRow.holds Try.pinned (OpenSpec.ofChange frameWalksWrong)

/-- 'notarylaw01.WireEmpty': WHATEVER THE INPUT: true; the input reads as it did. -/
def wireEmptySpec : ChangeSpec := { name := "wireEmpty", fn := fun _ => fun
  | [d] => { results := [.lit (.bool true)], args := [d] }
  | _ => none }
def wireEmptyRow : OpenClaim := { program := "ytdpmalegpjimfab", sum := "772329bf3b1186d9e971393d6d8b828b94aec1a887c03b18e0aeac89cd926cdb", func := "notary/notarylaw01.WireEmpty", spec := "wireEmpty", apart := false }
def WireEmptySaid : Prop := wireEmptyRow.holds Try.pinned (OpenSpec.ofChange wireEmptySpec)

/-- ITS FALSE NEIGHBOUR: 'it returns false'. Refute it at one input. -/
def wireEmptyWrong : ChangeSpec := { name := "wireEmpty", fn := fun _ => fun
  | [d] => { results := [.lit (.bool false)], args := [d] }
  | _ => none }
def WireEmptyWrongFalsely : Prop := wireEmptyRow.holds Try.pinned (OpenSpec.ofChange wireEmptyWrong)

/-- 'notarytop.WholeTorn': WHATEVER THE INPUT: true; the input reads as it did. -/
def wholeTornSpec : ChangeSpec := { name := "wholeTorn", fn := fun _ => fun
  | [d1, d2, d3] => { results := [.lit (.bool true)], args := [d1, d2, d3] }
  | _ => none }
def wholeTornRow : OpenClaim := { program := "ytdpmalegpjimfab", sum := "772329bf3b1186d9e971393d6d8b828b94aec1a887c03b18e0aeac89cd926cdb", func := "notary/notarytop.WholeTorn", spec := "wholeTorn", apart := false }
def WholeTornSaid : Prop := wholeTornRow.holds Try.pinned (OpenSpec.ofChange wholeTornSpec)

/-- ITS FALSE NEIGHBOUR: 'it returns false'. Refute it at one input. -/
def wholeTornWrong : ChangeSpec := { name := "wholeTorn", fn := fun _ => fun
  | [d1, d2, d3] => { results := [.lit (.bool false)], args := [d1, d2, d3] }
  | _ => none }
def WholeTornWrongFalsely : Prop := wholeTornRow.holds Try.pinned (OpenSpec.ofChange wholeTornWrong)

/-- 'notarylaw01.WireKeeps': WHATEVER THE INPUT: true; the input reads as it did. -/
def wireKeepsSpec : ChangeSpec := { name := "wireKeeps", fn := fun _ => fun
  | [d1, d2] => { results := [.lit (.bool true)], args := [d1, d2] }
  | _ => none }
def wireKeepsRow : OpenClaim := { program := "ytdpmalegpjimfab", sum := "772329bf3b1186d9e971393d6d8b828b94aec1a887c03b18e0aeac89cd926cdb", func := "notary/notarylaw01.WireKeeps", spec := "wireKeeps", apart := false }
def WireKeepsSaid : Prop := wireKeepsRow.holds Try.pinned (OpenSpec.ofChange wireKeepsSpec)

/-- ITS FALSE NEIGHBOUR: 'it returns false'. Refute it at one input. -/
def wireKeepsWrong : ChangeSpec := { name := "wireKeeps", fn := fun _ => fun
  | [d1, d2] => { results := [.lit (.bool false)], args := [d1, d2] }
  | _ => none }
def WireKeepsWrongFalsely : Prop := wireKeepsRow.holds Try.pinned (OpenSpec.ofChange wireKeepsWrong)

/-- 'notarylaw01.WireBack': WHATEVER THE INPUT: true; the input reads as it did. -/
def wireBackSpec : ChangeSpec := { name := "wireBack", fn := fun _ => fun
  | [d1, d2] => { results := [.lit (.bool true)], args := [d1, d2] }
  | _ => none }
def wireBackRow : OpenClaim := { program := "ytdpmalegpjimfab", sum := "772329bf3b1186d9e971393d6d8b828b94aec1a887c03b18e0aeac89cd926cdb", func := "notary/notarylaw01.WireBack", spec := "wireBack", apart := false }
def WireBackSaid : Prop := wireBackRow.holds Try.pinned (OpenSpec.ofChange wireBackSpec)

/-- ITS FALSE NEIGHBOUR: 'it returns false'. Refute it at one input. -/
def wireBackWrong : ChangeSpec := { name := "wireBack", fn := fun _ => fun
  | [d1, d2] => { results := [.lit (.bool false)], args := [d1, d2] }
  | _ => none }
def WireBackWrongFalsely : Prop := wireBackRow.holds Try.pinned (OpenSpec.ofChange wireBackWrong)

/-- 'notarylaw01.WireOneWay': WHATEVER THE INPUT: true; the input reads as it did. -/
def wireOneWaySpec : ChangeSpec := { name := "wireOneWay", fn := fun _ => fun
  | [d1, d2] => { results := [.lit (.bool true)], args := [d1, d2] }
  | _ => none }
def wireOneWayRow : OpenClaim := { program := "ytdpmalegpjimfab", sum := "772329bf3b1186d9e971393d6d8b828b94aec1a887c03b18e0aeac89cd926cdb", func := "notary/notarylaw01.WireOneWay", spec := "wireOneWay", apart := false }
def WireOneWaySaid : Prop := wireOneWayRow.holds Try.pinned (OpenSpec.ofChange wireOneWaySpec)

/-- ITS FALSE NEIGHBOUR: 'it returns false'. Refute it at one input. -/
def wireOneWayWrong : ChangeSpec := { name := "wireOneWay", fn := fun _ => fun
  | [d1, d2] => { results := [.lit (.bool false)], args := [d1, d2] }
  | _ => none }
def WireOneWayWrongFalsely : Prop := wireOneWayRow.holds Try.pinned (OpenSpec.ofChange wireOneWayWrong)

/-- 'notarylaw01.WireShort': WHATEVER THE INPUT: true; the input reads as it did. -/
def wireShortSpec : ChangeSpec := { name := "wireShort", fn := fun _ => fun
  | [d1, d2, d3] => { results := [.lit (.bool true)], args := [d1, d2, d3] }
  | _ => none }
def wireShortRow : OpenClaim := { program := "ytdpmalegpjimfab", sum := "772329bf3b1186d9e971393d6d8b828b94aec1a887c03b18e0aeac89cd926cdb", func := "notary/notarylaw01.WireShort", spec := "wireShort", apart := false }
def WireShortSaid : Prop := wireShortRow.holds Try.pinned (OpenSpec.ofChange wireShortSpec)

/-- ITS FALSE NEIGHBOUR: 'it returns false'. Refute it at one input. -/
def wireShortWrong : ChangeSpec := { name := "wireShort", fn := fun _ => fun
  | [d1, d2, d3] => { results := [.lit (.bool false)], args := [d1, d2, d3] }
  | _ => none }
def WireShortWrongFalsely : Prop := wireShortRow.holds Try.pinned (OpenSpec.ofChange wireShortWrong)

/-- 'notarytop.WholeWire': WHATEVER THE INPUT: true; the input reads as it did. -/
def wholeWireSpec : ChangeSpec := { name := "wholeWire", fn := fun _ => fun
  | [d1, d2] => { results := [.lit (.bool true)], args := [d1, d2] }
  | _ => none }
def wholeWireRow : OpenClaim := { program := "ytdpmalegpjimfab", sum := "772329bf3b1186d9e971393d6d8b828b94aec1a887c03b18e0aeac89cd926cdb", func := "notary/notarytop.WholeWire", spec := "wholeWire", apart := false }
def WholeWireSaid : Prop := wholeWireRow.holds Try.pinned (OpenSpec.ofChange wholeWireSpec)

/-- ITS FALSE NEIGHBOUR: 'it returns false'. Refute it at one input. -/
def wholeWireWrong : ChangeSpec := { name := "wholeWire", fn := fun _ => fun
  | [d1, d2] => { results := [.lit (.bool false)], args := [d1, d2] }
  | _ => none }
def WholeWireWrongFalsely : Prop := wholeWireRow.holds Try.pinned (OpenSpec.ofChange wholeWireWrong)

/- THE SECOND FORM. 'bulk': how many values and letters a reading holds, each counted each time it is reached (what is shared counts as often as it is met; a slice's spare places count too). A statement '..UptoSaid' is the law's where the arguments, and the package variables that the reading takes, are together of bulk at most 1048576: NARROWER than '..Said'. Prove '..Said' where nothing that the law and all that it calls make is longer than what came in: it says more and counts as full. Else prove '..UptoSaid'. A law counts once. -/
mutual
def uptoBulk {H : Type} : DataW H → Nat
  | .lit (.string bytes) => bytes.length + 1
  | .lit _ => 1
  | .nil => 1
  | .ptr d => uptoBulk d + 1
  | .slice elems spare => uptoBulkAll elems + uptoBulkAll spare + 1
  | .agg parts => uptoBulkAll parts + 1
  | .iface _ d => uptoBulk d + 1
  | .map entries => uptoBulkEntries entries + 1
  | .held _ => 1
def uptoBulkAll {H : Type} : List (DataW H) → Nat
  | [] => 0
  | d :: r => uptoBulk d + uptoBulkAll r
def uptoBulkEntries {H : Type} : List (Lit × DataW H) → Nat
  | [] => 0
  | x :: r => uptoBulkEntry x + uptoBulkEntries r
def uptoBulkEntry {H : Type} : Lit × DataW H → Nat
  | (.string bytes, d) => bytes.length + uptoBulk d + 1
  | (_, d) => uptoBulk d + 1
 end
def uptoSmall : (H : Type) → List (DataW H) → Bool := fun _ ds => decide (uptoBulkAll ds ≤ 1048576)
def OpenSpec.upto (s : _root_.Go.ChangeSpec) : _root_.Go.OpenSpec := { _root_.Go.OpenSpec.ofChange s with cond := some uptoSmall }

/-- 'notarylaw07.FrameTorn', WHERE WHAT IT READS IS OF BULK AT MOST 1048576: true; the input reads as it did. -/
def frameTornUptoRow : OpenClaim := { program := "ytdpmalegpjimfab", sum := "772329bf3b1186d9e971393d6d8b828b94aec1a887c03b18e0aeac89cd926cdb", func := "notary/notarylaw07.FrameTorn", spec := "frameTorn", apart := false, narrowed := true }
def FrameTornUptoSaid : Prop := frameTornUptoRow.holds Try.pinned (OpenSpec.upto frameTornSpec)

/-- 'notarylaw07.FrameRuns', WHERE WHAT IT READS IS OF BULK AT MOST 1048576: true; the input reads as it did. -/
def frameRunsUptoRow : OpenClaim := { program := "ytdpmalegpjimfab", sum := "772329bf3b1186d9e971393d6d8b828b94aec1a887c03b18e0aeac89cd926cdb", func := "notary/notarylaw07.FrameRuns", spec := "frameRuns", apart := false, narrowed := true }
def FrameRunsUptoSaid : Prop := frameRunsUptoRow.holds Try.pinned (OpenSpec.upto frameRunsSpec)

/-- 'notarylaw07.FrameWalks', WHERE WHAT IT READS IS OF BULK AT MOST 1048576: true; the input reads as it did. -/
def frameWalksUptoRow : OpenClaim := { program := "ytdpmalegpjimfab", sum := "772329bf3b1186d9e971393d6d8b828b94aec1a887c03b18e0aeac89cd926cdb", func := "notary/notarylaw07.FrameWalks", spec := "frameWalks", apart := false, narrowed := true }
def FrameWalksUptoSaid : Prop := frameWalksUptoRow.holds Try.pinned (OpenSpec.upto frameWalksSpec)

/-- 'notarylaw01.WireEmpty', WHERE WHAT IT READS IS OF BULK AT MOST 1048576: true; the input reads as it did. -/
def wireEmptyUptoRow : OpenClaim := { program := "ytdpmalegpjimfab", sum := "772329bf3b1186d9e971393d6d8b828b94aec1a887c03b18e0aeac89cd926cdb", func := "notary/notarylaw01.WireEmpty", spec := "wireEmpty", apart := false, narrowed := true }
def WireEmptyUptoSaid : Prop := wireEmptyUptoRow.holds Try.pinned (OpenSpec.upto wireEmptySpec)

/-- 'notarytop.WholeTorn', WHERE WHAT IT READS IS OF BULK AT MOST 1048576: true; the input reads as it did. -/
def wholeTornUptoRow : OpenClaim := { program := "ytdpmalegpjimfab", sum := "772329bf3b1186d9e971393d6d8b828b94aec1a887c03b18e0aeac89cd926cdb", func := "notary/notarytop.WholeTorn", spec := "wholeTorn", apart := false, narrowed := true }
def WholeTornUptoSaid : Prop := wholeTornUptoRow.holds Try.pinned (OpenSpec.upto wholeTornSpec)

/-- 'notarylaw01.WireKeeps', WHERE WHAT IT READS IS OF BULK AT MOST 1048576: true; the input reads as it did. -/
def wireKeepsUptoRow : OpenClaim := { program := "ytdpmalegpjimfab", sum := "772329bf3b1186d9e971393d6d8b828b94aec1a887c03b18e0aeac89cd926cdb", func := "notary/notarylaw01.WireKeeps", spec := "wireKeeps", apart := false, narrowed := true }
def WireKeepsUptoSaid : Prop := wireKeepsUptoRow.holds Try.pinned (OpenSpec.upto wireKeepsSpec)

/-- 'notarylaw01.WireBack', WHERE WHAT IT READS IS OF BULK AT MOST 1048576: true; the input reads as it did. -/
def wireBackUptoRow : OpenClaim := { program := "ytdpmalegpjimfab", sum := "772329bf3b1186d9e971393d6d8b828b94aec1a887c03b18e0aeac89cd926cdb", func := "notary/notarylaw01.WireBack", spec := "wireBack", apart := false, narrowed := true }
def WireBackUptoSaid : Prop := wireBackUptoRow.holds Try.pinned (OpenSpec.upto wireBackSpec)

/-- 'notarylaw01.WireOneWay', WHERE WHAT IT READS IS OF BULK AT MOST 1048576: true; the input reads as it did. -/
def wireOneWayUptoRow : OpenClaim := { program := "ytdpmalegpjimfab", sum := "772329bf3b1186d9e971393d6d8b828b94aec1a887c03b18e0aeac89cd926cdb", func := "notary/notarylaw01.WireOneWay", spec := "wireOneWay", apart := false, narrowed := true }
def WireOneWayUptoSaid : Prop := wireOneWayUptoRow.holds Try.pinned (OpenSpec.upto wireOneWaySpec)

/-- 'notarylaw01.WireShort', WHERE WHAT IT READS IS OF BULK AT MOST 1048576: true; the input reads as it did. -/
def wireShortUptoRow : OpenClaim := { program := "ytdpmalegpjimfab", sum := "772329bf3b1186d9e971393d6d8b828b94aec1a887c03b18e0aeac89cd926cdb", func := "notary/notarylaw01.WireShort", spec := "wireShort", apart := false, narrowed := true }
def WireShortUptoSaid : Prop := wireShortUptoRow.holds Try.pinned (OpenSpec.upto wireShortSpec)

/-- 'notarytop.WholeWire', WHERE WHAT IT READS IS OF BULK AT MOST 1048576: true; the input reads as it did. -/
def wholeWireUptoRow : OpenClaim := { program := "ytdpmalegpjimfab", sum := "772329bf3b1186d9e971393d6d8b828b94aec1a887c03b18e0aeac89cd926cdb", func := "notary/notarytop.WholeWire", spec := "wholeWire", apart := false, narrowed := true }
def WholeWireUptoSaid : Prop := wholeWireUptoRow.holds Try.pinned (OpenSpec.upto wholeWireSpec)

end Rows
end Go.Proofs.Ytdpmalegpjimfab
