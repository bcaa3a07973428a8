/-
  No cell of these rows narrows 'for every input' (looked for: loops, veiled, ifaces, maps, wideKeys, modest, calm, conditions, laid).
  DERIVED. THE GIVEN ROWS OF THIS SEAT. 10 by the template 'for every input the law returns true; each argument reads behind the call as it read before'; 0 by the template 'total and deterministic' (their statements: YtelecdncdaepnaaTotals.lean).
  GIVEN WITH THE SEED: the statements are not yours to turn. If you find one false, say at which input.
  Laid BY PROGRAM, IN A SANDBOX (cutbox-rows.mjs): the forced cells as the released guide's own fill.sh prints them over the translation 5622260f482a28fb… (all of the seat's roots in one cut). By AI agents, Wed Nov 11 2026. No macro, syntax, notation, axiom, sorry.
-/
import Derived.Test.YtelecdncdaepnaaChecked
import GoSem.Claim
import GoSem.ClaimJoined
import GoSem.ClaimMapViews
import Derived.JoinedTies
import Derived.KernelRfl
namespace Go.Proofs.Ytelecdncdaepnaa
/- THE CELL 'sum', in the pinned program and in every row, IS THE sha256 OF THE DUMP (.gsa) THAT YtelecdncdaepnaaProg.lean LOADS. Nothing in Lean hashes anything: it is a label: what it is worth is what the hold of that sum in a sandbox is worth. -/
noncomputable def Try.pinned : Pinned := { name := "ytelecdncdaepnaa", sum := "5622260f482a28fb6def134d38d09ae2ecc13d2d7305adf52f43297d6da289eb", checked := Try.checked }
namespace Rows
def none {H : Type} : Left H := { results := [], args := [] }

/-- 'notarylaw05.EntryEncodes': WHATEVER THE INPUT: true; the input reads as it did. -/
def entryEncodesSpec : ChangeSpec := { name := "entryEncodes", fn := fun _ => fun
  | [d] => { results := [.lit (.bool true)], args := [d] }
  | _ => none }
def entryEncodesRow : OpenClaim := { program := "ytelecdncdaepnaa", sum := "5622260f482a28fb6def134d38d09ae2ecc13d2d7305adf52f43297d6da289eb", func := "notary/notarylaw05.EntryEncodes", spec := "entryEncodes", unfollowed := true, recurses := true, apart := false }
def EntryEncodesSaid : Prop := entryEncodesRow.holds Try.pinned (OpenSpec.ofChange entryEncodesSpec)

/-- ITS FALSE NEIGHBOUR: 'it returns false'. Refute it at one input. -/
def entryEncodesWrong : ChangeSpec := { name := "entryEncodes", fn := fun _ => fun
  | [d] => { results := [.lit (.bool false)], args := [d] }
  | _ => none }
def EntryEncodesWrongFalsely : Prop := entryEncodesRow.holds Try.pinned (OpenSpec.ofChange entryEncodesWrong)

/-- 'notarylaw05.EntryDecodes': WHATEVER THE INPUT: true; the input reads as it did. -/
def entryDecodesSpec : ChangeSpec := { name := "entryDecodes", fn := fun _ => fun
  | [d] => { results := [.lit (.bool true)], args := [d] }
  | _ => none }
def entryDecodesRow : OpenClaim := { program := "ytelecdncdaepnaa", sum := "5622260f482a28fb6def134d38d09ae2ecc13d2d7305adf52f43297d6da289eb", func := "notary/notarylaw05.EntryDecodes", spec := "entryDecodes", unfollowed := true, recurses := true, apart := false }
def EntryDecodesSaid : Prop := entryDecodesRow.holds Try.pinned (OpenSpec.ofChange entryDecodesSpec)

/-- ITS FALSE NEIGHBOUR: 'it returns false'. Refute it at one input. -/
def entryDecodesWrong : ChangeSpec := { name := "entryDecodes", fn := fun _ => fun
  | [d] => { results := [.lit (.bool false)], args := [d] }
  | _ => none }
def EntryDecodesWrongFalsely : Prop := entryDecodesRow.holds Try.pinned (OpenSpec.ofChange entryDecodesWrong)

/-- 'notarylaw05.EntryBatches': WHATEVER THE INPUT: true; the input reads as it did. -/
def entryBatchesSpec : ChangeSpec := { name := "entryBatches", fn := fun _ => fun
  | [d] => { results := [.lit (.bool true)], args := [d] }
  | _ => none }
def entryBatchesRow : OpenClaim := { program := "ytelecdncdaepnaa", sum := "5622260f482a28fb6def134d38d09ae2ecc13d2d7305adf52f43297d6da289eb", func := "notary/notarylaw05.EntryBatches", spec := "entryBatches", unfollowed := true, recurses := true, apart := false }
def EntryBatchesSaid : Prop := entryBatchesRow.holds Try.pinned (OpenSpec.ofChange entryBatchesSpec)

/-- ITS FALSE NEIGHBOUR: 'it returns false'. Refute it at one input. -/
def entryBatchesWrong : ChangeSpec := { name := "entryBatches", fn := fun _ => fun
  | [d] => { results := [.lit (.bool false)], args := [d] }
  | _ => none }
def EntryBatchesWrongFalsely : Prop := entryBatchesRow.holds Try.pinned (OpenSpec.ofChange entryBatchesWrong)

/-- 'notarylaw05.EntryWhole': WHATEVER THE INPUT: true; the input reads as it did. -/
def entryWholeSpec : ChangeSpec := { name := "entryWhole", fn := fun _ => fun
  | [d1, d2] => { results := [.lit (.bool true)], args := [d1, d2] }
  | _ => none }
def entryWholeRow : OpenClaim := { program := "ytelecdncdaepnaa", sum := "5622260f482a28fb6def134d38d09ae2ecc13d2d7305adf52f43297d6da289eb", func := "notary/notarylaw05.EntryWhole", spec := "entryWhole", unfollowed := true, recurses := true, apart := false }
def EntryWholeSaid : Prop := entryWholeRow.holds Try.pinned (OpenSpec.ofChange entryWholeSpec)

/-- ITS FALSE NEIGHBOUR: 'it returns false'. Refute it at one input. -/
def entryWholeWrong : ChangeSpec := { name := "entryWhole", fn := fun _ => fun
  | [d1, d2] => { results := [.lit (.bool false)], args := [d1, d2] }
  | _ => none }
def EntryWholeWrongFalsely : Prop := entryWholeRow.holds Try.pinned (OpenSpec.ofChange entryWholeWrong)

/-- 'notarylaw05.EntryMemory': WHATEVER THE INPUT: true; the input reads as it did. -/
def entryMemorySpec : ChangeSpec := { name := "entryMemory", fn := fun _ => fun
  | [d1, d2] => { results := [.lit (.bool true)], args := [d1, d2] }
  | _ => none }
def entryMemoryRow : OpenClaim := { program := "ytelecdncdaepnaa", sum := "5622260f482a28fb6def134d38d09ae2ecc13d2d7305adf52f43297d6da289eb", func := "notary/notarylaw05.EntryMemory", spec := "entryMemory", unfollowed := true, recurses := true, apart := false }
def EntryMemorySaid : Prop := entryMemoryRow.holds Try.pinned (OpenSpec.ofChange entryMemorySpec)

/-- ITS FALSE NEIGHBOUR: 'it returns false'. Refute it at one input. -/
def entryMemoryWrong : ChangeSpec := { name := "entryMemory", fn := fun _ => fun
  | [d1, d2] => { results := [.lit (.bool false)], args := [d1, d2] }
  | _ => none }
def EntryMemoryWrongFalsely : Prop := entryMemoryRow.holds Try.pinned (OpenSpec.ofChange entryMemoryWrong)

/-- 'notarylaw05.EntryRoots': WHATEVER THE INPUT: true; the input reads as it did. -/
def entryRootsSpec : ChangeSpec := { name := "entryRoots", fn := fun _ => fun
  | [d1, d2, d3] => { results := [.lit (.bool true)], args := [d1, d2, d3] }
  | _ => none }
def entryRootsRow : OpenClaim := { program := "ytelecdncdaepnaa", sum := "5622260f482a28fb6def134d38d09ae2ecc13d2d7305adf52f43297d6da289eb", func := "notary/notarylaw05.EntryRoots", spec := "entryRoots", unfollowed := true, recurses := true, apart := false }
def EntryRootsSaid : Prop := entryRootsRow.holds Try.pinned (OpenSpec.ofChange entryRootsSpec)

/-- ITS FALSE NEIGHBOUR: 'it returns false'. Refute it at one input. -/
def entryRootsWrong : ChangeSpec := { name := "entryRoots", fn := fun _ => fun
  | [d1, d2, d3] => { results := [.lit (.bool false)], args := [d1, d2, d3] }
  | _ => none }
def EntryRootsWrongFalsely : Prop := entryRootsRow.holds Try.pinned (OpenSpec.ofChange entryRootsWrong)

/-- 'notarylaw05.EntryThere': WHATEVER THE INPUT: true; the input reads as it did. -/
def entryThereSpec : ChangeSpec := { name := "entryThere", fn := fun _ => fun
  | [d1, d2, d3] => { results := [.lit (.bool true)], args := [d1, d2, d3] }
  | _ => none }
def entryThereRow : OpenClaim := { program := "ytelecdncdaepnaa", sum := "5622260f482a28fb6def134d38d09ae2ecc13d2d7305adf52f43297d6da289eb", func := "notary/notarylaw05.EntryThere", spec := "entryThere", unfollowed := true, recurses := true, apart := false }
def EntryThereSaid : Prop := entryThereRow.holds Try.pinned (OpenSpec.ofChange entryThereSpec)

/-- ITS FALSE NEIGHBOUR: 'it returns false'. Refute it at one input. -/
def entryThereWrong : ChangeSpec := { name := "entryThere", fn := fun _ => fun
  | [d1, d2, d3] => { results := [.lit (.bool false)], args := [d1, d2, d3] }
  | _ => none }
def EntryThereWrongFalsely : Prop := entryThereRow.holds Try.pinned (OpenSpec.ofChange entryThereWrong)

/-- 'notarylaw05.EntryBack': WHATEVER THE INPUT: true; the input reads as it did. -/
def entryBackSpec : ChangeSpec := { name := "entryBack", fn := fun _ => fun
  | [d1, d2] => { results := [.lit (.bool true)], args := [d1, d2] }
  | _ => none }
def entryBackRow : OpenClaim := { program := "ytelecdncdaepnaa", sum := "5622260f482a28fb6def134d38d09ae2ecc13d2d7305adf52f43297d6da289eb", func := "notary/notarylaw05.EntryBack", spec := "entryBack", unfollowed := true, recurses := true, apart := false }
def EntryBackSaid : Prop := entryBackRow.holds Try.pinned (OpenSpec.ofChange entryBackSpec)

/-- ITS FALSE NEIGHBOUR: 'it returns false'. Refute it at one input. -/
def entryBackWrong : ChangeSpec := { name := "entryBack", fn := fun _ => fun
  | [d1, d2] => { results := [.lit (.bool false)], args := [d1, d2] }
  | _ => none }
def EntryBackWrongFalsely : Prop := entryBackRow.holds Try.pinned (OpenSpec.ofChange entryBackWrong)

/-- 'notarylaw05.EntryFixed': WHATEVER THE INPUT: true; the input reads as it did. -/
def entryFixedSpec : ChangeSpec := { name := "entryFixed", fn := fun _ => fun
  | [] => { results := [.lit (.bool true)], args := [] }
  | _ => none }
def entryFixedRow : OpenClaim := { program := "ytelecdncdaepnaa", sum := "5622260f482a28fb6def134d38d09ae2ecc13d2d7305adf52f43297d6da289eb", func := "notary/notarylaw05.EntryFixed", spec := "entryFixed", unfollowed := true, recurses := true, apart := false }
def EntryFixedSaid : Prop := entryFixedRow.holds Try.pinned (OpenSpec.ofChange entryFixedSpec)

/-- ITS FALSE NEIGHBOUR: 'it returns false'. Refute it at one input. -/
def entryFixedWrong : ChangeSpec := { name := "entryFixed", fn := fun _ => fun
  | [] => { results := [.lit (.bool false)], args := [] }
  | _ => none }
def EntryFixedWrongFalsely : Prop := entryFixedRow.holds Try.pinned (OpenSpec.ofChange entryFixedWrong)

/-- 'notarytop.WholeEntries': WHATEVER THE INPUT: true; the input reads as it did. -/
def wholeEntriesSpec : ChangeSpec := { name := "wholeEntries", fn := fun _ => fun
  | [d1, d2, d3, d4] => { results := [.lit (.bool true)], args := [d1, d2, d3, d4] }
  | _ => none }
def wholeEntriesRow : OpenClaim := { program := "ytelecdncdaepnaa", sum := "5622260f482a28fb6def134d38d09ae2ecc13d2d7305adf52f43297d6da289eb", func := "notary/notarytop.WholeEntries", spec := "wholeEntries", unfollowed := true, recurses := true, apart := false }
def WholeEntriesSaid : Prop := wholeEntriesRow.holds Try.pinned (OpenSpec.ofChange wholeEntriesSpec)

/-- ITS FALSE NEIGHBOUR: 'it returns false'. Refute it at one input. -/
def wholeEntriesWrong : ChangeSpec := { name := "wholeEntries", fn := fun _ => fun
  | [d1, d2, d3, d4] => { results := [.lit (.bool false)], args := [d1, d2, d3, d4] }
  | _ => none }
def WholeEntriesWrongFalsely : Prop := wholeEntriesRow.holds Try.pinned (OpenSpec.ofChange wholeEntriesWrong)

/- THE SECOND FORM. 'bulk': how many values and letters a reading holds, each counted each time it is reached (what is shared counts as often as it is met; a slice's spare places count too). A statement '..UptoSaid' is the law's where the arguments, and the package variables that the reading takes, are together of bulk at most 1048576: NARROWER than '..Said'. Prove '..Said' where nothing that the law and all that it calls make is longer than what came in: it says more and counts as full. Else prove '..UptoSaid'. A law counts once. -/
mutual
def uptoBulk {H : Type} : DataW H → Nat
  | .lit (.string bytes) => bytes.length + 1
  | .lit _ => 1
  | .nil => 1
  | .ptr d => uptoBulk d + 1
  | .slice elems spare => uptoBulkAll elems + uptoBulkAll spare + 1
  | .agg parts => uptoBulkAll parts + 1
  | .iface _ d => uptoBulk d + 1
  | .map entries => uptoBulkEntries entries + 1
  | .held _ => 1
def uptoBulkAll {H : Type} : List (DataW H) → Nat
  | [] => 0
  | d :: r => uptoBulk d + uptoBulkAll r
def uptoBulkEntries {H : Type} : List (Lit × DataW H) → Nat
  | [] => 0
  | x :: r => uptoBulkEntry x + uptoBulkEntries r
def uptoBulkEntry {H : Type} : Lit × DataW H → Nat
  | (.string bytes, d) => bytes.length + uptoBulk d + 1
  | (_, d) => uptoBulk d + 1
 end
def uptoSmall : (H : Type) → List (DataW H) → Bool := fun _ ds => decide (uptoBulkAll ds ≤ 1048576)
def OpenSpec.upto (s : _root_.Go.ChangeSpec) : _root_.Go.OpenSpec := { _root_.Go.OpenSpec.ofChange s with cond := some uptoSmall }

/-- 'notarylaw05.EntryEncodes', WHERE WHAT IT READS IS OF BULK AT MOST 1048576: true; the input reads as it did. -/
def entryEncodesUptoRow : OpenClaim := { program := "ytelecdncdaepnaa", sum := "5622260f482a28fb6def134d38d09ae2ecc13d2d7305adf52f43297d6da289eb", func := "notary/notarylaw05.EntryEncodes", spec := "entryEncodes", unfollowed := true, recurses := true, apart := false, narrowed := true }
def EntryEncodesUptoSaid : Prop := entryEncodesUptoRow.holds Try.pinned (OpenSpec.upto entryEncodesSpec)

/-- 'notarylaw05.EntryDecodes', WHERE WHAT IT READS IS OF BULK AT MOST 1048576: true; the input reads as it did. -/
def entryDecodesUptoRow : OpenClaim := { program := "ytelecdncdaepnaa", sum := "5622260f482a28fb6def134d38d09ae2ecc13d2d7305adf52f43297d6da289eb", func := "notary/notarylaw05.EntryDecodes", spec := "entryDecodes", unfollowed := true, recurses := true, apart := false, narrowed := true }
def EntryDecodesUptoSaid : Prop := entryDecodesUptoRow.holds Try.pinned (OpenSpec.upto entryDecodesSpec)

/-- 'notarylaw05.EntryBatches', WHERE WHAT IT READS IS OF BULK AT MOST 1048576: true; the input reads as it did. -/
def entryBatchesUptoRow : OpenClaim := { program := "ytelecdncdaepnaa", sum := "5622260f482a28fb6def134d38d09ae2ecc13d2d7305adf52f43297d6da289eb", func := "notary/notarylaw05.EntryBatches", spec := "entryBatches", unfollowed := true, recurses := true, apart := false, narrowed := true }
def EntryBatchesUptoSaid : Prop := entryBatchesUptoRow.holds Try.pinned (OpenSpec.upto entryBatchesSpec)

/-- 'notarylaw05.EntryWhole', WHERE WHAT IT READS IS OF BULK AT MOST 1048576: true; the input reads as it did. -/
def entryWholeUptoRow : OpenClaim := { program := "ytelecdncdaepnaa", sum := "5622260f482a28fb6def134d38d09ae2ecc13d2d7305adf52f43297d6da289eb", func := "notary/notarylaw05.EntryWhole", spec := "entryWhole", unfollowed := true, recurses := true, apart := false, narrowed := true }
def EntryWholeUptoSaid : Prop := entryWholeUptoRow.holds Try.pinned (OpenSpec.upto entryWholeSpec)

/-- 'notarylaw05.EntryMemory', WHERE WHAT IT READS IS OF BULK AT MOST 1048576: true; the input reads as it did. -/
def entryMemoryUptoRow : OpenClaim := { program := "ytelecdncdaepnaa", sum := "5622260f482a28fb6def134d38d09ae2ecc13d2d7305adf52f43297d6da289eb", func := "notary/notarylaw05.EntryMemory", spec := "entryMemory", unfollowed := true, recurses := true, apart := false, narrowed := true }
def EntryMemoryUptoSaid : Prop := entryMemoryUptoRow.holds Try.pinned (OpenSpec.upto entryMemorySpec)

/-- 'notarylaw05.EntryRoots', WHERE WHAT IT READS IS OF BULK AT MOST 1048576: true; the input reads as it did. -/
def entryRootsUptoRow : OpenClaim := { program := "ytelecdncdaepnaa", sum := "5622260f482a28fb6def134d38d09ae2ecc13d2d7305adf52f43297d6da289eb", func := "notary/notarylaw05.EntryRoots", spec := "entryRoots", unfollowed := true, recurses := true, apart := false, narrowed := true }
def EntryRootsUptoSaid : Prop := entryRootsUptoRow.holds Try.pinned (OpenSpec.upto entryRootsSpec)

/-- 'notarylaw05.EntryThere', WHERE WHAT IT READS IS OF BULK AT MOST 1048576: true; the input reads as it did. -/
def entryThereUptoRow : OpenClaim := { program := "ytelecdncdaepnaa", sum := "5622260f482a28fb6def134d38d09ae2ecc13d2d7305adf52f43297d6da289eb", func := "notary/notarylaw05.EntryThere", spec := "entryThere", unfollowed := true, recurses := true, apart := false, narrowed := true }
def EntryThereUptoSaid : Prop := entryThereUptoRow.holds Try.pinned (OpenSpec.upto entryThereSpec)

/-- 'notarylaw05.EntryBack', WHERE WHAT IT READS IS OF BULK AT MOST 1048576: true; the input reads as it did. -/
def entryBackUptoRow : OpenClaim := { program := "ytelecdncdaepnaa", sum := "5622260f482a28fb6def134d38d09ae2ecc13d2d7305adf52f43297d6da289eb", func := "notary/notarylaw05.EntryBack", spec := "entryBack", unfollowed := true, recurses := true, apart := false, narrowed := true }
def EntryBackUptoSaid : Prop := entryBackUptoRow.holds Try.pinned (OpenSpec.upto entryBackSpec)

/-- 'notarylaw05.EntryFixed', WHERE WHAT IT READS IS OF BULK AT MOST 1048576: true; the input reads as it did. -/
def entryFixedUptoRow : OpenClaim := { program := "ytelecdncdaepnaa", sum := "5622260f482a28fb6def134d38d09ae2ecc13d2d7305adf52f43297d6da289eb", func := "notary/notarylaw05.EntryFixed", spec := "entryFixed", unfollowed := true, recurses := true, apart := false, narrowed := true }
def EntryFixedUptoSaid : Prop := entryFixedUptoRow.holds Try.pinned (OpenSpec.upto entryFixedSpec)

/-- 'notarytop.WholeEntries', WHERE WHAT IT READS IS OF BULK AT MOST 1048576: true; the input reads as it did. -/
def wholeEntriesUptoRow : OpenClaim := { program := "ytelecdncdaepnaa", sum := "5622260f482a28fb6def134d38d09ae2ecc13d2d7305adf52f43297d6da289eb", func := "notary/notarytop.WholeEntries", spec := "wholeEntries", unfollowed := true, recurses := true, apart := false, narrowed := true }
def WholeEntriesUptoSaid : Prop := wholeEntriesUptoRow.holds Try.pinned (OpenSpec.upto wholeEntriesSpec)

end Rows
end Go.Proofs.Ytelecdncdaepnaa
