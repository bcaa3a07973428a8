import Derived.Test.YtpmnnnbkbcpgjaaGreatDoorCards
import Derived.Test.YtpmnnnbkbcpgjaaGreatDoorTie
import Derived.Test.YtpmnnnbkbcpgjaaGreatDoorQBg
import Derived.Deep.DeepHandedRow
import Derived.Deep.DeepWitnessRowRef
import Derived.Lib.LaidTab
import Derived.LaidMore
import Derived.LaidHandle
import Derived.Stop.LaidErr
import Derived.MakeChecks
/- Rows that list the five variables: what the list gives the walks, and a start that meets it. -/
namespace Go.Proofs.YtpmnnnbkbcpgjaaGreatDoor
open Go.RowKit

abbrev laid8 : List (String × DataW Unit) := Rows.segmentNamesRow.laid
theorem star8 : "*" ++ "errors.errorString" = "*errors.errorString" := by decide
theorem row8 (u : TypeId) (h : Tryz.prog.typeName? 3 u = some "*errors.errorString") : u = 214 :=
  typeName_ptr_named (nm := "errors.errorString") (by rw [star8]; kernel_rfl) (by kernel_rfl) (by decide) u (by rw [star8]; exact h)
theorem Laid8.of_row {W : World} (h : laidMetH Tryz.prog laid8 W) : Laid8 W := by
  rw [MakeChecks.laidMetH_plain _ _ _ (by kernel_rfl)] at h
  have h3 := h.tail.tail
  have h4 := h3.tail
  refine ⟨?_, ?_⟩
  · exact Lib.tabIs_of_head (k := .u64) (zs := Lib.pow10Tab) (g := 0) (t := 203) (by kernel_rfl) (by kernel_rfl) Tryz.underlying203 Tryz.underlying22 (by kernel_rfl) (by kernel_rfl) h3
  · obtain ⟨a, s, hv, -⟩ := laid_sentinel (g := 2) (ti := 88) h4 (by kernel_rfl) (by kernel_rfl) Tryz.underlying88 row8 Tryz.underlying214 Tryz.underlying216 rfl rfl Tryz.underlying9 (by kernel_rfl) (by kernel_rfl)
    exact ⟨_, _, hv⟩

/-- THE START FOR THE WITNESSES: the door's own heap. -/
noncomputable abbrev start8 (os : Os) (args : Array Value) : World := ((World.doorLaid Tryz.prog 62 os).forCall (fun _ _ => 0) ⟨#[], args, []⟩).memory
theorem door8 (os : Os) (args : Array Value) : laidMetH Tryz.prog laid8 (start8 os args) :=
  laidMetH_of_parts3 (fuel := 8) (laidMet_of_run' 8 (by kernel_rfl) (by kernel_rfl)) (by kernel_rfl) (by kernel_rfl)
end Go.Proofs.YtpmnnnbkbcpgjaaGreatDoor
