import Derived.Test.YtpmnnnbkbcpgjaaGreatDoorQBa
/- The beginning of a list. -/
namespace Go.Proofs.YtpmnnnbkbcpgjaaGreatDoor
open Go.RowKit

theorem run_cut_h (w : World) (A : Option Addr) (n c : Nat) (H : Int) (h : Nat) (hH : H = h) (h2 : h ≤ c) :
    (Instr.slice 36 (.slice A n c) none (some (.int .i64 H)) none).run Tryz.prog w = .ok (.slice A h c) w := by
  subst hH
  have hs : (sizeOf (Tryz.prog.elem 36)).run Tryz.prog w = .ok 1 w := by kernel_rfl
  rw [run_slice_h w 36 A n c (by kernel_rfl) .i64 h (by omega) (by omega), hs]
  have e : (if c = 0 then A else Option.map (fun x : Addr => x.add 0) A) = A := by
    split
    · rfl
    · cases A with
      | none => rfl
      | some a => rfl
  simp only [Result.andThen, sliced, Int.toNat_natCast, Nat.zero_mul, Nat.sub_zero]
  rw [e]
end Go.Proofs.YtpmnnnbkbcpgjaaGreatDoor
