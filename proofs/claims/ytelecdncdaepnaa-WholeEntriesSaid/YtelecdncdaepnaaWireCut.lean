/- The beginning of a list. -/
import Derived.Test.YtelecdncdaepnaaMemWalk
namespace Go.Proofs.Ytelecdncdaepnaa
open Go.RowKit

theorem run_cut_h (w : World) (A : Option Addr) (n c : Nat) (H : Int) (h : Nat) (hH : H = h) (h2 : h ≤ c) :
    (Instr.slice 24 (.slice A n c) none (some (.int .i64 H)) none).run Try.prog w = .ok (.slice A h c) w := by
  subst hH
  have hs : (sizeOf (Try.prog.elem 24)).run Try.prog w = .ok 1 w := by kernel_rfl
  rw [run_slice_h w 24 A n c (by kernel_rfl) .i64 h (by omega) (by omega), hs]
  have e : (if c = 0 then A else Option.map (fun x : Addr => x.add 0) A) = A := by
    split
    · rfl
    · cases A with
      | none => rfl
      | some a => rfl
  simp only [Result.andThen, sliced, Int.toNat_natCast, Nat.zero_mul, Nat.sub_zero]
  rw [e]
end Go.Proofs.Ytelecdncdaepnaa
