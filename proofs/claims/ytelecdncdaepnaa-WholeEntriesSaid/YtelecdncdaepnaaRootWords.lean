/- Layer 5: roots: widths. -/
import Derived.Test.YtelecdncdaepnaaAwake5
namespace Go.Proofs.Ytelecdncdaepnaa
open Go.RowKit

def wideF (w : Int) : Nat := if w < 1 ∨ 32 < w then 1 else 0
theorem ewide_calls (n : Int) (w : World) : Calls Try.prog 76 #[.int .i64 n] w fun r w' => r = .returned (.int .i64 (wideF n)) ∧ w = w' := by
  by_cases h1 : n < 1
  · have HF := Lib.hid (show (1 : Int) = (wideF n : Nat) by unfold wideF; rw [if_pos (.inl h1)]; rfl)
    go_enter Try.func76, Try.ntmps76
    go_wp2
    go_ret
    exact ⟨by rw [← HF.out]; rfl, rfl⟩
  · by_cases h2 : 32 < n
    · have HF := Lib.hid (show (1 : Int) = (wideF n : Nat) by unfold wideF; rw [if_pos (.inr h2)]; rfl)
      go_enter Try.func76, Try.ntmps76
      go_wp2
      go_ret
      exact ⟨by rw [← HF.out]; rfl, rfl⟩
    · have HF := Lib.hid (show (0 : Int) = (wideF n : Nat) by unfold wideF; rw [if_neg (by omega)]; rfl)
      go_enter Try.func76, Try.ntmps76
      go_wp2
      go_ret
      exact ⟨by rw [← HF.out]; rfl, rfl⟩
theorem dwidth_calls (n : Int) (w : World) (r : Bool) (hr : decide (1 ≤ n ∧ n ≤ 32) = r) : Calls Try.prog 100 #[.int .i64 n] w fun e w' => e = .returned (.bool r) ∧ w = w' := by
  by_cases h1 : 1 ≤ n
  · by_cases h2 : n ≤ 32
    · obtain rfl : r = true := by rw [← hr]; simp [h1, h2]
      clear hr
      go_enter Try.func100, Try.ntmps100
      go_wp2
      go_ret
      exact ⟨rfl, rfl⟩
    · obtain rfl : r = false := by rw [← hr]; simp [h2]
      clear hr
      go_enter Try.func100, Try.ntmps100
      go_wp2
      go_ret
      exact ⟨rfl, rfl⟩
  · obtain rfl : r = false := by rw [← hr]; simp [h1]
    clear hr
    go_enter Try.func100, Try.ntmps100
    go_wp2
    go_ret
    exact ⟨rfl, rfl⟩
end Go.Proofs.Ytelecdncdaepnaa
