/- Writers and readers that are nil: their calls. -/
import Derived.Test.YtdpmalegpjimfabWireTells
namespace Go.Proofs.Ytdpmalegpjimfab
open Go.RowKit

theorem add_nil (A : Option Addr) (n c : Nat) (w : World) : Calls Try.prog 82 #[.pointer none, .slice A n c] w fun e w' => e = .returned (.tuple #[]) ∧ w = w' := by
  go_enter Try.func82, Try.ntmps82
  go_wp2
  go_end0
  exact ⟨rfl, rfl⟩
theorem wide_nil (v : Int) (_h0 : 0 ≤ v) (_hv : v ≤ 18446744073709551615) (N : Int) (n : Nat) (hN : N = n) (hn : n ≤ 8) (w : World) :
    Calls Try.prog 78 #[.pointer none, .int .u64 v, .int .i64 N] w fun e w' => e = .returned (.tuple #[]) ∧ Below w.heap.size w w' := by
  subst hN
  go_enter Try.func78, Try.ntmps78
  go_wp2
  go_loopw [6] (fun i wr => ∃ j : Nat, j ≤ n ∧ i = .int .i64 ((j : Int) - 1) ∧ Below w.heap.size w wr) (fun i _ => (intOf i + 1).toNat)
  case atStart => exact ⟨n, Nat.le_refl _, rfl, Below.refl _ _⟩
  case round =>
    obtain ⟨j, hj, rfl, HB⟩ := hrel
    cases j with
    | zero =>
      go_wp2
      go_end0
      exact ⟨rfl, HB⟩
    | succ i =>
      go_wp2_with (go_at_call 82; (with_reducible refine (add_nil _ _ _ _).mono ?_); rintro e w2 ⟨rfl, rfl⟩)
      go_roundw
      case rel => exact ⟨i, by omega, (by first | rfl | go_num), belowA HB _⟩
      case measure => simp [intOf] <;> omega
theorem u8_nil (v : Int) (w : World) : Calls Try.prog 58 #[.pointer none, .int .u8 v] w fun e w' => e = .returned (.tuple #[]) ∧ Below w.heap.size w w' := by
  go_enter Try.func58, Try.ntmps58
  go_wp2_with (go_at_call 82; (with_reducible refine (add_nil _ _ _ _).mono ?_); rintro e w2 ⟨rfl, rfl⟩)
  go_end0
  exact ⟨rfl, belowA (Below.refl _ _) _⟩
theorem u16_nil (v : Int) (h0 : 0 ≤ v) (hv : v ≤ 65535) (w : World) : Calls Try.prog 45 #[.pointer none, .int .u16 v] w fun e w' => e = .returned (.tuple #[]) ∧ Below w.heap.size w w' := by
  have HN := Lib.hid (show (2 : Int) = ((2 : Nat) : Int) from rfl)
  go_enter Try.func45, Try.ntmps45
  go_wp2_with (go_at_call 78; (with_reducible refine (wide_nil v h0 (by omega) 2 2 HN.out (by omega) _).mono ?_); rintro e w2 ⟨rfl, hb⟩)
  go_end0
  exact ⟨rfl, hb⟩
theorem u32_nil (v : Int) (h0 : 0 ≤ v) (hv : v ≤ 4294967295) (w : World) : Calls Try.prog 59 #[.pointer none, .int .u32 v] w fun e w' => e = .returned (.tuple #[]) ∧ Below w.heap.size w w' := by
  have HN := Lib.hid (show (4 : Int) = ((4 : Nat) : Int) from rfl)
  go_enter Try.func59, Try.ntmps59
  go_wp2_with (go_at_call 78; (with_reducible refine (wide_nil v h0 (by omega) 4 4 HN.out (by omega) _).mono ?_); rintro e w2 ⟨rfl, hb⟩)
  go_end0
  exact ⟨rfl, hb⟩
theorem u64_nil (v : Int) (h0 : 0 ≤ v) (hv : v ≤ 18446744073709551615) (w : World) : Calls Try.prog 60 #[.pointer none, .int .u64 v] w fun e w' => e = .returned (.tuple #[]) ∧ Below w.heap.size w w' := by
  have HN := Lib.hid (show (8 : Int) = ((8 : Nat) : Int) from rfl)
  go_enter Try.func60, Try.ntmps60
  go_wp2_with (go_at_call 78; (with_reducible refine (wide_nil v h0 hv 8 8 HN.out (by omega) _).mono ?_); rintro e w2 ⟨rfl, hb⟩)
  go_end0
  exact ⟨rfl, hb⟩
set_option maxRecDepth 100000 in
theorem uvar_nil (v : Nat) (hv : v ≤ 18446744073709551615) (w : World) : Calls Try.prog 55 #[.pointer none, .int .u64 v] w fun e w' => e = .returned (.tuple #[]) ∧ Below w.heap.size w w' := by
  go_enter Try.func55, Try.ntmps55
  go_wp2
  go_loopw [1] (fun i wr => ∃ x : Nat, x ≤ v ∧ i = .int .u64 x ∧ Below w.heap.size w wr) (fun i _ => (intOf i).toNat)
  case atStart => exact ⟨v, Nat.le_refl _, rfl, Below.refl _ _⟩
  case round =>
    obtain ⟨x, hx, rfl, HB⟩ := hrel
    by_cases hlt : x < 128
    · go_wp2_with (go_at_call 82; (with_reducible refine (add_nil _ _ _ _).mono ?_); rintro e w2 ⟨rfl, rfl⟩)
      go_end0
      exact ⟨rfl, belowA HB _⟩
    · go_wp2_with (go_at_call 82; (with_reducible refine (add_nil _ _ _ _).mono ?_); rintro e w2 ⟨rfl, rfl⟩)
      go_roundw
      case rel => exact ⟨x / 128, by omega, (by first | rfl | go_num), belowA HB _⟩
      case measure => simp [intOf] <;> omega
theorem raw_nil (A : Option Addr) (n c : Nat) (w : World) : Calls Try.prog 61 #[.pointer none, .slice A n c] w fun e w' => e = .returned (.tuple #[]) ∧ Below w.heap.size w w' := by
  go_enter Try.func61, Try.ntmps61
  go_wp2_with (go_at_call 82; (with_reducible refine (add_nil _ _ _ _).mono ?_); rintro e w2 ⟨rfl, rfl⟩)
  go_end0
  exact ⟨rfl, Below.refl _ _⟩
theorem blob_nil (A : Option Addr) (n c : Nat) (hn : n ≤ 9223372036854775807) (w : World) : Calls Try.prog 62 #[.pointer none, .slice A n c] w fun e w' => e = .returned (.tuple #[]) ∧ Below w.heap.size w w' := by
  go_enter Try.func62, Try.ntmps62
  go_wp2_with (first
    | (go_at_call 55; (with_reducible refine (uvar_nil n (by omega) _).mono ?_); rintro e w2 ⟨rfl, hb2⟩)
    | (go_at_call 61; (with_reducible refine (raw_nil A n c _).mono ?_); rintro e w3 ⟨rfl, hb3⟩))
  go_end0
  exact ⟨rfl, below_then hb2 hb3⟩
theorem bytes_nil (w : World) : Calls Try.prog 27 #[.pointer none] w fun e w' => e = .returned (.slice none 0 0) ∧ w = w' := by
  go_enter Try.func27, Try.ntmps27
  go_wp2
  go_ret
  exact ⟨rfl, rfl⟩
theorem len_nil (w : World) : Calls Try.prog 26 #[.pointer none] w fun e w' => e = .returned (.int .i64 0) ∧ w = w' := by
  go_enter Try.func26, Try.ntmps26
  go_wp2
  go_ret
  exact ⟨rfl, rfl⟩
theorem take_nil (n : Int) (w : World) : Calls Try.prog 77 #[.pointer none, .int .i64 n] w fun e w' => e = .returned (.slice none 0 0) ∧ w = w' := by
  go_enter Try.func77, Try.ntmps77
  go_wp2
  go_ret
  exact ⟨rfl, rfl⟩
theorem number_nil (n : Int) (w : World) : Calls Try.prog 79 #[.pointer none, .int .i64 n] w fun e w' => e = .returned (.int .u64 0) ∧ w = w' := by
  go_enter Try.func79, Try.ntmps79
  go_wp2_with (go_at_call 77; (with_reducible refine (take_nil _ _).mono ?_); rintro e2 w2 ⟨rfl, rfl⟩)
  refine wp_loop_rounds 1 ?_
  rw [rounds_succ]
  go_wp2
  go_ret
  exact ⟨rfl, rfl⟩
theorem ru8_nil (w : World) : Calls Try.prog 49 #[.pointer none] w fun e w' => e = .returned (.int .u8 0) ∧ w = w' := by
  go_enter Try.func49, Try.ntmps49
  go_wp2_with (go_at_call 79; (with_reducible refine (number_nil _ _).mono ?_); rintro e2 w2 ⟨rfl, rfl⟩)
  go_ret
  exact ⟨rfl, rfl⟩
theorem ru16_nil (w : World) : Calls Try.prog 47 #[.pointer none] w fun e w' => e = .returned (.int .u16 0) ∧ w = w' := by
  go_enter Try.func47, Try.ntmps47
  go_wp2_with (go_at_call 79; (with_reducible refine (number_nil _ _).mono ?_); rintro e2 w2 ⟨rfl, rfl⟩)
  go_ret
  exact ⟨rfl, rfl⟩
theorem ru32_nil (w : World) : Calls Try.prog 50 #[.pointer none] w fun e w' => e = .returned (.int .u32 0) ∧ w = w' := by
  go_enter Try.func50, Try.ntmps50
  go_wp2_with (go_at_call 79; (with_reducible refine (number_nil _ _).mono ?_); rintro e2 w2 ⟨rfl, rfl⟩)
  go_ret
  exact ⟨rfl, rfl⟩
theorem ru64_nil (w : World) : Calls Try.prog 51 #[.pointer none] w fun e w' => e = .returned (.int .u64 0) ∧ w = w' := by
  go_enter Try.func51, Try.ntmps51
  go_wp2_with (go_at_call 79; (with_reducible refine (number_nil _ _).mono ?_); rintro e2 w2 ⟨rfl, rfl⟩)
  go_ret
  exact ⟨rfl, rfl⟩
theorem ruvar_nil (w : World) : Calls Try.prog 56 #[.pointer none] w fun e w' => e = .returned (.int .u64 0) ∧ w = w' := by
  go_enter Try.func56, Try.ntmps56
  go_wp2
  go_ret
  exact ⟨rfl, rfl⟩
theorem rraw_nil (n : Int) (w : World) : Calls Try.prog 44 #[.pointer none, .int .i64 n] w fun e w' => e = .returned (.slice none 0 0) ∧ w = w' := by
  go_enter Try.func44, Try.ntmps44
  go_wp2
  go_ret
  exact ⟨rfl, rfl⟩
theorem rblob_nil (n : Int) (w : World) : Calls Try.prog 63 #[.pointer none, .int .i64 n] w fun e w' => e = .returned (.slice none 0 0) ∧ w = w' := by
  go_enter Try.func63, Try.ntmps63
  go_wp2
  go_ret
  exact ⟨rfl, rfl⟩
theorem at_nil (w : World) : Calls Try.prog 25 #[.pointer none] w fun e w' => e = .returned (.int .i64 0) ∧ w = w' := by
  go_enter Try.func25, Try.ntmps25
  go_wp2
  go_ret
  exact ⟨rfl, rfl⟩
theorem err_nil (w : World) : Calls Try.prog 30 #[.pointer none] w fun e w' => e = .returned (.int .i64 5) ∧ w = w' := by
  go_enter Try.func30, Try.ntmps30
  go_wp2
  go_ret
  exact ⟨rfl, rfl⟩
theorem done_nil (w : World) : Calls Try.prog 24 #[.pointer none] w fun e w' => e = .returned (.int .i64 5) ∧ Drawn w w' := by
  go_enter Try.func24, Try.ntmps24
  go_wp2_with (go_at_call 30; (with_reducible refine (err_nil _).mono ?_); rintro e w2 ⟨rfl, rfl⟩)
  go_quiet (fail)
  go_wp2
  go_ret
  exact ⟨rfl, _, rfl⟩
/-- a thing laid in no writer -/
theorem wlay_nil (k : Int) (v : Nat) (n : Int) (A : Option Addr) (m c : Nat) (hv : v ≤ 18446744073709551615) (hm : m ≤ 9223372036854775807) (w : World) :
    Calls Try.prog 28 #[.pointer none, .agg #[.int .i64 k, .int .u64 v, .int .i64 n, .slice A m c]] w fun e w' => e = .returned (.tuple #[]) ∧ Below w.heap.size w w' := by
  have HB := Lib.hid (below_alloc1 (Below.refl w.heap.size w) (Nat.le_refl _) (.cells #[.int .i64 k, .int .u64 v, .int .i64 n, .slice A m c] 60))
  have h16 := wrap16 v
  rcases kinds k with rfl | rfl | rfl | rfl | rfl | rfl | rfl | ⟨b1, b2, b3, b4, b5, b6, b7⟩
  · go_enter Try.func28, Try.ntmps28
    go_wp2_with (go_at_call 58; (with_reducible refine (u8_nil _ _).mono ?_); rintro e1 w1 ⟨rfl, hb1⟩)
    go_end0
    exact ⟨rfl, below_then HB.out hb1⟩
  · have H16 := Lib.hid h16
    clear h16
    go_enter Try.func28, Try.ntmps28
    go_wp2_with (go_at_call 45; (with_reducible refine (u16_nil _ (by rw [H16.out]; omega) (by rw [H16.out]; omega) _).mono ?_); rintro e1 w1 ⟨rfl, hb1⟩)
    go_end0
    exact ⟨rfl, below_then HB.out hb1⟩
  · go_enter Try.func28, Try.ntmps28
    go_wp2_with (go_at_call 59; (with_reducible refine (u32_nil ((v : Int) % 4294967296) (by omega) (by omega) _).mono ?_); rintro e1 w1 ⟨rfl, hb1⟩)
    go_end0
    exact ⟨rfl, below_then HB.out hb1⟩
  · go_enter Try.func28, Try.ntmps28
    go_wp2_with (go_at_call 60; (with_reducible refine (u64_nil (v : Int) (by omega) (by omega) _).mono ?_); rintro e1 w1 ⟨rfl, hb1⟩)
    go_end0
    exact ⟨rfl, below_then HB.out hb1⟩
  · go_enter Try.func28, Try.ntmps28
    go_wp2_with (go_at_call 55; (with_reducible refine (uvar_nil v hv _).mono ?_); rintro e1 w1 ⟨rfl, hb1⟩)
    go_end0
    exact ⟨rfl, below_then HB.out hb1⟩
  · go_enter Try.func28, Try.ntmps28
    go_wp2_with (go_at_call 61; (with_reducible refine (raw_nil A m c _).mono ?_); rintro e1 w1 ⟨rfl, hb1⟩)
    go_end0
    exact ⟨rfl, below_then HB.out hb1⟩
  · go_enter Try.func28, Try.ntmps28
    go_wp2_with (go_at_call 62; (with_reducible refine (blob_nil A m c hm _).mono ?_); rintro e1 w1 ⟨rfl, hb1⟩)
    go_end0
    exact ⟨rfl, below_then HB.out hb1⟩
  · clear h16
    go_enter Try.func28, Try.ntmps28
    go_wp2
    go_end0
    exact ⟨rfl, HB.out⟩
/-- a thing taken off no reader -/
theorem wtake_nil (k : Int) (v : Nat) (n : Int) (A : Option Addr) (m c : Nat) (w : World) :
    Calls Try.prog 29 #[.pointer none, .agg #[.int .i64 k, .int .u64 v, .int .i64 n, .slice A m c]] w fun e w' => e = .returned (.tuple #[.int .u64 0, .slice none 0 0]) ∧ Below w.heap.size w w' := by
  have HB := Lib.hid (below_alloc1 (Below.refl w.heap.size w) (Nat.le_refl _) (.cells #[.int .i64 k, .int .u64 v, .int .i64 n, .slice A m c] 60))
  rcases kinds k with rfl | rfl | rfl | rfl | rfl | rfl | rfl | ⟨b1, b2, b3, b4, b5, b6, b7⟩
  all_goals
    go_enter Try.func29, Try.ntmps29
    go_wp2_with (first
      | (go_at_call 49; (with_reducible refine (ru8_nil _).mono ?_); rintro e1 w1 ⟨rfl, rfl⟩)
      | (go_at_call 47; (with_reducible refine (ru16_nil _).mono ?_); rintro e1 w1 ⟨rfl, rfl⟩)
      | (go_at_call 50; (with_reducible refine (ru32_nil _).mono ?_); rintro e1 w1 ⟨rfl, rfl⟩)
      | (go_at_call 51; (with_reducible refine (ru64_nil _).mono ?_); rintro e1 w1 ⟨rfl, rfl⟩)
      | (go_at_call 56; (with_reducible refine (ruvar_nil _).mono ?_); rintro e1 w1 ⟨rfl, rfl⟩)
      | (go_at_call 44; (with_reducible refine (rraw_nil _ _).mono ?_); rintro e1 w1 ⟨rfl, rfl⟩)
      | (go_at_call 63; (with_reducible refine (rblob_nil _ _).mono ?_); rintro e1 w1 ⟨rfl, rfl⟩))
    go_ret2
    exact ⟨rfl, HB.out⟩
end Go.Proofs.Ytdpmalegpjimfab
