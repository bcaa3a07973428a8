/- The statements of the check sum, each called with data of its parameters' types: the call returns true and what stood stands. -/
import Derived.Test.YtfkbdchpncadoaaRefCrcWalk
import Derived.Test.YtfkbdchpncadoaaMemWalk
import Derived.Lib.SlBytesConst
namespace Go.Proofs.Ytfkbdchpncadoaa
open Go.RowKit
open CrcMath (W)

theorem conv_lit (w : World) (C : Array Value) (n c g : Nat) (hg : g = w.heap.size) : (convert 23 23 (.slice (some ⟨g, 0, none⟩) n c)).run Try.prog (w.alloc (.cells C 5)) = .ok (.slice (some ⟨g, 0, none⟩) n c) (w.alloc (.cells C 5 (C.size, C.size + 1))) := by
  subst hg
  exact Lib.run_convert_bytes_const (P := Try.prog) w 23 5 C n c Try.underlying23 Try.underlying5
theorem sum_lit (w : World) : Calls Try.prog 16 #[.slice (some ⟨w.heap.size, 0, none⟩) 9 9] (w.alloc (.cells #[.int .u8 49, .int .u8 50, .int .u8 51, .int .u8 52, .int .u8 53, .int .u8 54, .int .u8 55, .int .u8 56, .int .u8 57] 5 (9, 10))) fun e w' => e = .returned (.int .u32 3808858755) ∧ w.alloc (.cells #[.int .u8 49, .int .u8 50, .int .u8 51, .int .u8 52, .int .u8 53, .int .u8 54, .int .u8 55, .int .u8 56, .int .u8 57] 5 (9, 10)) = w' := by
  have h := sum_calls (some ⟨w.heap.size, 0, none⟩) [49, 50, 51, 52, 53, 54, 55, 56, 57] 9 _ (RB.lit w 5 (9, 10) #[.int .u8 49, .int .u8 50, .int .u8 51, .int .u8 52, .int .u8 53, .int .u8 54, .int .u8 55, .int .u8 56, .int .u8 57] [49, 50, 51, 52, 53, 54, 55, 56, 57] (by kernel_rfl) 9 rfl (by decide))
  exact h.mono fun e w' ⟨h1, h2⟩ => ⟨h1.trans (ret_int (by decide +kernel)), h2⟩
theorem update_lit (w : World) (g : Nat) (hg : g = w.heap.size) : Calls Try.prog 13 #[.int .u32 3251651376, .slice (some ⟨g, 0, none⟩) 2 2] (w.alloc (.cells #[.int .u8 98, .int .u8 99] 5 (2, 3))) fun e w' => e = .returned (.int .u32 910901175) ∧ w.alloc (.cells #[.int .u8 98, .int .u8 99] 5 (2, 3)) = w' := by
  subst hg
  have h := update_calls 3251651376#32 (some ⟨w.heap.size, 0, none⟩) [98, 99] 2 _ (RB.lit w 5 (2, 3) #[.int .u8 98, .int .u8 99] [98, 99] (by kernel_rfl) 2 rfl (by decide))
  rw [show uI 3251651376#32 = 3251651376 by decide +kernel] at h
  exact h.mono fun e w' ⟨h1, h2⟩ => ⟨h1.trans (ret_int (by decide +kernel)), h2⟩
theorem join_lit (w : World) : Calls Try.prog 18 #[.int .u32 1, .int .u32 2, .int .i64 0] w fun e w' => e = .returned (.int .u32 3) ∧ Below w.heap.size w w' := by
  have h := join_calls 1#32 2#32 0 (by decide) (by decide) w
  rw [show uI 1#32 = 1 by decide +kernel, show uI 2#32 = 2 by decide +kernel] at h
  exact h.mono fun e w' ⟨h1, h2⟩ => ⟨h1.trans (ret_int (by decide +kernel)), h2⟩

theorem awake_calls (w : World) : Calls Try.prog 12 #[] w fun e w' => e = .returned (.bool true) ∧ Below w.heap.size w w' := by
  have kc := conv_lit
  go_enter Try.func12, Try.ntmps12
  go_wp2_with (first | (go_at_call 16; (with_reducible refine (sum_lit _).mono ?_); rintro e w' ⟨rfl, rfl⟩) | (go_at_call 13; (with_reducible refine (update_lit _ _ (by simp)).mono ?_); rintro e w' ⟨rfl, rfl⟩) | (go_at_call 18; (with_reducible refine (join_lit _).mono ?_); rintro e w2 ⟨rfl, hb⟩))
  go_ret
  exact ⟨rfl, (((Below.refl _ _).alloc (Nat.le_refl _) _).alloc (by simp) _).trans (hb.mono (by simp; omega))⟩

/-- what each law's walk takes: calls in a row, each in the world behind the last -/
theorem below_new {w w1 w2 : World} (h : Below w.heap.size w w1) (k : Below w1.heap.size w1 w2) : Below w.heap.size w w2 := h.trans (k.mono h.size)

theorem crcUpdates_calls (c : W) (A : Option Addr) (p : List UInt8) (cap : Nat) (w : World) (hp : RB w A cap p) (hl : p.length ≤ 140737488355328) :
    Calls Try.prog 3 #[.int .u32 (uI c), .slice A p.length cap] w fun e w' => e = .returned (.bool true) ∧ Below w.heap.size w w' := by
  go_enter Try.func3, Try.ntmps3
  go_wp2_with (first | (go_at_call 12; (with_reducible refine (awake_calls _).mono ?_); rintro e w1 ⟨rfl, HB⟩; replace hp := hp.new HB) | (go_at_call 14; (with_reducible refine (twin_calls A p cap _ hp hl).mono ?_); rintro e w2 ⟨A', c', rfl, hn2⟩; replace hp := hp.new hn2.below; replace HB := below_new HB hn2.below) | (go_at_call 13; (with_reducible refine (update_calls c _ p _ _ hn2.own.reads).mono ?_); rintro e w' ⟨rfl, rfl⟩) | (go_at_call 15; (with_reducible refine (refupdate_calls c _ p _ _ hp).mono ?_); rintro e w' ⟨rfl, rfl⟩) | (go_at_call 16; (with_reducible refine (sum_calls _ p _ _ hn2.own.reads).mono ?_); rintro e w' ⟨rfl, rfl⟩) | (go_at_call 17; (with_reducible refine (refsum_calls _ p _ _ hp).mono ?_); rintro e w' ⟨rfl, rfl⟩))
  go_ret
  exact ⟨rfl, HB⟩

theorem crcJoins_calls (a b : W) (n : Int) (h0 : -9223372036854775808 ≤ n) (h1 : n ≤ 9223372036854775807) (w : World) :
    Calls Try.prog 4 #[.int .u32 (uI a), .int .u32 (uI b), .int .i64 n] w fun e w' => e = .returned (.bool true) ∧ Below w.heap.size w w' := by
  go_enter Try.func4, Try.ntmps4
  go_wp2_with (first | (go_at_call 12; (with_reducible refine (awake_calls _).mono ?_); rintro e w1 ⟨rfl, HB⟩) | (go_at_call 18; (with_reducible refine (join_calls a b n h0 h1 _).mono ?_); rintro e w2 ⟨rfl, hb2⟩; replace HB := below_new HB hb2) | (go_at_call 19; (with_reducible refine (refjoin_calls a b n h0 h1 _).mono ?_); rintro e w' ⟨rfl, rfl⟩))
  go_ret
  exact ⟨rfl, HB⟩
end Go.Proofs.Ytfkbdchpncadoaa
