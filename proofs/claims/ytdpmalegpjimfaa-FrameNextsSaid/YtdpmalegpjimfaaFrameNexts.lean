/- FrameNexts. -/
import Derived.Test.YtdpmalegpjimfaaDocNextWalk
namespace Go.Proofs.Ytdpmalegpjimfaa
open Go.RowKit

set_option maxHeartbeats 400000 in
set_option maxRecDepth 100000 in
theorem frameNexts_calls (A : Option Addr) (P : List UInt8) (n c : Nat) (at_ : Int) (hat : -9223372036854775808 ≤ at_ ∧ at_ ≤ 9223372036854775807) (w : World) (hp : RB w A c P) (hn : n = P.length) (hl : P.length ≤ 140737488355328) :
    Calls Try.prog 8 #[.slice A n c, .int .i64 at_] w fun e w' => e = .returned (.bool true) ∧ Below w.heap.size w w' := by
  subst hn
  have h1 := Lib.hid (fun w' A' c' (h : RB w' A' c' P) => next_calls A' P P.length c' at_ hat w' h rfl (by omega))
  have h2 := Lib.hid (fun w' (h : RB w' A c P) => docNext_calls A P P.length c at_ hat w' h rfl hl)
  generalize nextF P at_ = r at *
  go_enter Try.func8, Try.ntmps8
  go_wp2_with (first
    | (go_at_call 26; (with_reducible refine (fawake_calls _).mono ?_); rintro e0 w0 ⟨rfl, hb0⟩)
    | (go_at_call 28; (with_reducible refine (twinR A P P.length c _ (hp.new hb0) rfl hl).mono ?_); rintro e1 w1 ⟨A1, c1, rfl, hn1⟩)
    | (go_at_call 30; go_loud (with_reducible refine (h1.out _ A1 c1 hn1.own.rb).mono ?_); rintro e2 w2 ⟨A2, c2, rfl, hn2⟩; have B2 := Lib.hid (below_then (below_then hb0 hn1.below) hn2.below); have hb2 := below_alloc1 (Below.refl w2.heap.size w2) (Nat.le_refl _) (.cells #[.int .u64 r.place, .slice A2 r.payload.length c2] 53); have q2 := Pair.fresh w2 (.int .u64 r.place) (.slice A2 r.payload.length c2) 53)
    | (go_at_call 31; go_loud (with_reducible refine (h2.out _ (hp.new (below_then B2.out hb2))).mono ?_); rintro e3 w3 ⟨A3, c3, rfl, hn3⟩; have q3 := q2.new hn3.below; have y0 := q3.c0; have y1 := q3.c1; have hz3 := q3.lt)
    | (go_at_call 32; go_loud (with_reducible refine (fsameN r.place r.place _ _ A2 A3 r.payload r.payload _ _ c2 c3 _ (((hn2.own.rb.new hb2).new hn3.below).alloc _) (hn3.own.rb.alloc _) rfl rfl true (by simp) rfl rfl).mono ?_); rintro e4 w4 ⟨rfl, hb4⟩))
  go_ret
  exact ⟨ret_bool (by simp), below_then (belowA (below_then (below_then B2.out hb2) hn3.below) (.cells #[.int .u64 r.place, .slice A3 r.payload.length c3] 57)) hb4⟩
end Go.Proofs.Ytdpmalegpjimfaa
