import Derived.Test.YtlcbjjgmkllceaaQKeepWrites
import Derived.Test.YtlcbjjgmkllceaaQKeepReads
import Derived.Test.YtlcbjjgmkllceaaQWireLaws
/- The walk of notarylaw01.WireKeeps. -/
namespace Go.Proofs.Ytlcbjjgmkllceaa
open Go.RowKit

set_option maxRecDepth 100000 in
theorem wireKeeps_calls (A0 : Option Addr) (P : List UInt8) (c0 n0 : Nat) (A : Option Addr) (l : List OpV) (n c : Nat) (w : World) (hp : RB w A0 c0 P) (hn0 : n0 = P.length) (hl2 : P.length ≤ 1048576) (h : Ops w A l) (hn : n = l.length) (hs : bulkOps l ≤ 1048576) :
    Calls Try.prog 4 #[.slice A0 n0 c0, .slice A n c] w fun e w' => e = .returned (.bool true) ∧ Below w.heap.size w w' := by
  have HN := Lib.hid hn
  have HN0 := Lib.hid hn0
  clear hn hn0
  go_enter Try.func4, Try.ntmps4
  go_wp2_with (first
    | (go_at_call 15; (with_reducible refine (awake_calls _).mono ?_); rintro e0 w0 ⟨rfl, hb0⟩; have HB0 := Lib.hid hb0; clear hb0)
    | (go_at_call 16; go_loud (with_reducible refine (keepWrites_calls A l n c w0 (h.new HB0.out) HN.out hs).mono ?_); rintro e1 w1 ⟨rfl, hb1⟩; have HB1 := Lib.hid (below_then HB0.out hb1); clear hb1)
    | (go_at_call 17; go_loud (with_reducible refine (keepReads_calls A0 P c0 n0 A l n c w1 (hp.new HB1.out) HN0.out hl2 (h.new HB1.out) HN.out hs).mono ?_); rintro e2 w2 ⟨rfl, hb2⟩; have HB2 := Lib.hid (below_then HB1.out hb2); clear hb2))
  go_ret
  exact ⟨rfl, HB2.out⟩
end Go.Proofs.Ytlcbjjgmkllceaa
