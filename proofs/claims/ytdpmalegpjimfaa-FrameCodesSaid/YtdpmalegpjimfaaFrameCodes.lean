/- FrameCodes. -/
import Derived.Test.YtdpmalegpjimfaaRefFrameWalk
namespace Go.Proofs.Ytdpmalegpjimfaa
open Go.RowKit

set_option maxRecDepth 100000 in
theorem frameCodes_calls (place : Nat) (hpl : place ≤ 18446744073709551615) (A : Option Addr) (p : List UInt8) (c : Nat) (w : World) (hp : RB w A c p) (hl : p.length ≤ 140737488355328) :
    Calls Try.prog 7 #[.int .u64 place, .slice A p.length c] w fun e w' => e = .returned (.bool true) ∧ Below w.heap.size w w' := by
  have hm := fun A1 c1 w' (h : RB w' A1 c1 p) => made_calls place hpl A1 p p.length c1 w' h rfl hl
  have hd := fun w' (h : RB w' A c p) => docEncode_calls place hpl A p p.length c w' h rfl hl
  generalize encF place p = r at *
  have HM := Lib.hid hm
  have HD := Lib.hid hd
  have HE := Lib.hid (show (r.1 == r.1) = true by simp)
  clear hm hd
  go_enter Try.func7, Try.ntmps7
  go_wp2_with (first
    | (go_at_call 26; (with_reducible refine (fawake_calls _).mono ?_); rintro e0 w0 ⟨rfl, hb0⟩)
    | (go_at_call 28; (with_reducible refine (twinR A p p.length c _ (hp.new hb0) rfl hl).mono ?_); rintro e1 w1 ⟨A1, c1, rfl, hn1⟩; have B1 := Lib.hid (below_then hb0 hn1.below))
    | (go_at_call 27; (with_reducible refine (HM.out A1 c1 _ hn1.own.rb).mono ?_); rintro e2 w2 ⟨A2, c2, rfl, hn2⟩; have B2 := Lib.hid (below_then B1.out hn2.below))
    | (go_at_call 29; (with_reducible refine (HD.out _ (hp.new B2.out)).mono ?_); rintro e3 w3 ⟨A3, c3, rfl, hn3⟩)
    | (go_at_call 22; (with_reducible refine (sameR A2 A3 r.1 r.1 r.1.length r.1.length c2 c3 _ (hn2.own.rb.new hn3.below) hn3.own.rb rfl rfl true HE.out).mono ?_); rintro e4 w4 ⟨rfl, hd4⟩))
  go_ret
  exact ⟨rfl, (below_then B2.out hn3.below).trans (hd4.below _)⟩
theorem frameCodes_row (a : Int) (h0 : 0 ≤ a) (h1 : a ≤ 18446744073709551615) (A : Option Addr) (p : List UInt8) (c : Nat) (w : World) (hp : RB w A c p) (hl : p.length ≤ 140737488355328) :
    Calls Try.prog 7 #[.int .u64 a, .slice A p.length c] w fun e w' => e = .returned (.bool true) ∧ Below w.heap.size w w' := by
  obtain ⟨n, rfl⟩ := Int.eq_ofNat_of_zero_le h0
  exact frameCodes_calls n (by omega) A p c w hp hl
end Go.Proofs.Ytdpmalegpjimfaa
