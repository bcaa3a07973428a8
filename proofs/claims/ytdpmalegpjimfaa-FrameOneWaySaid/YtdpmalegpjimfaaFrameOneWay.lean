/- FrameOneWay. -/
import Derived.Test.YtdpmalegpjimfaaFrameLaws
namespace Go.Proofs.Ytdpmalegpjimfaa
open Go.RowKit
open FrameMath (laid)
theorem femptyN (a : Nat) (U : Int) (A : Option Addr) (p : List UInt8) (n c : Nat) (w : World) (hp : RB w A c p) (hn : n = p.length) (r : Bool) (hr : (decide (a = 0) && (p == [])) = r) (hU : U = a) :
    Calls Try.prog 34 #[.agg #[.int .u64 U, .slice A n c]] w fun e w' => e = .returned (.bool r) ∧ Below w.heap.size w w' := by
  subst hU; exact fempty_calls a A p n c w hp hn r hr

set_option maxRecDepth 100000 in
theorem frameOneWay_calls (A : Option Addr) (P : List UInt8) (c : Nat) (at_ : Int) (hat : -9223372036854775808 ≤ at_ ∧ at_ ≤ 9223372036854775807) (w : World) (hp : RB w A c P) (hl : P.length ≤ 140737488355328) :
    Calls Try.prog 10 #[.slice A P.length c, .int .i64 at_] w fun e w' => e = .returned (.bool true) ∧ Below w.heap.size w w' := by
  have hk0 := Lib.hid (show (0 : Int) = ((0 : Nat) : Int) from rfl)
  have hk1 := Lib.hid (show (1 : Int) = ((1 : Nat) : Int) from rfl)
  have hk2 := Lib.hid (show (2 : Int) = ((2 : Nat) : Int) from rfl)
  by_cases hk : (nextF P at_).kind = 1
  · obtain ⟨a, rfl, h1, h2, h3, h4, h5, h6⟩ := next_whole P at_ hk
    have hN : nextF P a = ⟨1, (nextF P a).place, (nextF P a).payload, (a : Int) + 17 + ((nextF P a).payload.length) + 1⟩ := by
      rw [← h4, ← hk]
    generalize (nextF P a).place = place at *
    generalize (nextF P a).payload = pay at *
    obtain ⟨m, hm⟩ : ∃ m, m = pay.length := ⟨_, rfl⟩
    rw [← hm] at h1 h2 h4 h5 h6 hN
    have hcap := hp.len
    have hsl := fun w' : World => run_cut w' A P.length c (a : Int) ((a : Int) + 17 + m + 1) a (a + (m + 18)) rfl (by omega) (by omega) (by omega)
    have hcw := hp.cut a (a + (m + 18)) (by omega) (by omega)
    rw [Nat.add_sub_cancel_left] at hsl hcw
    have HW := Lib.hid (show m + 18 = ((P.drop a).take (m + 18)).length by simp; omega)
    generalize (P.drop a).take (m + 18) = win at *
    have HCW := Lib.hid hcw
    have HN := Lib.hid hN
    have HL := Lib.hid h6
    have HM := Lib.hid hm
    have hE := Lib.hid (show (win == win) = true by simp)
    clear hcw hN h6 hm hk h4
    go_enter Try.func10, Try.ntmps10
    go_wp2_with (first
      | (go_at_call 26; (with_reducible refine (fawake_calls _).mono ?_); rintro e0 w0 ⟨rfl, hb0⟩)
      | (go_at_call 28; (with_reducible refine (twinR A P P.length c _ (hp.new hb0) rfl hl).mono ?_); rintro e1 w1 ⟨A1, c1, rfl, hn1⟩)
      | (go_at_call 30; (with_reducible refine (nextN A1 P P.length c1 a hat _ hn1.own.rb rfl hl 1 place m 1 place _ pay HN.out hk1.out rfl HM.out).mono ?_); rintro e2 w2 ⟨A2, c2, rfl, hn2⟩)
      | (go_at_call 27; (with_reducible refine (made_ok place place rfl h3 A2 pay win m (m + 18) c2 _ (hn2.own.rb.alloc _) HM.out (by rw [← HM.out]; exact h1) (by rw [← HM.out]; exact h2) (by rw [← HM.out]) HL.out).mono ?_); rintro e3 w3 ⟨A3, c3, rfl, hn3⟩; have hB3 := Lib.hid (below_then ((below_then (below_then hb0 hn1.below) hn2.below).alloc (below_then (below_then hb0 hn1.below) hn2.below).size _) hn3.below))
      | (go_at_call 22; (with_reducible refine (sameR A3 (cutA A a c) win win (m + 18) (m + 18) c3 (c - a) _ hn3.own.rb (HCW.out.new hB3.out) HW.out HW.out true hE.out).mono ?_); rintro e4 w4 ⟨rfl, hd4⟩))
    go_ret
    exact ⟨rfl, hB3.out.trans (hd4.below _)⟩
  · have ho := next_other P at_ hk
    by_cases hx : at_ = (P.length : Int)
    · have HN := Lib.hid (show nextF P at_ = ⟨0, 0, [], at_⟩ by rw [ho]; rw [if_pos hx]; rfl)
      have hab : (at_ == (P.length : Int)) = true := by rw [beq_iff_eq]; exact hx
      have h0 := Lib.hid (show 0 = ([] : List UInt8).length from rfl)
      clear ho hk hx
      go_enter Try.func10, Try.ntmps10
      go_wp2_with (first
        | (go_at_call 26; (with_reducible refine (fawake_calls _).mono ?_); rintro e0 w0 ⟨rfl, hb0⟩)
        | (go_at_call 28; (with_reducible refine (twinR A P P.length c _ (hp.new hb0) rfl hl).mono ?_); rintro e1 w1 ⟨A1, c1, rfl, hn1⟩)
        | (go_at_call 30; (with_reducible refine (nextN A1 P P.length c1 at_ hat _ hn1.own.rb rfl hl 0 0 0 0 0 at_ [] HN.out hk0.out hk0.out h0.out).mono ?_); rintro e2 w2 ⟨A2, c2, rfl, hn2⟩)
        | (go_at_call 34; go_loud (with_reducible refine (femptyN 0 0 A2 [] 0 c2 _ (hn2.own.rb.alloc _) h0.out true (by decide) hk0.out).mono ?_); rintro e3 w3 ⟨rfl, hb3⟩))
      go_ret
      have B2 := below_then (below_then hb0 hn1.below) hn2.below
      exact ⟨rfl, below_then (B2.alloc B2.size (.cells #[.int .u64 0, .slice A2 0 c2] 53)) hb3⟩
    · have HN := Lib.hid (show nextF P at_ = ⟨2, 0, [], at_⟩ by rw [ho]; rw [if_neg hx]; rfl)
      have hab : (at_ == (P.length : Int)) = false := by rw [beq_eq_false_iff_ne]; exact hx
      have h0 := Lib.hid (show 0 = ([] : List UInt8).length from rfl)
      clear ho hk hx
      go_enter Try.func10, Try.ntmps10
      go_wp2_with (first
        | (go_at_call 26; (with_reducible refine (fawake_calls _).mono ?_); rintro e0 w0 ⟨rfl, hb0⟩)
        | (go_at_call 28; (with_reducible refine (twinR A P P.length c _ (hp.new hb0) rfl hl).mono ?_); rintro e1 w1 ⟨A1, c1, rfl, hn1⟩)
        | (go_at_call 30; (with_reducible refine (nextN A1 P P.length c1 at_ hat _ hn1.own.rb rfl hl 2 0 0 2 0 at_ [] HN.out hk2.out hk0.out h0.out).mono ?_); rintro e2 w2 ⟨A2, c2, rfl, hn2⟩)
        | (go_at_call 34; go_loud (with_reducible refine (femptyN 0 0 A2 [] 0 c2 _ (hn2.own.rb.alloc _) h0.out true (by decide) hk0.out).mono ?_); rintro e3 w3 ⟨rfl, hb3⟩))
      go_ret
      have B2 := below_then (below_then hb0 hn1.below) hn2.below
      exact ⟨rfl, below_then (B2.alloc B2.size (.cells #[.int .u64 0, .slice A2 0 c2] 53)) hb3⟩
end Go.Proofs.Ytdpmalegpjimfaa
