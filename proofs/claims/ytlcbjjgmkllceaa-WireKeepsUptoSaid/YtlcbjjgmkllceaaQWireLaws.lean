import Derived.Test.YtlcbjjgmkllceaaQBa
/- What the laws of layer 1 share: awake. -/
namespace Go.Proofs.Ytlcbjjgmkllceaa
open Go.RowKit
open WireMath (beN numS grpL grpTo uvarS rawS blobS uvarL wideL)

set_option maxRecDepth 100000 in
theorem awake_calls (w : World) : Calls Try.prog 15 #[] w fun e' w' => e' = .returned (.bool true) ∧ Below w.heap.size w w' := by
  have HU := Lib.hid (show [] ++ uvarL 300 = [0xac, 2] by decide)
  have HV := Lib.hid (show [0xac, 2] ++ wideL 258 2 = [0xac, 2, 1, 2] by decide)
  have hq1 := Lib.hid (show (300 : Int) = ((300 : Nat) : Int) from rfl)
  have hq2 := Lib.hid (show (258 : Int) = ((258 : Nat) : Int) from rfl)
  have h4 := Lib.hid (show 4 = ([0xac, 2, 1, 2] : List UInt8).length from rfl)
  have h4i := Lib.hid (show (4 : Int) = (([0xac, 2, 1, 2] : List UInt8).length : Int) from rfl)
  have h3 := Lib.hid (show 3 = ([0xac, 2, 7] : List UInt8).length from rfl)
  have hl4 := Lib.hid (show ([0xac, 2, 1, 2] : List UInt8).length ≤ 140737488355328 by decide)
  have hl3 := Lib.hid (show ([0xac, 2, 7] : List UInt8).length ≤ 140737488355328 by decide)
  have hm3 := Lib.hid (show ([0xac, 2, 7] : List UInt8).length ≤ 9223372036854775807 by decide)
  have hsm := Lib.hid (show (([0xac, 2, 1, 2] : List UInt8) == [0xac, 2, 1, 2]) = true by decide)
  have hlit := Lib.hid (fun (w : World) (e : TypeId) => RB.lit w e (0, 0) #[.int .u8 172, .int .u8 2, .int .u8 1, .int .u8 2] [0xac, 2, 1, 2] rfl 4 rfl (by decide))
  have hlit3 := Lib.hid (fun (w : World) (e : TypeId) => RB.lit w e (0, 0) #[.int .u8 172, .int .u8 2, .int .u8 7] [0xac, 2, 7] rfl 3 rfl (by decide))
  have hu := Lib.hid (show (300 : Int) = ((uvarS [0xac, 2, 7] 0 0).1 : Int) ∧ (uvarS [0xac, 2, 7] 0 0).2.1 = 2 ∧ (uvarS [0xac, 2, 7] 0 0).2.2 = 0 by decide)
  have hn := Lib.hid (show (7 : Int) = ((numS [0xac, 2, 7] 2 0 1).1 : Int) ∧ (numS [0xac, 2, 7] 2 0 1).2.1 = 3 ∧ (numS [0xac, 2, 7] 2 0 1).2.2 = 0 by decide)
  have hat := Lib.hid (show (2 : Int) = ((2 : Nat) : Int) from rfl)
  have her := Lib.hid (show (0 : Int) = ((0 : Nat) : Int) from rfl)
  have hd1 := Lib.hid (show (3 : Int) = ((doneE [0xac, 2, 7] 2 0 : Nat) : Int) by decide)
  have hd2 := Lib.hid (show (0 : Int) = ((doneE [0xac, 2, 7] 3 0 : Nat) : Int) by decide)
  go_enter Try.func15, Try.ntmps15
  go_wp2_with (first
    | (go_at_call 31; (with_reducible refine (uvarN w.heap.size w.heap.size none [] [0xac, 2] 300 300 hq1.out HU.out _ (Wr.fresh w _ (Nat.le_refl _) _) (by decide) (by decide)).mono ?_); rintro e1 w1 ⟨row1, rfl, hw1, hs1⟩)
    | (go_at_call 32; (with_reducible refine (u16N w.heap.size w.heap.size row1 _ [0xac, 2, 1, 2] 258 258 hq2.out HV.out _ hw1 (by decide) (by decide)).mono ?_); rintro e2 w2 ⟨row2, rfl, hw2, hs2⟩)
    | (go_at_call 33; (with_reducible refine (bytesN w.heap.size w.heap.size row2 [0xac, 2, 1, 2] 4 h4.out _ hw2 hl4.out).mono ?_); rintro e3 w3 ⟨A3, c3, rfl, hn3⟩; have hrb3 := hn3.own.rb)
    | (go_at_call 9; go_loud (with_reducible refine (sameR A3 _ [0xac, 2, 1, 2] [0xac, 2, 1, 2] 4 4 c3 4 _ (hrb3.alloc _) (hlit.out _ _) h4.out h4.out true hsm.out).mono ?_); rintro e4 w4 ⟨rfl, hd4⟩; have hw4 := hw2.new ((hn3.below.alloc hn3.below.size _).trans (hd4.below _)))
    | (go_at_call 34; go_loud (with_reducible refine (lenN w.heap.size w.heap.size row2 [0xac, 2, 1, 2] 4 h4i.out _ hw4).mono ?_); rintro e5 w5 ⟨rfl, rfl⟩)
    | (go_at_call 35; go_loud (with_reducible refine (newReader_calls _ [0xac, 2, 7] 3 3 _ (hlit3.out _ _) h3.out hl3.out).mono ?_); rintro e6 w6 ⟨b, rfl, hr6, hb6⟩)
    | (go_at_call 36; go_loud (with_reducible refine (ruvarN _ b [0xac, 2, 7] 0 0 300 2 0 hu.out.1 hu.out.2.1 hu.out.2.2 _ hr6 hm3.out).mono ?_); rintro e7 w7 ⟨rfl, hr7, hg7⟩)
    | (go_at_call 37; go_loud (with_reducible refine (atN _ b [0xac, 2, 7] 2 0 2 hat.out _ hr7).mono ?_); rintro e8 w8 ⟨rfl, rfl⟩)
    | (go_at_call 38; go_loud (with_reducible refine (errN _ b [0xac, 2, 7] 2 0 0 her.out _ hr7).mono ?_); rintro e9 w9 ⟨rfl, rfl⟩)
    | (go_at_call 39; (with_reducible refine (doneN _ b [0xac, 2, 7] 2 0 3 hd1.out _ hr7).mono ?_); rintro e10 w10 ⟨rfl, hd10⟩; have hr10 := hr7.new (hd10.below _))
    | (go_at_call 40; go_loud (with_reducible refine (ru8N _ b [0xac, 2, 7] 2 0 7 3 0 hn.out.1 hn.out.2.1 hn.out.2.2 _ hr10 hm3.out).mono ?_); rintro e11 w11 ⟨rfl, hr11, hg11⟩)
    | (go_at_call 39; go_loud (with_reducible refine (doneN _ b [0xac, 2, 7] 3 0 0 hd2.out _ hr11).mono ?_); rintro e12 w12 ⟨rfl, hd12⟩))
  go_ret
  have B0 := below_alloc1 (Below.refl w.heap.size w) (Nat.le_refl _) (.cells #[.slice none 0 0] 67)
  have B1 := below_writer B0 hs1 (Wr.fresh w _ (Nat.le_refl _) _)
  have B3 := below_then (below_writer B1 hs2 hw1) hn3.below
  have B4 := (B3.alloc B3.size _).trans (hd4.below _)
  have B6 := below_then (B4.alloc B4.size _) hb6
  have hb := Nat.le_trans (B4.alloc B4.size _).size hr6.lo
  have B7 := (below_reader B6 hg7 hb).trans (hd10.below _)
  exact ⟨rfl, (below_reader B7 hg11 hb).trans (hd12.below _)⟩
end Go.Proofs.Ytlcbjjgmkllceaa
