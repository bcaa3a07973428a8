/- What the laws of layer 1 share: awake. -/
import Derived.Test.YtdpmalegpjimfaaReadWalk2
namespace Go.Proofs.Ytdpmalegpjimfaa
open Go.RowKit
open WireMath (beN numS grpL grpTo uvarS rawS blobS uvarL wideL)

theorem uvarN (base b : Nat) (row : Option Nat) (p q : List UInt8) (v : Nat) (V : Int) (hV : V = v) (hq : p ++ uvarL v = q) (w : World) (hw : Wr w base b row p) (hv : v ≤ 18446744073709551615) (hl : p.length + 10 ≤ 140737488355328) :
    Calls Try.prog 16 #[.pointer (some ⟨b, 0, none⟩), .int .u64 V] w fun e w' => ∃ row', e = .returned (.tuple #[]) ∧ Wr w' base b row' q ∧ WStep w w' b row row' := by
  subst hV; subst hq; exact uvar_calls base b row p v w hw hv hl
theorem u16N (base b : Nat) (row : Option Nat) (p q : List UInt8) (v : Nat) (V : Int) (hV : V = v) (hq : p ++ wideL v 2 = q) (w : World) (hw : Wr w base b row p) (hv : v ≤ 65535) (hl : p.length + 8 ≤ 140737488355328) :
    Calls Try.prog 47 #[.pointer (some ⟨b, 0, none⟩), .int .u16 V] w fun e w' => ∃ row', e = .returned (.tuple #[]) ∧ Wr w' base b row' q ∧ WStep w w' b row row' := by
  subst hV; subst hq; exact u16_calls base b row p v w hw hv hl
theorem bytesN (base b : Nat) (row : Option Nat) (p : List UInt8) (n : Nat) (hn : n = p.length) (w : World) (hw : Wr w base b row p) (hl : p.length ≤ 140737488355328) :
    Calls Try.prog 17 #[.pointer (some ⟨b, 0, none⟩)] w fun e w' => ∃ A' c', e = .returned (.slice A' n c') ∧ NewB w w' (.slice A' n c') p := by
  subst hn; exact bytes_calls base b row p w hw hl
theorem lenN (base b : Nat) (row : Option Nat) (p : List UInt8) (n : Int) (hn : n = p.length) (w : World) (hw : Wr w base b row p) :
    Calls Try.prog 21 #[.pointer (some ⟨b, 0, none⟩)] w fun e w' => e = .returned (.int .i64 n) ∧ w = w' := by
  subst hn; exact len_calls base b row p w hw
theorem ruvarN (base b : Nat) (P : List UInt8) (at_ e : Nat) (v : Int) (a2 e2 : Nat) (hv : v = (uvarS P at_ e).1) (ha : (uvarS P at_ e).2.1 = a2) (he : (uvarS P at_ e).2.2 = e2) (w : World) (hr : Rd w base b P at_ e) (hl : P.length ≤ 9223372036854775807) :
    Calls Try.prog 48 #[.pointer (some ⟨b, 0, none⟩)] w fun e' w' => e' = .returned (.int .u64 v) ∧ Rd w' base b P a2 e2 ∧ w.grownBy w' (some b) := by
  subst hv; subst ha; subst he; exact ruvar_calls base b P at_ e w hr hl
theorem ru8N (base b : Nat) (P : List UInt8) (at_ e : Nat) (v : Int) (a2 e2 : Nat) (hv : v = (numS P at_ e 1).1) (ha : (numS P at_ e 1).2.1 = a2) (he : (numS P at_ e 1).2.2 = e2) (w : World) (hr : Rd w base b P at_ e) (hl : P.length ≤ 9223372036854775807) :
    Calls Try.prog 52 #[.pointer (some ⟨b, 0, none⟩)] w fun e' w' => e' = .returned (.int .u8 v) ∧ Rd w' base b P a2 e2 ∧ w.grownBy w' (some b) := by
  subst hv; subst ha; subst he; exact ru8_calls base b P at_ e w hr hl
theorem atN (base b : Nat) (P : List UInt8) (at_ e : Nat) (n : Int) (hn : n = at_) (w : World) (hr : Rd w base b P at_ e) :
    Calls Try.prog 49 #[.pointer (some ⟨b, 0, none⟩)] w fun e' w' => e' = .returned (.int .i64 n) ∧ w = w' := by
  subst hn; exact at_calls base b P at_ e w hr
theorem errN (base b : Nat) (P : List UInt8) (at_ e : Nat) (n : Int) (hn : n = e) (w : World) (hr : Rd w base b P at_ e) :
    Calls Try.prog 50 #[.pointer (some ⟨b, 0, none⟩)] w fun e' w' => e' = .returned (.int .i64 n) ∧ w = w' := by
  subst hn; exact err_calls base b P at_ e w hr
theorem doneN (base b : Nat) (P : List UInt8) (at_ e : Nat) (n : Int) (hn : n = doneE P at_ e) (w : World) (hr : Rd w base b P at_ e) :
    Calls Try.prog 51 #[.pointer (some ⟨b, 0, none⟩)] w fun e' w' => e' = .returned (.int .i64 n) ∧ Drawn w w' := by
  subst hn; exact done_calls base b P at_ e w hr

theorem OB.rb {w : World} {base e n c : Nat} {A : Option Addr} {p : List UInt8} (h : OB w base e (.slice A n c) p) : RB w A c p := by
  obtain ⟨A', c', e', hr⟩ := h.form
  injection e' with e1 e2 e3; subst e1; subst e3; exact hr
theorem RB.alloc {w : World} {A : Option Addr} {c : Nat} {p : List UInt8} (h : RB w A c p) (o : Obj) : RB (w.alloc o) A c p := h.new (below_alloc1 (Below.refl _ _) (Nat.le_refl _) o)

theorem below_then {w0 w w' : World} (h : Below w0.heap.size w0 w) (k : Below w.heap.size w w') : Below w0.heap.size w0 w' := h.trans (k.mono h.size)
theorem below_reader {w0 w w' : World} {b : Nat} (h : Below w0.heap.size w0 w) (hg : w.grownBy w' (some b)) (hb : w0.heap.size ≤ b) : Below w0.heap.size w0 w' := h.grown hg h.size fun k e => by cases e; exact hb
theorem below_writer {w0 w w' : World} {b : Nat} {r r' : Option Nat} {p : List UInt8} (h : Below w0.heap.size w0 w) (hs : WStep w w' b r r') (hw : Wr w w0.heap.size b r p) : Below w0.heap.size w0 w' := h.trans (hs.below hw)

set_option maxRecDepth 100000 in
theorem awake_calls (w : World) : Calls Try.prog 15 #[] w fun e' w' => e' = .returned (.bool true) ∧ Below w.heap.size w w' := by
  have HU := Lib.hid (show [] ++ uvarL 300 = [0xac, 2] by decide)
  have HV := Lib.hid (show [0xac, 2] ++ wideL 258 2 = [0xac, 2, 1, 2] by decide)
  have hq1 := Lib.hid (show (300 : Int) = ((300 : Nat) : Int) from rfl)
  have hq2 := Lib.hid (show (258 : Int) = ((258 : Nat) : Int) from rfl)
  have h4 := Lib.hid (show 4 = ([0xac, 2, 1, 2] : List UInt8).length from rfl)
  have h4i := Lib.hid (show (4 : Int) = (([0xac, 2, 1, 2] : List UInt8).length : Int) from rfl)
  have h3 := Lib.hid (show 3 = ([0xac, 2, 7] : List UInt8).length from rfl)
  have hl4 := Lib.hid (show ([0xac, 2, 1, 2] : List UInt8).length ≤ 140737488355328 by decide)
  have hl3 := Lib.hid (show ([0xac, 2, 7] : List UInt8).length ≤ 140737488355328 by decide)
  have hm3 := Lib.hid (show ([0xac, 2, 7] : List UInt8).length ≤ 9223372036854775807 by decide)
  have hsm := Lib.hid (show (([0xac, 2, 1, 2] : List UInt8) == [0xac, 2, 1, 2]) = true by decide)
  have hlit := Lib.hid (fun (w : World) (e : TypeId) => RB.lit w e (0, 0) #[.int .u8 172, .int .u8 2, .int .u8 1, .int .u8 2] [0xac, 2, 1, 2] rfl 4 rfl (by decide))
  have hlit3 := Lib.hid (fun (w : World) (e : TypeId) => RB.lit w e (0, 0) #[.int .u8 172, .int .u8 2, .int .u8 7] [0xac, 2, 7] rfl 3 rfl (by decide))
  have hu := Lib.hid (show (300 : Int) = ((uvarS [0xac, 2, 7] 0 0).1 : Int) ∧ (uvarS [0xac, 2, 7] 0 0).2.1 = 2 ∧ (uvarS [0xac, 2, 7] 0 0).2.2 = 0 by decide)
  have hn := Lib.hid (show (7 : Int) = ((numS [0xac, 2, 7] 2 0 1).1 : Int) ∧ (numS [0xac, 2, 7] 2 0 1).2.1 = 3 ∧ (numS [0xac, 2, 7] 2 0 1).2.2 = 0 by decide)
  have hat := Lib.hid (show (2 : Int) = ((2 : Nat) : Int) from rfl)
  have her := Lib.hid (show (0 : Int) = ((0 : Nat) : Int) from rfl)
  have hd1 := Lib.hid (show (3 : Int) = ((doneE [0xac, 2, 7] 2 0 : Nat) : Int) by decide)
  have hd2 := Lib.hid (show (0 : Int) = ((doneE [0xac, 2, 7] 3 0 : Nat) : Int) by decide)
  go_enter Try.func15, Try.ntmps15
  go_wp2_with (first
    | (go_at_call 16; (with_reducible refine (uvarN w.heap.size w.heap.size none [] [0xac, 2] 300 300 hq1.out HU.out _ (Wr.fresh w _ (Nat.le_refl _) _) (by decide) (by decide)).mono ?_); rintro e1 w1 ⟨row1, rfl, hw1, hs1⟩)
    | (go_at_call 47; (with_reducible refine (u16N w.heap.size w.heap.size row1 _ [0xac, 2, 1, 2] 258 258 hq2.out HV.out _ hw1 (by decide) (by decide)).mono ?_); rintro e2 w2 ⟨row2, rfl, hw2, hs2⟩)
    | (go_at_call 17; (with_reducible refine (bytesN w.heap.size w.heap.size row2 [0xac, 2, 1, 2] 4 h4.out _ hw2 hl4.out).mono ?_); rintro e3 w3 ⟨A3, c3, rfl, hn3⟩; have hrb3 := hn3.own.rb)
    | (go_at_call 22; go_loud (with_reducible refine (sameR A3 _ [0xac, 2, 1, 2] [0xac, 2, 1, 2] 4 4 c3 4 _ (hrb3.alloc _) (hlit.out _ _) h4.out h4.out true hsm.out).mono ?_); rintro e4 w4 ⟨rfl, hd4⟩; have hw4 := hw2.new ((hn3.below.alloc hn3.below.size _).trans (hd4.below _)))
    | (go_at_call 21; go_loud (with_reducible refine (lenN w.heap.size w.heap.size row2 [0xac, 2, 1, 2] 4 h4i.out _ hw4).mono ?_); rintro e5 w5 ⟨rfl, rfl⟩)
    | (go_at_call 35; go_loud (with_reducible refine (newReader_calls _ [0xac, 2, 7] 3 3 _ (hlit3.out _ _) h3.out hl3.out).mono ?_); rintro e6 w6 ⟨b, rfl, hr6, hb6⟩)
    | (go_at_call 48; go_loud (with_reducible refine (ruvarN _ b [0xac, 2, 7] 0 0 300 2 0 hu.out.1 hu.out.2.1 hu.out.2.2 _ hr6 hm3.out).mono ?_); rintro e7 w7 ⟨rfl, hr7, hg7⟩)
    | (go_at_call 49; go_loud (with_reducible refine (atN _ b [0xac, 2, 7] 2 0 2 hat.out _ hr7).mono ?_); rintro e8 w8 ⟨rfl, rfl⟩)
    | (go_at_call 50; go_loud (with_reducible refine (errN _ b [0xac, 2, 7] 2 0 0 her.out _ hr7).mono ?_); rintro e9 w9 ⟨rfl, rfl⟩)
    | (go_at_call 51; (with_reducible refine (doneN _ b [0xac, 2, 7] 2 0 3 hd1.out _ hr7).mono ?_); rintro e10 w10 ⟨rfl, hd10⟩; have hr10 := hr7.new (hd10.below _))
    | (go_at_call 52; go_loud (with_reducible refine (ru8N _ b [0xac, 2, 7] 2 0 7 3 0 hn.out.1 hn.out.2.1 hn.out.2.2 _ hr10 hm3.out).mono ?_); rintro e11 w11 ⟨rfl, hr11, hg11⟩)
    | (go_at_call 51; go_loud (with_reducible refine (doneN _ b [0xac, 2, 7] 3 0 0 hd2.out _ hr11).mono ?_); rintro e12 w12 ⟨rfl, hd12⟩))
  go_ret
  have B0 := below_alloc1 (Below.refl w.heap.size w) (Nat.le_refl _) (.cells #[.slice none 0 0] 26)
  have B1 := below_writer B0 hs1 (Wr.fresh w _ (Nat.le_refl _) _)
  have B3 := below_then (below_writer B1 hs2 hw1) hn3.below
  have B4 := (B3.alloc B3.size _).trans (hd4.below _)
  have B6 := below_then (B4.alloc B4.size _) hb6
  have hb := Nat.le_trans (B4.alloc B4.size _).size hr6.lo
  have B7 := (below_reader B6 hg7 hb).trans (hd10.below _)
  exact ⟨rfl, (below_reader B7 hg11 hb).trans (hd12.below _)⟩
end Go.Proofs.Ytdpmalegpjimfaa
