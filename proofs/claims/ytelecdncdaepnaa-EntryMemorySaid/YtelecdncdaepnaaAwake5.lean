/- The walk of notarylaw05.awake. -/
import Derived.Test.YtelecdncdaepnaaSameEntry
import Derived.Lib.SmallJoins
namespace Go.Proofs.Ytelecdncdaepnaa
open Go.RowKit
open WireMath (numS beN rawS blobS uvarS grpL uvarL wideL)

def aE : En := ⟨1, [107], [118]⟩
def aL : List En := [⟨2, [], []⟩]
def aP : List UInt8 := [1, 1, 107, 1, 118]
def aQ : List UInt8 := [0xac, 2, 1, 2, 0]
theorem encE_a : encE aE = (aP, 0) := by decide
theorem chkF_a : chkF aE = 0 := by decide
theorem encBF_a : encBF 300 aL = (aQ, 0) := by decide
theorem decF_a : decF aP = (0, aE) := by kernel_rfl
theorem decB_a : decB aQ = ⟨0, 300, aL⟩ := by kernel_rfl

theorem RB.litA (w : World) (e : TypeId) (C : Array Value) (p : List UInt8) (h : C = (encB p).toArray) (n : Nat) (hn : n = p.length) (hs : p.length ≤ 1000) (k : Nat) (hk : w.heap.size = k) : RB (w.alloc (.cells C e)) (some ⟨k, 0, none⟩) n p := by
  subst hk; exact RB.lit w e (0, 0) C p h n hn hs
theorem enc5 (KA VA : Option Addr) (kc vc : Nat) (w : World) (hk : RB w KA kc [107]) (hv : RB w VA vc [118]) :
    Calls Try.prog 22 #[.agg #[.int .u8 1, .slice KA 1 kc, .slice VA 1 vc]] w fun r w' => ∃ A' c', r = .returned (.tuple #[.slice A' 5 c', .int .i64 0]) ∧ NewB w w' (.slice A' 5 c') aP := by
  have := encodeE_calls aE ⟨KA, kc, VA, vc⟩ 1 1 rfl rfl w ⟨by decide, hk, hv⟩
  rw [encE_a] at this; exact this
theorem check5 (KA VA : Option Addr) (kc vc : Nat) (w : World) :
    Calls Try.prog 37 #[.agg #[.int .u8 1, .slice KA 1 kc, .slice VA 1 vc]] w fun r w' => r = .returned (.int .i64 0) ∧ Below w.heap.size w w' := checkN aE KA VA 1 1 kc vc w rfl rfl 0 rfl
theorem encB5 (A : Option Addr) (c : Nat) (es : List EnX) (w : World) (h : Ents w A es) (he : ensOf es = aL) :
    Calls Try.prog 16 #[.agg #[.int .u64 300, .slice A 1 c]] w fun r w' => ∃ A' c', r = .returned (.tuple #[.slice A' 5 c', .int .i64 0]) ∧ NewB w w' (.slice A' 5 c') aQ := by
  have hl : 1 = es.length := by have := congrArg List.length he; simpa [ensOf, aL] using this.symm
  exact encB_calls 300 300 rfl (by decide) A 1 c es w h hl (by decide) aQ 0 (by rw [he]; exact encBF_a)
theorem dec5 (A : Option Addr) (c : Nat) (w : World) (hp : RB w A c aP) :
    Calls Try.prog 24 #[.slice A 5 c] w fun r w' => ∃ a : EnA, r = .returned (.tuple #[.agg #[.int .u8 1, .slice a.KA 1 a.kc, .slice a.VA 1 a.vc], .int .i64 0]) ∧ NewE w w' aE a := by
  have := decodeE_calls A aP 5 c w hp rfl (by decide)
  rw [decF_a] at this; exact this
theorem decB5 (A : Option Addr) (c : Nat) (w : World) (hp : RB w A c aQ) :
    Calls Try.prog 21 #[.slice A 5 c] w fun r w' => ∃ A' c', r = .returned (.tuple #[.agg #[.int .u64 300, .slice A' 1 c'], .int .i64 0]) ∧ BatAt w w' A' 1 aL := decodeB_calls A aQ 5 c w hp rfl (by decide) _ decB_a
theorem same5 (a : EnA) (KA VA : Option Addr) (kc vc : Nat) (w : World) (ha : EnOk w aE a) (hk : RB w KA kc [107]) (hv : RB w VA vc [118]) :
    Calls Try.prog 27 #[.agg #[.int .u8 1, .slice a.KA 1 a.kc, .slice a.VA 1 a.vc], .agg #[.int .u8 1, .slice KA 1 kc, .slice VA 1 vc]] w fun r w' => r = .returned (.bool true) ∧ Below w.heap.size w w' := sameE_calls aE a ⟨KA, kc, VA, vc⟩ 1 1 1 1 rfl rfl rfl rfl w ha ⟨by decide, hk, hv⟩
theorem sameB5 (A D : Option Addr) (es ds : List EnX) (c c' : Nat) (w : World) (ha : Ents w A es) (hd : Ents w D ds) (he : ensOf es = aL) (hd' : ensOf ds = aL) :
    Calls Try.prog 26 #[.agg #[.int .u64 300, .slice A 1 c], .agg #[.int .u64 300, .slice D 1 c']] w fun r w' => r = .returned (.bool true) ∧ Below w.heap.size w w' := by
  have hl : 1 = es.length := by have := congrArg List.length he; simpa [ensOf, aL] using this.symm
  exact sameB_calls 300 A D es ds 1 1 c c' hl hl w ha hd (he.trans hd'.symm) (by decide)
/-- the one entry of the batch -/
theorem one5 (w : World) (t : TypeId) (k : Nat) (hk : w.heap.size = k) : Ents (w.alloc (.cells #[.int .u8 2, .slice none 0 0, .slice none 0 0] t)) (some ⟨k, 0, none⟩) [(⟨2, [], []⟩, ⟨none, 0, none, 0⟩)] := by
  refine ⟨fun i hi => ?_, fun x hx => ?_⟩
  · have e : i = 0 := by simp at hi; exact hi
    subst e
    have T := Trio.fresh w k hk (.int .u8 2) (.slice none 0 0) (.slice none 0 0) t
    exact ⟨_, rfl, T.c0, T.c1, T.c2⟩
  · rw [List.mem_singleton.1 hx]
    exact ⟨by decide, RB.void _, RB.void _⟩

set_option maxHeartbeats 400000 in
set_option maxRecDepth 100000 in
theorem awake5_calls (w : World) : Calls Try.prog 13 #[] w fun r w' => r = .returned (.bool true) ∧ Below w.heap.size w w' := by
  have hlit := Lib.hid (fun (w : World) (e : TypeId) => RB.lit w e (0, 0) #[.int .u8 107] [107] rfl 1 rfl (by decide))
  have kc1 := Lib.run_convert_bytes_const (P := Try.prog) w 24 5 #[.int .u8 107] 1 1 Try.underlying24 Try.underlying5
  have kc2 := Go.Joins.run_convert_bytes_const_at (P := Try.prog) (w.alloc (.cells #[.int .u8 107] 5 (1, 2))) 24 5 #[.int .u8 118] 1 1 (w.heap.size + 1) (asz _ _).symm Try.underlying24 Try.underlying5
  obtain ⟨w1, hw1⟩ : ∃ w1 : World, w1 = (w.alloc (.cells #[.int .u8 107] 5 (1, 2))).alloc (.cells #[.int .u8 118] 5 (1, 2)) := ⟨_, rfl⟩
  have HB2 := Lib.hid (belowA (below_alloc1 (Below.refl w.heap.size w) (Nat.le_refl _) (.cells #[.int .u8 107] 5 (1, 2))) (.cells #[.int .u8 118] 5 (1, 2)))
  have HK := Lib.hid ((RB.lit w 5 (1, 2) #[.int .u8 107] [107] rfl 1 rfl (by decide)).alloc (.cells #[.int .u8 118] 5 (1, 2)))
  have HV := Lib.hid (RB.lit (w.alloc (.cells #[.int .u8 107] 5 (1, 2))) 5 (1, 2) #[.int .u8 118] [118] rfl 1 rfl (by decide))
  rw [asz] at HV
  rw [← hw1] at HB2 HK HV
  have HW1 := Lib.hid hw1
  have HPP := Lib.hid (show (aP == aP) = true from beq_self_eq_true _)
  have HQQ := Lib.hid (show (aQ == aQ) = true from beq_self_eq_true _)
  have HZ := Lib.hid (show w1.heap.size = w.heap.size + 1 + 1 by rw [hw1]; exact asz2 _ _ _)
  have HE := Lib.hid (Trio.fresh w1 (w.heap.size + 1 + 1) HZ.out (.int .u8 1) (.slice (some ⟨w.heap.size, 0, none⟩) 1 1) (.slice (some ⟨w.heap.size + 1, 0, none⟩) 1 1) 26)
  clear hw1
  go_enter Try.func13, Try.ntmps13
  go_wp2_with (first
    | (go_at_call 22; rw [← HW1.out]; go_loud ((with_reducible refine (enc5 _ _ 1 1 _ (HK.out.alloc _) (HV.out.alloc _)).mono ?_)); rintro e3 w3 ⟨A3, c3, rfl, hn3⟩; have E3 := HE.out.new hn3.below; have hz3 := E3.lt; have x0 := E3.c0; have x1 := E3.c1; have x2 := E3.c2; have B3 := Lib.hid (below_then (belowA HB2.out _) hn3.below); have K3 := Lib.hid ((HK.out.alloc _).new hn3.below); have V3 := Lib.hid ((HV.out.alloc _).new hn3.below); have tk3 := trivial)
    | (go_at_call 19; have tk := tk3; clear tk tk3; go_loud ((with_reducible refine (sameR A3 _ aP aP 5 5 c3 5 _ (hn3.own.rb.alloc _) (RB.litA w3 5 #[.int .u8 1, .int .u8 1, .int .u8 107, .int .u8 1, .int .u8 118] aP rfl 5 rfl (by decide) w3.heap.size rfl) rfl rfl true HPP.out).mono ?_)); rintro e4 w4 ⟨rfl, hd4⟩; have B4 := Lib.hid (below_then (belowA B3.out _) (hd4.below _)); have E4 := (E3.new (below_alloc1 (Below.refl _ _) (Nat.le_refl _) _)).new (hd4.below _); have hz4 := E4.lt; have x0 := E4.c0; have x1 := E4.c1; have x2 := E4.c2; have K4 := Lib.hid ((K3.out.alloc _).new (hd4.below _)); have V4 := Lib.hid ((V3.out.alloc _).new (hd4.below _)))
    | (go_at_call 37; go_loud ((with_reducible refine (check5 _ _ 1 1 _).mono ?_)); rintro e5 w5 ⟨rfl, hb5⟩; have B5 := Lib.hid (below_then B4.out hb5); have E5 := E4.new hb5; have K5 := Lib.hid (K4.out.new hb5); have V5 := Lib.hid (V4.out.new hb5); have hz5 := E5.lt)
    | (go_at_call 16; have O5 := Lib.hid (one5 w5 26 w5.heap.size rfl); have U5 := Lib.hid (Duo.fresh (w5.alloc (.cells #[.int .u8 2, .slice none 0 0, .slice none 0 0] 26)) (w5.heap.size + 1) (asz _ _) (.int .u64 300) (.slice (some ⟨w5.heap.size, 0, none⟩) 1 1) 34); go_loud ((with_reducible refine (encB5 _ 1 _ _ (O5.out.new (below_alloc1 (Below.refl _ _) (Nat.le_refl _) _)) rfl).mono ?_)); rintro e6 w6 ⟨A6, c6, rfl, hn6⟩; have B6 := Lib.hid (below_then (belowA (belowA B5.out _) _) hn6.below); have E6 := ((E5.new (below_alloc1 (Below.refl _ _) (Nat.le_refl _) _)).new (below_alloc1 (Below.refl _ _) (Nat.le_refl _) _)).new hn6.below; have K6 := Lib.hid (((K5.out.alloc _).alloc _).new hn6.below); have V6 := Lib.hid (((V5.out.alloc _).alloc _).new hn6.below); have U6 := U5.out.new hn6.below; have O6 := Lib.hid ((O5.out.new (below_alloc1 (Below.refl _ _) (Nat.le_refl _) _)).new hn6.below); have hy6 := U6.lt; have hz6 := E6.lt; have tk6 := trivial)
    | (go_at_call 19; have tk := tk6; clear tk tk6; go_loud ((with_reducible refine (sameR A6 _ aQ aQ 5 5 c6 5 _ (hn6.own.rb.alloc _) (RB.litA w6 5 #[.int .u8 172, .int .u8 2, .int .u8 1, .int .u8 2, .int .u8 0] aQ rfl 5 rfl (by decide) w6.heap.size rfl) rfl rfl true HQQ.out).mono ?_)); rintro e7 w7 ⟨rfl, hd7⟩; have B7 := Lib.hid (below_then (belowA B6.out _) (hd7.below _)); have E7 := (E6.new (below_alloc1 (Below.refl _ _) (Nat.le_refl _) _)).new (hd7.below _); have U7 := (U6.new (below_alloc1 (Below.refl _ _) (Nat.le_refl _) _)).new (hd7.below _); have O7 := Lib.hid ((O6.out.new (below_alloc1 (Below.refl _ _) (Nat.le_refl _) _)).new (hd7.below _)); have hz7 := E7.lt; have hy7 := U7.lt; have K7 := Lib.hid ((K6.out.alloc _).new (hd7.below _)); have V7 := Lib.hid ((V6.out.alloc _).new (hd7.below _)))
    | (go_at_call 24; go_loud ((with_reducible refine (dec5 _ 5 _ (RB.litA w7 5 #[.int .u8 1, .int .u8 1, .int .u8 107, .int .u8 1, .int .u8 118] aP rfl 5 rfl (by decide) w7.heap.size rfl)).mono ?_)); rintro e8 w8 ⟨a8, rfl, hn8⟩; have B8 := Lib.hid (belowA (below_then (belowA B7.out _) hn8.below) (.cells #[.int .u8 1, .slice a8.KA 1 a8.kc, .slice a8.VA 1 a8.vc] 26)); have E8 := ((E7.new (below_alloc1 (Below.refl _ _) (Nat.le_refl _) _)).new hn8.below).new (below_alloc1 (Below.refl _ _) (Nat.le_refl _) (.cells #[.int .u8 1, .slice a8.KA 1 a8.kc, .slice a8.VA 1 a8.vc] 26)); have U8 := ((U7.new (below_alloc1 (Below.refl _ _) (Nat.le_refl _) _)).new hn8.below).new (below_alloc1 (Below.refl _ _) (Nat.le_refl _) (.cells #[.int .u8 1, .slice a8.KA 1 a8.kc, .slice a8.VA 1 a8.vc] 26)); have O8 := Lib.hid (((O7.out.new (below_alloc1 (Below.refl _ _) (Nat.le_refl _) _)).new hn8.below).new (below_alloc1 (Below.refl _ _) (Nat.le_refl _) (.cells #[.int .u8 1, .slice a8.KA 1 a8.kc, .slice a8.VA 1 a8.vc] 26))); have K8 := Lib.hid (((K7.out.alloc _).new hn8.below).alloc (.cells #[.int .u8 1, .slice a8.KA 1 a8.kc, .slice a8.VA 1 a8.vc] 26)); have V8 := Lib.hid (((V7.out.alloc _).new hn8.below).alloc (.cells #[.int .u8 1, .slice a8.KA 1 a8.kc, .slice a8.VA 1 a8.vc] 26)); have T8 := Trio.fresh w8 w8.heap.size rfl (.int .u8 1) (.slice a8.KA 1 a8.kc) (.slice a8.VA 1 a8.vc) 26; have G8 := Lib.hid ((hn8.ok (by decide)).new (below_alloc1 (Below.refl _ _) (Nat.le_refl _) (.cells #[.int .u8 1, .slice a8.KA 1 a8.kc, .slice a8.VA 1 a8.vc] 26))))
    | (go_at_call 21; go_loud ((with_reducible refine (decB5 _ 5 _ (RB.litA (w8.alloc (.cells #[.int .u8 1, .slice a8.KA 1 a8.kc, .slice a8.VA 1 a8.vc] 26)) 5 #[.int .u8 172, .int .u8 2, .int .u8 1, .int .u8 2, .int .u8 0] aQ rfl 5 rfl (by decide) (w8.heap.size + 1) (asz _ _))).mono ?_)); rintro e9 w9 ⟨A9, c9, rfl, hn9⟩; obtain ⟨⟨es9, he9, -, ho9⟩, hb9⟩ := hn9; have B9 := Lib.hid (belowA (below_then (belowA B8.out _) hb9) (.cells #[.int .u64 300, .slice A9 1 c9] 34)); have E9 := ((E8.new (below_alloc1 (Below.refl _ _) (Nat.le_refl _) _)).new hb9).new (below_alloc1 (Below.refl _ _) (Nat.le_refl _) (.cells #[.int .u64 300, .slice A9 1 c9] 34)); have U9 := ((U8.new (below_alloc1 (Below.refl _ _) (Nat.le_refl _) _)).new hb9).new (below_alloc1 (Below.refl _ _) (Nat.le_refl _) (.cells #[.int .u64 300, .slice A9 1 c9] 34)); have O9 := Lib.hid (((O8.out.new (below_alloc1 (Below.refl _ _) (Nat.le_refl _) _)).new hb9).new (below_alloc1 (Below.refl _ _) (Nat.le_refl _) (.cells #[.int .u64 300, .slice A9 1 c9] 34))); have K9 := Lib.hid (((K8.out.alloc _).new hb9).alloc (.cells #[.int .u64 300, .slice A9 1 c9] 34)); have V9 := Lib.hid (((V8.out.alloc _).new hb9).alloc (.cells #[.int .u64 300, .slice A9 1 c9] 34)); have T9 := ((T8.new (below_alloc1 (Below.refl _ _) (Nat.le_refl _) _)).new hb9).new (below_alloc1 (Below.refl _ _) (Nat.le_refl _) (.cells #[.int .u64 300, .slice A9 1 c9] 34)); have G9 := Lib.hid (((G8.out.new (below_alloc1 (Below.refl _ _) (Nat.le_refl _) _)).new hb9).new (below_alloc1 (Below.refl _ _) (Nat.le_refl _) (.cells #[.int .u64 300, .slice A9 1 c9] 34))); have D9 := Duo.fresh w9 w9.heap.size rfl (.int .u64 300) (.slice A9 1 c9) 34; have P9 := Lib.hid (ho9.new (below_alloc1 (Below.refl _ _) (Nat.le_refl _) (.cells #[.int .u64 300, .slice A9 1 c9] 34))); have e0 := E9.c0; have e1 := E9.c1; have e2 := E9.c2; have t0 := T9.c0; have t1 := T9.c1; have t2 := T9.c2; have hz9 := E9.lt; have hy9 := T9.lt)
    | (go_at_call 27; go_loud ((with_reducible refine (same5 a8 _ _ 1 1 _ G9.out K9.out V9.out).mono ?_)); rintro e10 w10 ⟨rfl, hb10⟩; have B10 := Lib.hid (below_then B9.out hb10); have U10 := U9.new hb10; have D10 := D9.new hb10; have u0 := U10.c0; have u1 := U10.c1; have d0 := D10.c0; have d1 := D10.c1; have O10 := Lib.hid (O9.out.new hb10); have P10 := Lib.hid (P9.out.new hb10))
    | (go_at_call 26; go_loud ((with_reducible refine (sameB5 A9 _ es9 _ c9 1 _ P10.out O10.out he9 rfl).mono ?_)); rintro e11 w11 ⟨rfl, hb11⟩; have B11 := Lib.hid (below_then B10.out hb11)))

  go_ret
  exact ⟨rfl, B11.out⟩
end Go.Proofs.Ytelecdncdaepnaa
