/- FrameTurned. -/
import Derived.Test.YtdpmalegpjimfaaFrameBack
import Derived.Test.YtdpmalegpjimfaaFrameTurnMath
namespace Go.Proofs.Ytdpmalegpjimfaa
open Go.RowKit
open FrameMath (laid)

theorem bits_xor_uB (a b : UInt8) : bits .xor .u8 (uB a) (uB b) = uB (a ^^^ b) := by
  have h : ∀ c : UInt8, BitVec.ofInt 8 (uB c) = c.toBitVec := fun c => by
    apply BitVec.eq_of_toNat_eq
    have := c.toNat_lt
    unfold uB
    rw [BitVec.ofInt_natCast, BitVec.toNat_ofNat]
    exact Nat.mod_eq_of_lt this
  show IntKind.u8.wrap ((BitVec.ofInt 8 (uB a) ^^^ BitVec.ofInt 8 (uB b)).toNat : Int) = _
  rw [h, h, ← UInt8.toBitVec_xor]
  exact IntWalk.u8_in _ (by have := uB_range (a ^^^ b); unfold uB at this; exact this)
theorem OB.some_ {w : World} {base e n c : Nat} {A : Option Addr} {p : List UInt8} (h : OB w base e (.slice A n c) p) (hp : 0 < p.length) : ∃ g, A = some ⟨g, 0, none⟩ ∧ base ≤ g := by
  rcases h.out.2 with ⟨h0, h1⟩ | ⟨g, cap, cur, hv, hg, _⟩
  · exfalso
    have := h.out.1
    simp_all
  · injection hv with e1
    exact ⟨g, e1, hg⟩

theorem fempty0 (A : Option Addr) (c : Nat) (w : World) (hp : RB w A c []) (U : Int) (hU : U = ((0 : Nat) : Int)) :
    Calls Try.prog 34 #[.agg #[.int .u64 U, .slice A 0 c]] w fun e w' => e = .returned (.bool true) ∧ Below w.heap.size w w' := by
  subst hU; exact fempty_calls 0 A [] 0 c w hp rfl true rfl

set_option maxHeartbeats 2000000 in
set_option maxRecDepth 100000 in
theorem frameTurned_calls (place : Nat) (hpl : place ≤ 18446744073709551615) (A : Option Addr) (p : List UInt8) (c : Nat) (at_ : Int) (hat : -9223372036854775808 ≤ at_ ∧ at_ ≤ 9223372036854775807) (y : UInt8) (w : World) (hp : RB w A c p) (hl : p.length ≤ 140737488355328) :
    Calls Try.prog 11 #[.agg #[.int .u64 place, .slice A p.length c], .int .i64 at_, .int .u8 (uB y)] w fun e w' => e = .returned (.bool true) ∧ Below w.heap.size w w' := by
  have hk0 := Lib.hid (show (0 : Int) = ((0 : Nat) : Int) from rfl)
  have hk2 := Lib.hid (show (2 : Int) = ((2 : Nat) : Int) from rfl)
  have hk3 := Lib.hid (show (3 : Int) = ((3 : Nat) : Int) from rfl)
  have HF := Lib.hid (below_alloc1 (Below.refl w.heap.size w) (Nat.le_refl _) (.cells #[.int .u64 place, .slice A p.length c] 62))
  have HPR := Lib.hid (Pair.fresh w (.int .u64 place) (.slice A p.length c) 62)
  by_cases hfit : 1 ≤ p.length ∧ p.length ≤ 65535
  · obtain ⟨f1, f2⟩ := hfit
    have hturn := fun x i h1 h2 h3 => next_turned place p f1 f2 x i h1 h2 h3
    have HLL := Lib.hid (FrameMath.laid_length place p)
    generalize hld : laid place p = ld at *
    have HLD := Lib.hid hld
    have HT := Lib.hid hturn
    clear hld hturn
    by_cases hy : y = 0
    · have hyb : (uB y == 0) = true := by rw [hy]; rfl
      clear hy
      go_enter Try.func11, Try.ntmps11
      go_wp2_with (first
        | (go_at_call 26; (with_reducible refine (fawake_calls _).mono ?_); rintro e0 w0 ⟨rfl, hb0⟩; have P0 := HPR.out.new hb0; have x0 := P0.c0; have x1 := P0.c1; have B0 := Lib.hid (below_then HF.out hb0).drew; have P0d := P0.new ((Below.refl _ _).drew)))
      go_region_held3 (fun w' => w'.cell? ⟨w.heap.size, 0, none⟩ = some (.int .u64 place) ∧ w'.cell? ⟨w.heap.size, 1, none⟩ = some (.slice A p.length c)) (go_keep) (first
        | (go_at_call 28; (with_reducible refine (twinR A p p.length c _ (hp.new B0.out) rfl hl).mono ?_); rintro e1 w1 ⟨A1, c1, rfl, hn1⟩; have P1 := P0d.new hn1.below; have y0 := P1.c0; have y1 := P1.c1; have B1 := Lib.hid (below_then B0.out hn1.below))
        | (go_at_call 27; (with_reducible refine (made_ok place place rfl hpl A1 p ld p.length (p.length + 18) c1 _ hn1.own.rb rfl f1 f2 rfl HLD.out).mono ?_); rintro e2 w2 ⟨A2, c2, rfl, hn2⟩; have P2 := P1.new hn2.below; have z0 := P2.c0; have z1 := P2.c1; have B2 := Lib.hid (below_then B1.out hn2.below)))
      go_wp2_with (go_at_call 33; (with_reducible refine (fits_yes A p.length c _ f1 f2).mono ?_); rintro e9 w9 ⟨rfl, rfl⟩)
      all_goals go_ret
      all_goals exact ⟨rfl, B2.out⟩
    · have hyb : (uB y == 0) = false := by
        rw [beq_eq_false_iff_ne]; unfold uB; intro e; exact hy (UInt8.toNat_inj.1 (by simpa using e))
      by_cases hpos : at_ < 0 ∨ (p.length : Int) + 18 ≤ at_ ∨ (1 ≤ at_ ∧ at_ ≤ 4)
      · clear hy
        go_enter Try.func11, Try.ntmps11
        go_wp2_with (first
          | (go_at_call 26; (with_reducible refine (fawake_calls _).mono ?_); rintro e0 w0 ⟨rfl, hb0⟩; have P0 := HPR.out.new hb0; have x0 := P0.c0; have x1 := P0.c1; have B0 := Lib.hid (below_then HF.out hb0).drew; have P0d := P0.new ((Below.refl _ _).drew)))
        go_region_held3 (fun w' => w'.cell? ⟨w.heap.size, 0, none⟩ = some (.int .u64 place) ∧ w'.cell? ⟨w.heap.size, 1, none⟩ = some (.slice A p.length c)) (go_keep) (first
          | (go_at_call 28; (with_reducible refine (twinR A p p.length c _ (hp.new B0.out) rfl hl).mono ?_); rintro e1 w1 ⟨A1, c1, rfl, hn1⟩; have P1 := P0d.new hn1.below; have y0 := P1.c0; have y1 := P1.c1; have B1 := Lib.hid (below_then B0.out hn1.below))
          | (go_at_call 27; (with_reducible refine (made_ok place place rfl hpl A1 p ld p.length (p.length + 18) c1 _ hn1.own.rb rfl f1 f2 rfl HLD.out).mono ?_); rintro e2 w2 ⟨A2, c2, rfl, hn2⟩; have P2 := P1.new hn2.below; have z0 := P2.c0; have z1 := P2.c1; have B2 := Lib.hid (below_then B1.out hn2.below)))
        go_wp2_with (go_at_call 33; (with_reducible refine (fits_yes A p.length c _ f1 f2).mono ?_); rintro e9 w9 ⟨rfl, rfl⟩)
        all_goals first | (go_ret; exact ⟨rfl, B2.out⟩) | (exfalso; omega)
      · obtain ⟨i, rfl⟩ := Int.eq_ofNat_of_zero_le (by omega : 0 ≤ at_)
        have hi : i < p.length + 18 := by omega
        have hil : i < ld.length := by rw [HLL.out]; exact hi
        have HX : Hid (nextF (ld.set i (ld[i] ^^^ y)) 0 = ⟨2, 0, [], 0⟩) := Lib.hid (HT.out (ld[i] ^^^ y) i hi (by omega) (by
          rw [List.getElem?_eq_getElem hil]
          intro e
          have e2 := Option.some.inj e
          apply hy
          have : ld[i] ^^^ (ld[i] ^^^ y) = ld[i] ^^^ ld[i] := by rw [← e2]
          simpa [← UInt8.xor_assoc] using this))
        have hx := bits_xor_uB ld[i] y
        generalize hb : ld[i] = bb at *
        have HB := Lib.hid hb
        clear hy
        go_enter Try.func11, Try.ntmps11
        go_wp2_with (first
          | (go_at_call 26; (with_reducible refine (fawake_calls _).mono ?_); rintro e0 w0 ⟨rfl, hb0⟩; have P0 := HPR.out.new hb0; have x0 := P0.c0; have x1 := P0.c1; have B0 := Lib.hid (below_then HF.out hb0).drew; have P0d := P0.new ((Below.refl _ _).drew)))
        go_region_held3 (fun w' => w'.cell? ⟨w.heap.size, 0, none⟩ = some (.int .u64 place) ∧ w'.cell? ⟨w.heap.size, 1, none⟩ = some (.slice A p.length c)) (go_keep) (first
          | (go_at_call 28; (with_reducible refine (twinR A p p.length c _ (hp.new B0.out) rfl hl).mono ?_); rintro e1 w1 ⟨A1, c1, rfl, hn1⟩; have P1 := P0d.new hn1.below; have y0 := P1.c0; have y1 := P1.c1; have B1 := Lib.hid (below_then B0.out hn1.below))
          | (go_at_call 27; (with_reducible refine (made_ok place place rfl hpl A1 p ld p.length (p.length + 18) c1 _ hn1.own.rb rfl f1 f2 rfl HLD.out).mono ?_); rintro e2 w2 ⟨A2, c2, rfl, hn2⟩; have P2 := P1.new hn2.below; have z0 := P2.c0; have z1 := P2.c1; have B2 := Lib.hid (below_then B1.out hn2.below); obtain ⟨g, rfl, hg⟩ := hn2.own.some_ (by rw [HLL.out]; omega); obtain ⟨hc, hf⟩ := hn2.own.cell i hil; rw [HB.out] at hc; obtain ⟨hs1, hs2⟩ := hn2.own.set i (bb ^^^ y); have HS1 := Lib.hid hs1; have HS2 := Lib.hid hs2; clear hs1 hs2))
        go_wp2_with (first
          | (go_at_call 33; (with_reducible refine (fits_yes A p.length c _ f1 f2).mono ?_); rintro e9 w9 ⟨rfl, rfl⟩)
          | (go_at_call 30; (with_reducible refine (nextN (some ⟨g, 0, none⟩) (ld.set i (bb ^^^ y)) (p.length + 18) c2 0 (by decide) _ HS1.out.rb (by rw [List.length_set, HLL.out]) (by rw [List.length_set, HLL.out]; omega) 2 0 0 2 0 0 [] HX.out hk2.out hk0.out (by decide)).mono ?_); rintro e4 w4 ⟨A4, c4, rfl, hn4⟩; have B4 := Lib.hid (below_then (B2.out.grown HS2.out B2.out.size (fun k e => by have := Option.some.inj e; have := B1.out.size; omega)) hn4.below))
          | (go_at_call 34; (with_reducible refine (fempty0 A4 c4 _ (hn4.own.rb.alloc _) 0 hk0.out).mono ?_); rintro e5 w5 ⟨rfl, hb5⟩))
        all_goals go_ret
        all_goals exact ⟨rfl, below_then (B4.out.alloc B4.out.size (.cells #[.int .u64 0, .slice A4 0 c4] 53)) hb5⟩
  · by_cases hlong : 65535 < p.length
    · have HE := Lib.hid (show encF place p = ([], 2) by unfold encF; rw [if_pos hlong])
      clear hfit
      go_enter Try.func11, Try.ntmps11
      go_wp2_with (first
        | (go_at_call 26; (with_reducible refine (fawake_calls _).mono ?_); rintro e0 w0 ⟨rfl, hb0⟩; have P0 := HPR.out.new hb0; have x0 := P0.c0; have x1 := P0.c1; have B0 := Lib.hid (below_then HF.out hb0).drew; have P0d := P0.new ((Below.refl _ _).drew)))
      go_region_held3 (fun w' => w'.cell? ⟨w.heap.size, 0, none⟩ = some (.int .u64 place) ∧ w'.cell? ⟨w.heap.size, 1, none⟩ = some (.slice A p.length c)) (go_keep) (first
        | (go_at_call 28; (with_reducible refine (twinR A p p.length c _ (hp.new B0.out) rfl hl).mono ?_); rintro e1 w1 ⟨A1, c1, rfl, hn1⟩; have P1 := P0d.new hn1.below; have y0 := P1.c0; have y1 := P1.c1; have B1 := Lib.hid (below_then B0.out hn1.below))
        | (go_at_call 27; (with_reducible refine (made_none place hpl A1 p p.length c1 2 2 _ hn1.own.rb rfl hl HE.out hk2.out).mono ?_); rintro e2 w2 ⟨A2, c2, rfl, hn2⟩; have P2 := P1.new hn2.below; have z0 := P2.c0; have z1 := P2.c1; have B2 := Lib.hid (below_then B1.out hn2.below)))
      go_wp2_with (go_at_call 33; (with_reducible refine (fits_long A p.length c _ hlong).mono ?_); rintro e9 w9 ⟨rfl, rfl⟩)
      go_ret
      exact ⟨rfl, B2.out⟩
    · have HE := Lib.hid (show encF place p = ([], 3) by unfold encF; rw [if_neg hlong, if_pos (by omega)])
      have HZ := Lib.hid (show p.length = 0 by omega)
      clear hfit hlong
      go_enter Try.func11, Try.ntmps11
      go_wp2_with (first
        | (go_at_call 26; (with_reducible refine (fawake_calls _).mono ?_); rintro e0 w0 ⟨rfl, hb0⟩; have P0 := HPR.out.new hb0; have x0 := P0.c0; have x1 := P0.c1; have B0 := Lib.hid (below_then HF.out hb0).drew; have P0d := P0.new ((Below.refl _ _).drew)))
      go_region_held3 (fun w' => w'.cell? ⟨w.heap.size, 0, none⟩ = some (.int .u64 place) ∧ w'.cell? ⟨w.heap.size, 1, none⟩ = some (.slice A p.length c)) (go_keep) (first
        | (go_at_call 28; (with_reducible refine (twinR A p p.length c _ (hp.new B0.out) rfl hl).mono ?_); rintro e1 w1 ⟨A1, c1, rfl, hn1⟩; have P1 := P0d.new hn1.below; have y0 := P1.c0; have y1 := P1.c1; have B1 := Lib.hid (below_then B0.out hn1.below))
        | (go_at_call 27; (with_reducible refine (made_none place hpl A1 p p.length c1 3 3 _ hn1.own.rb rfl hl HE.out hk3.out).mono ?_); rintro e2 w2 ⟨A2, c2, rfl, hn2⟩; have P2 := P1.new hn2.below; have z0 := P2.c0; have z1 := P2.c1; have B2 := Lib.hid (below_then B1.out hn2.below)))
      go_wp2_with (go_at_call 33; (with_reducible refine (fits_none A p.length c _ HZ.out).mono ?_); rintro e9 w9 ⟨rfl, rfl⟩)
      go_ret
      exact ⟨rfl, B2.out⟩
theorem frameTurned_row (a : Int) (h0 : 0 ≤ a) (h1 : a ≤ 18446744073709551615) (A : Option Addr) (p : List UInt8) (c : Nat) (at_ : Int) (hat : -9223372036854775808 ≤ at_ ∧ at_ ≤ 9223372036854775807) (y : UInt8) (w : World) (hp : RB w A c p) (hl : p.length ≤ 140737488355328) :
    Calls Try.prog 11 #[.agg #[.int .u64 a, .slice A p.length c], .int .i64 at_, .int .u8 (uB y)] w fun e w' => e = .returned (.bool true) ∧ Below w.heap.size w w' := by
  obtain ⟨n, rfl⟩ := Int.eq_ofNat_of_zero_le h0
  exact frameTurned_calls n (by omega) A p c at_ hat y w hp hl
end Go.Proofs.Ytdpmalegpjimfaa
