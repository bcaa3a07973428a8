/- FrameTorn. Printed in part by a program (the beginnings of FrameTurned's cases). -/
import Derived.Test.YtdpmalegpjimfabFrameFits
import Derived.Test.YtdpmalegpjimfabFrameTornMath
import Derived.Test.YtdpmalegpjimfabScanWalk
import Derived.Test.YtdpmalegpjimfabWireCut
import Derived.Deep.RegionHeld3
namespace Go.Proofs.Ytdpmalegpjimfab
open Go.RowKit
open FrameMath (laid)

set_option maxHeartbeats 2000000 in
set_option maxRecDepth 100000 in
theorem frameTorn_calls (place : Nat) (hpl : place ≤ 18446744073709551615) (A : Option Addr) (p : List UInt8) (c : Nat) (cut : Int) (hcut : -9223372036854775808 ≤ cut ∧ cut ≤ 9223372036854775807) (ns : Int) (hns : -9223372036854775808 ≤ ns ∧ ns ≤ 9223372036854775807) (w : World) (hp : RB w A c p) (hl : p.length ≤ 140737488355328) :
    Calls Try.prog 3 #[.agg #[.int .u64 place, .slice A p.length c], .int .i64 cut, .int .i64 ns] w fun e w' => e = .returned (.bool true) ∧ Below w.heap.size w w' := by
  have hk0 := Lib.hid (show (0 : Int) = ((0 : Nat) : Int) from rfl)
  have hk2 := Lib.hid (show (2 : Int) = ((2 : Nat) : Int) from rfl)
  have hk3 := Lib.hid (show (3 : Int) = ((3 : Nat) : Int) from rfl)
  have HF := Lib.hid (below_alloc1 (Below.refl w.heap.size w) (Nat.le_refl _) (.cells #[.int .u64 place, .slice A p.length c] 25))
  have HPR := Lib.hid (Pair.fresh w (.int .u64 place) (.slice A p.length c) 25)
  by_cases hfit : 1 ≤ p.length ∧ p.length ≤ 65535
  · obtain ⟨f1, f2⟩ := hfit
    have htorn := fun x m h => torn_none place p f1 f2 x m h
    have HLL := Lib.hid (FrameMath.laid_length place p)
    generalize hld : laid place p = ld at *
    have HLD := Lib.hid hld
    have HT := Lib.hid htorn
    clear hld htorn
    by_cases hpos : cut < 0 ∨ (p.length : Int) + 18 ≤ cut ∨ ns < 0 ∨ 200000 < ns
    · rcases (by omega : cut < 0 ∨ (¬ cut < 0 ∧ (p.length : Int) + 18 ≤ cut) ∨ (¬ cut < 0 ∧ ¬ (p.length : Int) + 18 ≤ cut ∧ ns < 0) ∨ (¬ cut < 0 ∧ ¬ (p.length : Int) + 18 ≤ cut ∧ ¬ ns < 0 ∧ 200000 < ns)) with g1 | ⟨g1, g2⟩ | ⟨g1, g2, g3⟩ | ⟨g1, g2, g3, g4⟩
      all_goals
        clear hpos
        go_enter Try.func3, Try.ntmps3
        go_wp2_with (first
          | (go_at_call 13; (with_reducible refine (fawake_calls _).mono ?_); rintro e0 w0 ⟨rfl, hb0⟩; have P0 := HPR.out.new hb0; have x0 := P0.c0; have x1 := P0.c1; have B0 := Lib.hid (below_then HF.out hb0).drew; have P0d := P0.new ((Below.refl _ _).drew)))
        go_region_held3 (fun w' => w'.cell? ⟨w.heap.size, 0, none⟩ = some (.int .u64 place) ∧ w'.cell? ⟨w.heap.size, 1, none⟩ = some (.slice A p.length c)) (go_keep) (first
          | (go_at_call 15; (with_reducible refine (twinR A p p.length c _ (hp.new B0.out) rfl hl).mono ?_); rintro e1 w1 ⟨A1, c1, rfl, hn1⟩; have P1 := P0d.new hn1.below; have y0 := P1.c0; have y1 := P1.c1; have B1 := Lib.hid (below_then B0.out hn1.below))
          | (go_at_call 14; (with_reducible refine (made_ok place place rfl hpl A1 p ld p.length (p.length + 18) c1 _ hn1.own.rb rfl f1 f2 rfl HLD.out).mono ?_); rintro e2 w2 ⟨A2, c2, rfl, hn2⟩; have P2 := P1.new hn2.below; have z0 := P2.c0; have z1 := P2.c1; have B2 := Lib.hid (below_then B1.out hn2.below)))
        go_wp2_with (go_at_call 16; (with_reducible refine (fits_yes A p.length c _ f1 f2).mono ?_); rintro e9 w9 ⟨rfl, rfl⟩)
        all_goals go_ret
        all_goals exact ⟨rfl, B2.out⟩
    · obtain ⟨i, rfl⟩ := Int.eq_ofNat_of_zero_le (by omega : 0 ≤ cut)
      obtain ⟨m, rfl⟩ := Int.eq_ofNat_of_zero_le (by omega : 0 ≤ ns)
      have hi : i < p.length + 18 := by omega
      have hm : m ≤ 200000 := by omega
      have g1 : ¬ (i : Int) < 0 := by omega
      have g2 : ¬ (p.length : Int) + 18 ≤ i := by omega
      have g3 : ¬ (m : Int) < 0 := by omega
      have g4 : ¬ 200000 < (m : Int) := by omega
      have hq := HT.out i m hi
      have hno := next_other _ 0 hq
      have hsc := scan_torn _ hq
      have hql : (ld.take i ++ List.replicate m 0).length = i + m := by rw [List.length_append, List.length_take, List.length_replicate, HLL.out]; omega
      rw [hql] at hno
      have HQL := Lib.hid hql.symm
      have hil : (ld.take i).length = i := by rw [List.length_take, HLL.out]; omega
      have HIL := Lib.hid hil.symm
      obtain ⟨Z, hZ, hmk⟩ := make_noughts m (by omega)
      have HZ := Lib.hid hZ
      obtain ⟨kk, hkk⟩ : ∃ kk : Nat, kk = if (0 : Int) = ((i + m : Nat) : Int) then 0 else 2 := ⟨_, rfl⟩
      rw [← hkk] at hno
      have hk1 : ((kk : Int) != 1) = true := by rw [hkk]; split <;> rfl
      have hk2' : ((kk : Int) == 0) = (((i : Int) + m) == 0) := by
        rw [hkk]
        by_cases hz : i + m = 0
        · rw [if_pos (by omega)]
          have : ((i : Int) + m) = 0 := by omega
          rw [this]; rfl
        · rw [if_neg (by omega)]
          have : (((i : Int) + m) == 0) = false := by rw [beq_eq_false_iff_ne]; omega
          rw [this]; rfl
      have HX := Lib.hid (show nextF (ld.take i ++ List.replicate m 0) 0 = ⟨kk, 0, [], 0⟩ from hno)
      have HSC := Lib.hid hsc
      have hscan : ∀ (w' : World) (A' : Option Addr) (c' : Nat), RB w' A' c' (ld.take i ++ List.replicate m 0) → Calls Try.prog 19 #[.slice A' (i + m) c'] w' fun e w'' => ∃ A' c' fs, e = .returned (.tuple #[.slice A' 0 c', .int .i64 0]) ∧ FL w'' w'.heap.size 33 (.slice A' 0 c') fs ∧ frOf fs = [] ∧ Below w'.heap.size w' w'' := by
        intro w' A' c' h
        have := scan_calls A' _ (i + m) c' w' h hql.symm (by omega)
        rw [hsc] at this
        exact this
      have HSCAN := Lib.hid hscan
      clear hscan
      generalize hqd : ld.take i ++ List.replicate m 0 = q at *
      have HQD := Lib.hid hqd
      clear hkk hq hno hsc hql hil hZ hpos hqd
      have hsl := fun (w' : World) (A' : Option Addr) (c' : Nat) (h : p.length + 18 ≤ c') => run_cut_h w' A' (p.length + 18) c' i i rfl (by omega)
      have HSL := Lib.hid hsl
      clear hsl
      go_enter Try.func3, Try.ntmps3
      go_wp2_with (first
        | (go_at_call 13; (with_reducible refine (fawake_calls _).mono ?_); rintro e0 w0 ⟨rfl, hb0⟩; have P0 := HPR.out.new hb0; have x0 := P0.c0; have x1 := P0.c1; have B0 := Lib.hid (below_then HF.out hb0).drew; have P0d := P0.new ((Below.refl _ _).drew)))
      go_region_held3 (fun w' => w'.cell? ⟨w.heap.size, 0, none⟩ = some (.int .u64 place) ∧ w'.cell? ⟨w.heap.size, 1, none⟩ = some (.slice A p.length c)) (go_keep) (first
        | (go_at_call 15; (with_reducible refine (twinR A p p.length c _ (hp.new B0.out) rfl hl).mono ?_); rintro e1 w1 ⟨A1, c1, rfl, hn1⟩; have P1 := P0d.new hn1.below; have y0 := P1.c0; have y1 := P1.c1; have B1 := Lib.hid (below_then B0.out hn1.below))
        | (go_at_call 14; (with_reducible refine (made_ok place place rfl hpl A1 p ld p.length (p.length + 18) c1 _ hn1.own.rb rfl f1 f2 rfl HLD.out).mono ?_); rintro e2 w2 ⟨A2, c2, rfl, hn2⟩; have P2 := P1.new hn2.below; have z0 := P2.c0; have z1 := P2.c1; have B2 := Lib.hid (below_then B1.out hn2.below)))
      go_wp2_with (go_at_call 16; (with_reducible refine (fits_yes A p.length c _ f1 f2).mono ?_); rintro e9 w9 ⟨rfl, rfl⟩)
      have hsl := fun w' => HSL.out w' A2 c2 (by have := hn2.own.rb.len; have := HLL.out; omega)
      go_region_held3 (fun _ => True) (exact trivial) (first
        | (go_at_call 17; (with_reducible refine (joinN A2 (some ⟨w2.heap.size, 0, Option.none⟩) (ld.take i) (List.replicate m 0) q i m (i + m) c2 m _ ?_ ?_ HIL.out (by simp) (by rw [← HIL.out]; simp) HQD.out (by rw [← HIL.out]; simp; omega)).mono ?_); (· (repeat (first | exact hn2.own.rb.take i | refine RB.alloc ?_ _ | refine RB.drewF ?_))); (· (repeat (first | exact RB.noughts w2 _ Z m HZ.out _ rfl (by omega) | exact RB.noughts w2.drew _ Z m HZ.out _ rfl (by omega) | refine RB.drewF ?_))); rintro e3 w3 ⟨A3, c3, rfl, hn3⟩; have B3 : Below w.heap.size w w3 := below_then (by (repeat (first | exact B2.out | refine belowA ?_ _ | refine Below.drew ?_))) hn3.below))
      go_wp2_with (first
        | (go_at_call 18; go_loud (with_reducible refine (nextN A3 q (i + m) c3 0 (by decide) _ hn3.own.rb HQL.out (by rw [← HQL.out]; omega) kk 0 0 kk 0 0 [] HX.out rfl hk0.out rfl).mono ?_); rintro e4 w4 ⟨A4, c4, rfl, hn4⟩)
        | (go_at_call 19; go_loud (with_reducible refine (HSCAN.out _ A3 c3 ((hn3.own.rb.new hn4.below).alloc _)).mono ?_); rintro e5 w5 ⟨A5, c5, fs, rfl, _, _, hb5⟩; have B5 := Lib.hid (below_then (belowA (below_then B3 hn4.below) (.cells #[.int .u64 0, .slice A4 0 c4] 33)) hb5); have q5 := (Pair.fresh w4 (.int .u64 0) (.slice A4 0 c4) 33).new hb5; have y0 := q5.c0; have y1 := q5.c1; have r4 := Lib.hid ((hn4.own.rb.alloc (.cells #[.int .u64 0, .slice A4 0 c4] 33)).new hb5))
        | (go_at_call 20; go_loud (with_reducible refine (fempty0 A4 c4 _ r4.out 0 hk0.out).mono ?_); rintro e6 w6 ⟨rfl, hb6⟩))
      go_ret
      exact ⟨rfl, below_then B5.out hb6⟩
  · by_cases hlong : 65535 < p.length
    · have HE := Lib.hid (show encF place p = ([], 2) by unfold encF; rw [if_pos hlong])
      clear hfit
      go_enter Try.func3, Try.ntmps3
      go_wp2_with (first
        | (go_at_call 13; (with_reducible refine (fawake_calls _).mono ?_); rintro e0 w0 ⟨rfl, hb0⟩; have P0 := HPR.out.new hb0; have x0 := P0.c0; have x1 := P0.c1; have B0 := Lib.hid (below_then HF.out hb0).drew; have P0d := P0.new ((Below.refl _ _).drew)))
      go_region_held3 (fun w' => w'.cell? ⟨w.heap.size, 0, none⟩ = some (.int .u64 place) ∧ w'.cell? ⟨w.heap.size, 1, none⟩ = some (.slice A p.length c)) (go_keep) (first
        | (go_at_call 15; (with_reducible refine (twinR A p p.length c _ (hp.new B0.out) rfl hl).mono ?_); rintro e1 w1 ⟨A1, c1, rfl, hn1⟩; have P1 := P0d.new hn1.below; have y0 := P1.c0; have y1 := P1.c1; have B1 := Lib.hid (below_then B0.out hn1.below))
        | (go_at_call 14; (with_reducible refine (made_none place hpl A1 p p.length c1 2 2 _ hn1.own.rb rfl hl HE.out hk2.out).mono ?_); rintro e2 w2 ⟨A2, c2, rfl, hn2⟩; have P2 := P1.new hn2.below; have z0 := P2.c0; have z1 := P2.c1; have B2 := Lib.hid (below_then B1.out hn2.below)))
      go_wp2_with (go_at_call 16; (with_reducible refine (fits_long A p.length c _ hlong).mono ?_); rintro e9 w9 ⟨rfl, rfl⟩)
      go_ret
      exact ⟨rfl, B2.out⟩
    · have HE := Lib.hid (show encF place p = ([], 3) by unfold encF; rw [if_neg hlong, if_pos (by omega)])
      have HZ := Lib.hid (show p.length = 0 by omega)
      clear hfit hlong
      go_enter Try.func3, Try.ntmps3
      go_wp2_with (first
        | (go_at_call 13; (with_reducible refine (fawake_calls _).mono ?_); rintro e0 w0 ⟨rfl, hb0⟩; have P0 := HPR.out.new hb0; have x0 := P0.c0; have x1 := P0.c1; have B0 := Lib.hid (below_then HF.out hb0).drew; have P0d := P0.new ((Below.refl _ _).drew)))
      go_region_held3 (fun w' => w'.cell? ⟨w.heap.size, 0, none⟩ = some (.int .u64 place) ∧ w'.cell? ⟨w.heap.size, 1, none⟩ = some (.slice A p.length c)) (go_keep) (first
        | (go_at_call 15; (with_reducible refine (twinR A p p.length c _ (hp.new B0.out) rfl hl).mono ?_); rintro e1 w1 ⟨A1, c1, rfl, hn1⟩; have P1 := P0d.new hn1.below; have y0 := P1.c0; have y1 := P1.c1; have B1 := Lib.hid (below_then B0.out hn1.below))
        | (go_at_call 14; (with_reducible refine (made_none place hpl A1 p p.length c1 3 3 _ hn1.own.rb rfl hl HE.out hk3.out).mono ?_); rintro e2 w2 ⟨A2, c2, rfl, hn2⟩; have P2 := P1.new hn2.below; have z0 := P2.c0; have z1 := P2.c1; have B2 := Lib.hid (below_then B1.out hn2.below)))
      go_wp2_with (go_at_call 16; (with_reducible refine (fits_none A p.length c _ HZ.out).mono ?_); rintro e9 w9 ⟨rfl, rfl⟩)
      go_ret
      exact ⟨rfl, B2.out⟩
theorem frameTorn_row (a : Int) (h0 : 0 ≤ a) (h1 : a ≤ 18446744073709551615) (A : Option Addr) (p : List UInt8) (c : Nat) (cut : Int) (hcut : -9223372036854775808 ≤ cut ∧ cut ≤ 9223372036854775807) (ns : Int) (hns : -9223372036854775808 ≤ ns ∧ ns ≤ 9223372036854775807) (w : World) (hp : RB w A c p) (hl : p.length ≤ 140737488355328) :
    Calls Try.prog 3 #[.agg #[.int .u64 a, .slice A p.length c], .int .i64 cut, .int .i64 ns] w fun e w' => e = .returned (.bool true) ∧ Below w.heap.size w w' := by
  obtain ⟨n, rfl⟩ := Int.eq_ofNat_of_zero_le h0
  exact frameTorn_calls n (by omega) A p c cut hcut ns hns w hp hl
end Go.Proofs.Ytdpmalegpjimfab
