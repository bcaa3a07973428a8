/- WireShort. -/
import Derived.Test.YtdpmalegpjimfabWireOneWay
namespace Go.Proofs.Ytdpmalegpjimfab
open Go.RowKit

/-- a script of one thing, as a literal lays it -/
theorem Ops.one (w : World) (o : OpV) (ho : OpOk w o) (t : TypeId) : Ops (w.alloc (.cells #[.int .i64 o.k, .int .u64 o.v, .int .i64 o.n, .slice o.A o.P.length o.c] t)) (some ⟨w.heap.size, 0, none⟩) [o] := by
  refine ⟨fun i hi => ?_, fun x hx => ?_⟩
  · obtain rfl : i = 0 := by simpa using hi
    have q := Quad.fresh w w.heap.size rfl (.int .i64 o.k) (.int .u64 o.v) (.int .i64 o.n) (.slice o.A o.P.length o.c) t
    exact ⟨_, rfl, q.c0, q.c1, q.c2, q.c3⟩
  · obtain rfl : x = o := by simpa using hx
    exact ho.new (below_alloc1 (Below.refl _ _) (Nat.le_refl _) _)
theorem laidAll_one (o : OpV) : laidAll [o] = laidL o.k o.v o.P := by simp [laidAll]

theorem rrawN (F : Nat → Prop) (b : Nat) (P : List UInt8) (at_ e : Nat) (n : Int) (w : World) (N : Nat) (hr : Rd w F b P at_ e) (hl : P.length ≤ 140737488355328) (hn : n ≤ 9223372036854775807) (q : List UInt8) (a2 e2 : Nat) (hq : WireMath.rawS P at_ e n = (q, a2, e2)) (hN : N = q.length) :
    Calls Try.prog 44 #[.pointer (some ⟨b, 0, none⟩), .int .i64 n] w fun e' w' => ∃ A' c', e' = .returned (.slice A' N c') ∧ Got w w' F b P (.slice A' N c') (q, a2, e2) := by
  subst hN
  have := rraw_calls F b P at_ e n w hr hl hn
  rw [hq] at this
  exact this
set_option maxHeartbeats 1000000 in
set_option maxRecDepth 100000 in
theorem wireShort_calls (o : OpV) (n : Int) (A : Option Addr) (R : List UInt8) (m c : Nat) (w : World) (hok : OpOk w o) (hR : RB w A c R) (hm : m = R.length) (hb : o.P.length + R.length + 5 ≤ 1048576) (ol : Nat) (hol : ol = o.P.length) :
    Calls Try.prog 11 #[.agg #[.int .i64 o.k, .int .u64 o.v, .int .i64 o.n, .slice o.A ol o.c], .int .i64 n, .slice A m c] w fun e w' => e = .returned (.bool true) ∧ Below w.heap.size w w' := by
  subst hm; subst hol
  have HB := Lib.hid (below_alloc1 (Below.refl w.heap.size w) (Nat.le_refl _) (.cells #[.int .i64 o.k, .int .u64 o.v, .int .i64 o.n, .slice o.A o.P.length o.c] 60))
  have HQ := Lib.hid (Quad.fresh w w.heap.size rfl (.int .i64 o.k) (.int .u64 o.v) (.int .i64 o.n) (.slice o.A o.P.length o.c) 60)
  by_cases hk : 1 ≤ o.k ∧ o.k ≤ 7
  · obtain ⟨hk1, hk7⟩ := hk
    have b1 : ¬ o.k < 1 := by omega
    have b7 : ¬ 7 < o.k := by omega
    have hLl := laidL_length o.k o.v o.P
    have hbk : bulkOps [o] ≤ 1048576 := by simp [bulkOps]; omega
    have hpl : o.P.length ≤ 4611686018427387904 := by omega
    have han : askN o.k o.P.length 0 = o.P.length := by unfold askN; rw [if_neg (by omega)]
    have HAN := Lib.hid han
    have hLe := laidAll_one o
    have htk := take_laid (laidL o.k o.v o.P ++ R) 0 o.k o.v o.P.length o.P R hk1 hk7 hok.v rfl (fun _ => rfl) (fun _ => Int.le_refl _) (by omega)
    have htc := fun m hm => take_cut o.k o.v m o.P hk1 hk7 (by omega) hm
    unfold tookOf at htk
    rw [Nat.zero_add] at htk
    generalize laidL o.k o.v o.P = L at *
    have hrw : WireMath.rawS (L ++ R) L.length 0 R.length = (R, L.length + R.length, 0) := by
      unfold WireMath.rawS
      rw [if_neg (by simp), if_neg (by omega), if_neg (by rw [List.length_append]; omega), List.drop_left' rfl]
      simp
    have HLA := Lib.hid hLe
    have HLN := Lib.hid (show L.length = (laidAll [o]).length by rw [hLe])
    have HLR := Lib.hid (show L.length + R.length = (L ++ R).length by rw [List.length_append])
    have HTK := Lib.hid htk
    have HRW := Lib.hid hrw
    have h0 := Lib.hid (show (0 : Int) = ((0 : Nat) : Int) from rfl)
    have h3 := Lib.hid (show (3 : Int) = ((3 : Nat) : Int) from rfl)
    have HD0 := Lib.hid (show (0 : Int) = ((doneE (L ++ R) (L.length + R.length) 0 : Nat) : Int) by unfold doneE; rw [if_pos (.inr (by rw [List.length_append]))]; rfl)
    clear han hLe htk hrw
    by_cases hn : 0 ≤ n ∧ n < L.length
    · obtain ⟨hn0, hn1⟩ := hn
      obtain ⟨n, rfl⟩ := Int.eq_ofNat_of_zero_le hn0
      have hnl : n < L.length := by omega
      have HTC := Lib.hid (htc n hnl)
      have HNL := Lib.hid (show n = (L.take n).length by rw [List.length_take]; omega)
      have HD3 := Lib.hid (show (3 : Int) = ((doneE (L.take n) 0 3 : Nat) : Int) by simp [doneE])
      clear htc hn0 hn1
      go_enter Try.func11, Try.ntmps11
      go_wp2_with (first
      | (go_at_call 23; (with_reducible refine (awake_calls _).mono ?_); rintro e0 w0 ⟨rfl, hb0⟩; have q0 := HQ.out.new hb0; have d0 := q0.c0; have d1 := q0.c1; have d2 := q0.c2; have d3 := q0.c3)
      | (go_at_call 41; go_loud (with_reducible refine (written_calls (some ⟨w0.heap.size, 0, none⟩) [o] 1 1 L.length _ (Ops.one w0 o ((hok.new HB.out).new hb0) 60) rfl hbk HLN.out).mono ?_); rintro e1 w1 ⟨A1, c1, rfl, hn1⟩; rw [HLA.out] at hn1; have B1 := Lib.hid (below_then (belowA (below_then HB.out hb0) (.cells #[.int .i64 o.k, .int .u64 o.v, .int .i64 o.n, .slice o.A o.P.length o.c] 60)) hn1.below); have q1 := (q0.alloc (.cells #[.int .i64 o.k, .int .u64 o.v, .int .i64 o.n, .slice o.A o.P.length o.c] 60)).new hn1.below; have r1 := hn1.own.rb; have d0 := q1.c0; have d1 := q1.c1; have d2 := q1.c2; have d3 := q1.c3; have hcut := fun w' : World => run_cut_h w' A1 L.length c1 n n rfl (Nat.le_trans (Nat.le_of_lt hnl) r1.len))
      | (go_at_call 15; go_loud (with_reducible refine (twinR A1 (L.take n) n c1 _ (r1.take n) HNL.out (by rw [← HNL.out]; omega)).mono ?_); rintro e2 w2 ⟨A2, c2, rfl, hn2⟩; have q2 := q1.new hn2.below)
      | (go_at_call 40; go_loud (with_reducible refine (newReader_own A2 (L.take n) c2 _ _ hn2.own.rb HNL.out (by rw [← HNL.out]; omega)).mono ?_); rintro e3 w3 ⟨b3, F3, rfl, hr3, hf3, hb3⟩; have q3 := q2.new hb3; have tk3 := trivial; have B3 := Lib.hid (below_then (below_then B1.out hn2.below) hb3); have d0 := q3.c0; have d1 := q3.c1; have d2 := q3.c2; have d3 := q3.c3)
      | (go_at_call 42; (have tk := tk3); clear tk3; go_loud (with_reducible refine (ask_calls o.k o.v o.n o.A o.P.length o.c 0 hpl _ _ HAN.out).mono ?_); rintro e4 w4 ⟨rfl, hb4⟩; have q4 := q3.new hb4; have B4 := Lib.hid (below_then B3.out hb4))
      | (go_at_call 29; go_loud (with_reducible refine (wtake_calls F3 b3 (L.take n) 0 0 o.k o.v o.P.length o.A o.P.length o.c _ (hr3.new hb4) (by rw [← HNL.out]; omega) (by omega) ⟨0, [], 0, 3⟩ HTC.out 0 h0.out 0 rfl).mono ?_); rintro e5 w5 ⟨A5, c5, rfl, ht5⟩; have hr5 := ht5.rd; have B5 := Lib.hid (B4.out.trans (ht5.step.below B4.out.size (fun k hk => Nat.le_trans (below_then B1.out hn2.below).size (hf3.lo k hk)))); have q5 := q4.step ht5.step (fun e => by have := hf3.lo _ e; have := q2.lt; have := hn2.below.size; have := q1.lt; omega); have r5 := (((r1.new hn2.below).new hb3).new hb4).step ht5.step (fun a ha hp hk => by have := r1.old.out a ha hp; have := hf3.lo _ hk; have := hn2.below.size; omega))
      | (go_at_call 30; go_loud (with_reducible refine (errN F3 b3 (L.take n) 0 3 3 h3.out _ hr5).mono ?_); rintro e14 w14 ⟨rfl, rfl⟩)
      | (go_at_call 25; (have tk := r5); (with_reducible refine (atN F3 b3 (L.take n) 0 3 0 h0.out _ hr5).mono ?_); rintro e15 w15 ⟨rfl, rfl⟩)
      | (go_at_call 24; (have tk := r5); (with_reducible refine (doneN F3 b3 (L.take n) 0 3 3 HD3.out _ hr5).mono ?_); rintro e16 w16 ⟨rfl, hd16⟩; have rx := r5.new (hd16.below _); have qx := q5.new (hd16.below _); have Bx := Lib.hid (B5.out.trans (hd16.below _)); clear r5)
      | (go_at_call 17; go_loud (with_reducible refine (joinN A1 A L R (L ++ R) L.length R.length (L.length + R.length) c1 c _ rx (hR.new Bx.out) rfl rfl rfl rfl (by omega)).mono ?_); rintro e6 w6 ⟨A6, c6, rfl, hn6⟩; have q6 := qx.new hn6.below)
      | (go_at_call 40; go_loud (with_reducible refine (newReader_own A6 (L ++ R) c6 _ _ hn6.own.rb HLR.out (by rw [← HLR.out]; omega)).mono ?_); rintro e7 w7 ⟨b7, F7, rfl, hr7, hf7, hb7⟩; have q7 := q6.new hb7; have tk7 := trivial; have B7 := Lib.hid (below_then (below_then Bx.out hn6.below) hb7); have d0 := q7.c0; have d1 := q7.c1; have d2 := q7.c2; have d3 := q7.c3)
      | (go_at_call 42; (have tk := tk7); clear tk7; go_loud (with_reducible refine (ask_calls o.k o.v o.n o.A o.P.length o.c 0 hpl _ _ HAN.out).mono ?_); rintro e8 w8 ⟨rfl, hb8⟩; have q8 := q7.new hb8; have B8 := Lib.hid (below_then B7.out hb8))
      | (go_at_call 29; go_loud (with_reducible refine (wtake_calls F7 b7 (L ++ R) 0 0 o.k o.v o.P.length o.A o.P.length o.c _ (hr7.new hb8) (by rw [← HLR.out]; omega) (by omega) _ HTK.out _ rfl _ rfl).mono ?_); rintro e9 w9 ⟨A9, c9, rfl, ht9⟩; have hr9 := ht9.rd; have B9 := Lib.hid (B8.out.trans (ht9.step.below B8.out.size (fun k hk => Nat.le_trans (below_then Bx.out hn6.below).size (hf7.lo k hk)))))
      | (go_at_call 44; go_loud (with_reducible refine (rrawN F7 b7 (L ++ R) L.length 0 R.length _ _ hr9 (by rw [← HLR.out]; omega) (by omega) R (L.length + R.length) 0 HRW.out rfl).mono ?_); rintro e10 w10 ⟨A10, c10, rfl, hg10⟩; have hr10 := hg10.rd; have B10 := Lib.hid (B9.out.trans ((Step.of_grown hg10.grown hr9.lo).below B9.out.size (fun k hk => Nat.le_trans (below_then Bx.out hn6.below).size (hf7.lo k hk)))))
      | (go_at_call 25; go_loud (with_reducible refine (atN F7 b7 (L ++ R) (L.length + R.length) 0 ((L.length : Int) + R.length) rfl _ hr10).mono ?_); rintro e11 w11 ⟨rfl, rfl⟩)
      | (go_at_call 32; go_loud (with_reducible refine (sameR A10 A R R R.length R.length c10 c _ hg10.own.rb (hR.new B10.out) rfl rfl true (by simp)).mono ?_); rintro e12 w12 ⟨rfl, hd12⟩)
      | (go_at_call 24; go_loud (with_reducible refine (doneN F7 b7 (L ++ R) (L.length + R.length) 0 0 HD0.out _ (hr10.new (hd12.below _))).mono ?_); rintro e13 w13 ⟨rfl, hd13⟩))
      all_goals
        go_ret
        exact ⟨rfl, (B10.out.trans (hd12.below _)).trans (hd13.below _)⟩
    · clear htc
      rcases (by omega : n < 0 ∨ (¬ n < 0 ∧ (L.length : Int) ≤ n)) with n1 | ⟨n1, n2⟩
      all_goals
        clear hn
        go_enter Try.func11, Try.ntmps11
        go_wp2_with (first
        | (go_at_call 23; (with_reducible refine (awake_calls _).mono ?_); rintro e0 w0 ⟨rfl, hb0⟩; have q0 := HQ.out.new hb0; have d0 := q0.c0; have d1 := q0.c1; have d2 := q0.c2; have d3 := q0.c3)
        | (go_at_call 41; go_loud (with_reducible refine (written_calls (some ⟨w0.heap.size, 0, none⟩) [o] 1 1 L.length _ (Ops.one w0 o ((hok.new HB.out).new hb0) 60) rfl hbk HLN.out).mono ?_); rintro e1 w1 ⟨A1, c1, rfl, hn1⟩; rw [HLA.out] at hn1; have B1 := Lib.hid (below_then (belowA (below_then HB.out hb0) (.cells #[.int .i64 o.k, .int .u64 o.v, .int .i64 o.n, .slice o.A o.P.length o.c] 60)) hn1.below); have q1 := (q0.alloc (.cells #[.int .i64 o.k, .int .u64 o.v, .int .i64 o.n, .slice o.A o.P.length o.c] 60)).new hn1.below; have r1 := hn1.own.rb; have d0 := q1.c0; have d1 := q1.c1; have d2 := q1.c2; have d3 := q1.c3; have rx := r1; have qx := q1; have Bx := B1)
        | (go_at_call 17; go_loud (with_reducible refine (joinN A1 A L R (L ++ R) L.length R.length (L.length + R.length) c1 c _ rx (hR.new Bx.out) rfl rfl rfl rfl (by omega)).mono ?_); rintro e6 w6 ⟨A6, c6, rfl, hn6⟩; have q6 := qx.new hn6.below)
        | (go_at_call 40; go_loud (with_reducible refine (newReader_own A6 (L ++ R) c6 _ _ hn6.own.rb HLR.out (by rw [← HLR.out]; omega)).mono ?_); rintro e7 w7 ⟨b7, F7, rfl, hr7, hf7, hb7⟩; have q7 := q6.new hb7; have tk7 := trivial; have B7 := Lib.hid (below_then (below_then Bx.out hn6.below) hb7); have d0 := q7.c0; have d1 := q7.c1; have d2 := q7.c2; have d3 := q7.c3)
        | (go_at_call 42; (have tk := tk7); clear tk7; go_loud (with_reducible refine (ask_calls o.k o.v o.n o.A o.P.length o.c 0 hpl _ _ HAN.out).mono ?_); rintro e8 w8 ⟨rfl, hb8⟩; have q8 := q7.new hb8; have B8 := Lib.hid (below_then B7.out hb8))
        | (go_at_call 29; go_loud (with_reducible refine (wtake_calls F7 b7 (L ++ R) 0 0 o.k o.v o.P.length o.A o.P.length o.c _ (hr7.new hb8) (by rw [← HLR.out]; omega) (by omega) _ HTK.out _ rfl _ rfl).mono ?_); rintro e9 w9 ⟨A9, c9, rfl, ht9⟩; have hr9 := ht9.rd; have B9 := Lib.hid (B8.out.trans (ht9.step.below B8.out.size (fun k hk => Nat.le_trans (below_then Bx.out hn6.below).size (hf7.lo k hk)))))
        | (go_at_call 44; go_loud (with_reducible refine (rrawN F7 b7 (L ++ R) L.length 0 R.length _ _ hr9 (by rw [← HLR.out]; omega) (by omega) R (L.length + R.length) 0 HRW.out rfl).mono ?_); rintro e10 w10 ⟨A10, c10, rfl, hg10⟩; have hr10 := hg10.rd; have B10 := Lib.hid (B9.out.trans ((Step.of_grown hg10.grown hr9.lo).below B9.out.size (fun k hk => Nat.le_trans (below_then Bx.out hn6.below).size (hf7.lo k hk)))))
        | (go_at_call 25; go_loud (with_reducible refine (atN F7 b7 (L ++ R) (L.length + R.length) 0 ((L.length : Int) + R.length) rfl _ hr10).mono ?_); rintro e11 w11 ⟨rfl, rfl⟩)
        | (go_at_call 32; go_loud (with_reducible refine (sameR A10 A R R R.length R.length c10 c _ hg10.own.rb (hR.new B10.out) rfl rfl true (by simp)).mono ?_); rintro e12 w12 ⟨rfl, hd12⟩)
        | (go_at_call 24; go_loud (with_reducible refine (doneN F7 b7 (L ++ R) (L.length + R.length) 0 0 HD0.out _ (hr10.new (hd12.below _))).mono ?_); rintro e13 w13 ⟨rfl, hd13⟩))
        all_goals
          go_ret
          exact ⟨rfl, (B10.out.trans (hd12.below _)).trans (hd13.below _)⟩
  · rcases (by omega : o.k < 1 ∨ (¬ o.k < 1 ∧ 7 < o.k)) with b1 | ⟨b1, b7⟩
    all_goals
      clear hk
      go_enter Try.func11, Try.ntmps11
      go_wp2_with (go_at_call 23; (with_reducible refine (awake_calls _).mono ?_); rintro e0 w0 ⟨rfl, hb0⟩; have q0 := HQ.out.new hb0; have d0 := q0.c0)
      go_ret
      exact ⟨rfl, below_then HB.out hb0⟩
end Go.Proofs.Ytdpmalegpjimfab
