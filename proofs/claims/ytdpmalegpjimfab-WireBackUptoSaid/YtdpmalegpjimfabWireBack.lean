/- WireBack. -/
import Derived.Test.YtdpmalegpjimfabWireAsk
namespace Go.Proofs.Ytdpmalegpjimfab
open Go.RowKit

set_option maxHeartbeats 400000 in
set_option maxRecDepth 100000 in
theorem wireBack_calls (A : Option Addr) (l : List OpV) (n c : Nat) (s : Int) (w : World) (h : Ops w A l) (hn : n = l.length) (hs : bulkOps l ≤ 1048576) :
    Calls Try.prog 9 #[.slice A n c, .int .i64 s] w fun e w' => e = .returned (.bool true) ∧ Below w.heap.size w w' := by
  subst hn
  have hlen := Nat.le_trans (bulk_len l) hs
  have htot := laidAll_le l
  have hW1 : (laidAll l).length ≤ 140737488355328 := by omega
  have hW2 : (laidAll l).length ≤ 9223372036854775807 := by omega
  go_enter Try.func9, Try.ntmps9
  go_wp2_with (first
    | (go_at_call 23; (with_reducible refine (awake_calls _).mono ?_); rintro e0 w0 ⟨rfl, hb0⟩)
    | (go_at_call 41; (with_reducible refine (written_calls A l _ c _ _ (h.new hb0) rfl hs rfl).mono ?_); rintro e1 w1 ⟨A1, c1, rfl, hn1⟩)
    | (go_at_call 40; (with_reducible refine (newReader_own A1 (laidAll l) c1 _ _ hn1.own.rb rfl hW1).mono ?_); rintro e2 w2 ⟨b, F, rfl, hr2, hf2, hb2⟩))
  have hB2 := below_then (below_then hb0 hn1.below) hb2
  have hFlo : ∀ k, F k → w.heap.size ≤ k := fun k hk => by have := hf2.lo k hk; have := (below_then hb0 hn1.below).size; omega
  go_loopw [6, 20] (fun v i wr => ∃ j : Nat, j ≤ l.length ∧ i = .int .i64 j ∧ v = .int .i64 (laidAll (l.take j)).length ∧ Rd wr F b (laidAll l) (laidAll (l.take j)).length 0 ∧ Below w.heap.size w wr ∧ w2.heap.size ≤ wr.heap.size) (fun _ i _ => l.length - (intOf i).toNat)
  case atStart => exact ⟨0, Nat.zero_le _, rfl, rfl, hr2, hB2, Nat.le_refl _⟩
  case round =>
    obtain ⟨j, hj, rfl, rfl, HRd, HB, hwr⟩ := hrel
    by_cases hlt : j < l.length
    · obtain ⟨a, o, rfl, ho, hmem, hok, k0, k1, k2, k3⟩ := (h.new HB).at_ j hlt
      have HE := laidAll_snoc l j o ho
      by_cases hk : 1 ≤ o.k ∧ o.k ≤ 7
      · obtain ⟨hk1, hk7⟩ := hk
        have b1 : ¬ o.k < 1 := by omega
        have b7 : ¬ 7 < o.k := by omega
        have hb3 := bulk_mem hmem
        have hdr := drop_laid l j o ho
        have hpl : o.P.length ≤ 4611686018427387904 := by omega
        have htk := take_laid (laidAll l) (laidAll (l.take j)).length o.k o.v (askN o.k o.P.length s) o.P _ hk1 hk7 hok.v hdr (fun e => by unfold askN; rw [if_neg (by omega)]) (fun e => by unfold askN; split <;> omega) (by omega)
        unfold tookOf at htk
        have hge := laid_ge o.k o.v o.P
        have hlenS : (laidAll (l.take (j + 1))).length = (laidAll (l.take j)).length + (laidL o.k o.v o.P).length := by rw [HE, List.length_append]
        have hjle := laidAll_le (l.take (j + 1))
        have hjb := bulk_take l (j + 1)
        generalize laidAll (l.take j) = q0 at *
        generalize laidL o.k o.v o.P = lo at *
        generalize laidAll l = W at *
        have hX := below_alloc1 (Below.refl wr.heap.size wr) (Nat.le_refl _) (.cells #[.int .i64 o.k, .int .u64 o.v, .int .i64 o.n, .slice o.A o.P.length o.c] 60)
        have hQ := Quad.fresh wr wr.heap.size rfl (.int .i64 o.k) (.int .u64 o.v) (.int .i64 o.n) (.slice o.A o.P.length o.c) 60
        have HNF : Hid (¬ F wr.heap.size) := Lib.hid (fun e => by have := hf2.hi _ e; omega)
        have HX := Lib.hid hX
        have HQ := Lib.hid hQ
        have HTK := Lib.hid htk
        have HA := Lib.hid (askN_le o.k o.P.length s hpl)
        have hsum : q0.length + lo.length ≤ 4611686018427387904 := by omega
        have HLS := Lib.hid hlenS
        have HFree : Hid (Free F o.A o.P) := Lib.hid (Free.of_old (h.ok o hmem).P.old hFlo)
        clear hX hQ htk hlenS ho hdr HE htot
        generalize hAN : askN o.k o.P.length s = an at *
        have HAN := Lib.hid hAN
        clear hAN
        have h0 := Lib.hid (show (0 : Int) = ((0 : Nat) : Int) from rfl)
        have HAT := Lib.hid (show (q0.length : Int) + lo.length = ((q0.length + lo.length : Nat) : Int) from rfl)
        by_cases h6 : 6 ≤ o.k
        · have hge2 := hge h6 hk7
          clear hge
          rw [if_neg (by omega), if_neg (by omega)] at HTK
          have hcm : ¬ lo.length < o.P.length := by omega
          have hcm2 : ¬ ((q0.length : Int) + lo.length < (q0.length : Int) + o.P.length) := by omega
          go_wp2_with (first
            | (go_at_call 42; (with_reducible refine (ask_calls o.k o.v o.n o.A o.P.length o.c s hpl _ an HAN.out).mono ?_); rintro e5 w5 ⟨rfl, hb5⟩; have q5 := HQ.out.new hb5)
            | (go_at_call 29; go_loud (with_reducible refine (wtake_calls F b W q0.length 0 o.k o.v an o.A o.P.length o.c _ ((HRd.new HX.out).new hb5) hW1 HA.out ⟨0, o.P, q0.length + lo.length, 0⟩ HTK.out 0 h0.out o.P.length rfl).mono ?_); rintro e6 w6 ⟨A6, c6, rfl, ht6⟩; have q6 := q5.step ht6.step HNF.out; have d0 := q6.c0; have d1 := q6.c1; have d2 := q6.c2; have d3 := q6.c3; have hr6 := ht6.rd)
            | (go_at_call 32; go_loud (with_reducible refine (sameR A6 o.A o.P o.P o.P.length o.P.length c6 o.c _ ht6.own.rb (((hok.P.new HX.out).new hb5).step ht6.step HFree.out) rfl rfl true (by simp)).mono ?_); rintro e7 w7 ⟨rfl, hd7⟩)
            | (go_at_call 30; go_loud (with_reducible refine (errN F b W (q0.length + lo.length) 0 0 h0.out _ (hr6.new (hd7.below _))).mono ?_); rintro e8 w8 ⟨rfl, rfl⟩)
            | (go_at_call 25; go_loud (with_reducible refine (atN F b W (q0.length + lo.length) 0 ((q0.length : Int) + lo.length) HAT.out _ (hr6.new (hd7.below _))).mono ?_); rintro e9 w9 ⟨rfl, rfl⟩))
          go_roundw
          case rel =>
            have B6 := (below_then (below_then HB HX.out) hb5).trans (ht6.step.below (Nat.le_trans (Nat.le_trans HB.size HX.out.size) hb5.size) hFlo)
            have B7 := B6.trans (hd7.below _)
            have S7 := Nat.le_trans (Nat.le_trans (Nat.le_trans (Nat.le_trans hwr HX.out.size) hb5.size) ht6.step.size) (hd7.below 0).size
            exact ⟨j + 1, by omega, by go_num, by rw [HLS.out]; rfl, by rw [HLS.out]; exact (hr6.new (hd7.below _)), B7, S7⟩
          case measure => simp [intOf]; omega
        · rw [if_pos (by omega), if_pos (by omega)] at HTK
          have hcl := cutN_le o.k o.v
          have hct := Lib.hid (fun w' => cut_calls o.k o.v o.n o.A o.P.length o.c w' hok.v)
          generalize cutN o.k o.v = x at *
          have h6' : o.k < 6 := by omega
          go_wp2_with (first
            | (go_at_call 42; (with_reducible refine (ask_calls o.k o.v o.n o.A o.P.length o.c s hpl _ an HAN.out).mono ?_); rintro e5 w5 ⟨rfl, hb5⟩; have q5 := HQ.out.new hb5)
            | (go_at_call 29; go_loud (with_reducible refine (wtake_calls F b W q0.length 0 o.k o.v an o.A o.P.length o.c _ ((HRd.new HX.out).new hb5) hW1 HA.out ⟨x, [], q0.length + lo.length, 0⟩ HTK.out x rfl 0 rfl).mono ?_); rintro e6 w6 ⟨A6, c6, rfl, ht6⟩; have q6 := q5.step ht6.step HNF.out; have d0 := q6.c0; have d1 := q6.c1; have d2 := q6.c2; have d3 := q6.c3; have hr6 := ht6.rd)
            | (go_at_call 43; go_loud (with_reducible refine (hct.out _).mono ?_); rintro e7 w7 ⟨rfl, hb7⟩)
            | (go_at_call 30; go_loud (with_reducible refine (errN F b W (q0.length + lo.length) 0 0 h0.out _ (hr6.new hb7)).mono ?_); rintro e8 w8 ⟨rfl, rfl⟩)
            | (go_at_call 25; go_loud (with_reducible refine (atN F b W (q0.length + lo.length) 0 ((q0.length : Int) + lo.length) HAT.out _ (hr6.new hb7)).mono ?_); rintro e9 w9 ⟨rfl, rfl⟩))
          go_roundw
          case rel =>
            have B6 := (below_then (below_then HB HX.out) hb5).trans (ht6.step.below (Nat.le_trans (Nat.le_trans HB.size HX.out.size) hb5.size) hFlo)
            have B7 := below_then B6 hb7
            have S7 := Nat.le_trans (Nat.le_trans (Nat.le_trans (Nat.le_trans hwr HX.out.size) hb5.size) ht6.step.size) hb7.size
            exact ⟨j + 1, by omega, by go_num, by rw [HLS.out]; rfl, by rw [HLS.out]; exact (hr6.new hb7), B7, S7⟩
          case measure => simp [intOf]; omega
      · have HN : laidL o.k o.v o.P = [] := by
          have h3 : ¬ 0 < widthF o.k := fun h => by have := (widthF_pos o.k).1 h; omega
          unfold laidL
          rw [if_neg h3, if_neg (by omega), if_neg (by omega), if_neg (by omega)]
        rw [HN, List.append_nil] at HE
        have HE2 := Lib.hid HE
        have HX := Lib.hid (below_alloc1 (Below.refl wr.heap.size wr) (Nat.le_refl _) (.cells #[.int .i64 o.k, .int .u64 o.v, .int .i64 o.n, .slice o.A o.P.length o.c] 60))
        clear HE HN ho
        rcases (by omega : o.k < 1 ∨ (¬ o.k < 1 ∧ 7 < o.k)) with b1 | ⟨b1, b7⟩
        all_goals
          clear hk
          go_wp2
          go_roundw
          case rel => exact ⟨j + 1, by omega, by go_num, by rw [HE2.out], by rw [HE2.out]; exact HRd.new HX.out, below_then HB HX.out, Nat.le_trans hwr HX.out.size⟩
          case measure => simp [intOf]; omega
    · obtain rfl : j = l.length := by omega
      rw [List.take_length] at HRd
      rw [List.take_length]
      have HWR : Hid (∃ W, W = laidAll l) := Lib.hid ⟨_, rfl⟩
      obtain ⟨W, hW⟩ := HWR.out
      rw [← hW] at HRd hW1 hW2
      rw [← hW]
      have HWL := Lib.hid (show W.length = (laidAll l).length by rw [hW])
      have h0 := Lib.hid (show (0 : Int) = ((doneE W W.length 0 : Nat) : Int) by unfold doneE; rw [if_pos (.inr rfl)]; rfl)
      clear hlt htot hW hn1 hr2
      go_wp2_with (first
        | (go_at_call 24; (with_reducible refine (doneN F b W W.length 0 0 h0.out _ HRd).mono ?_); rintro e3 w3 ⟨rfl, hd3⟩)
        | (go_at_call 41; (with_reducible refine (written_calls A l l.length c W.length _ ((h.new HB).new (hd3.below _)) rfl hs HWL.out).mono ?_); rintro e4 w4 ⟨A4, c4, rfl, hn4⟩))
      go_ret
      exact ⟨rfl, below_then (HB.trans (hd3.below _)) hn4.below⟩
end Go.Proofs.Ytdpmalegpjimfab
