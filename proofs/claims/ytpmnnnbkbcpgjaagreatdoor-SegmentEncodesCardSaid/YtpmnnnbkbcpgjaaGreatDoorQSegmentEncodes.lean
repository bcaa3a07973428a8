import Derived.Test.YtpmnnnbkbcpgjaaGreatDoorQSegAwake
import Derived.Test.YtpmnnnbkbcpgjaaGreatDoorQSegDoc
import Derived.Test.YtpmnnnbkbcpgjaaGreatDoorQSegDocHead
import Derived.Test.YtpmnnnbkbcpgjaaGreatDoorQBi
/- The walk of notarylaw08.SegmentEncodes. -/
namespace Go.Proofs.YtpmnnnbkbcpgjaaGreatDoor
open Go.RowKit

set_option maxHeartbeats 400000 in
set_option maxRecDepth 100000 in
theorem segmentEncodes_calls (N E F x : Int) (hN0 : 0 ≤ N) (hN1 : N ≤ 18446744073709551615) (hE0 : 0 ≤ E) (hE1 : E ≤ 18446744073709551615) (hF0 : 0 ≤ F) (hF1 : F ≤ 18446744073709551615) (V : Int) (hV0 : 0 ≤ V) (hV1 : V ≤ 18446744073709551615) (A : Option Addr) (es : List EnX) (n c : Nat) (w : World) (hL : Laid8 w) (h : Ents w A es) (hn : n = es.length) (hl : n * 56 ≤ 140737488351232) (hs0 : ∀ x ∈ es, x.1.K.length ≤ 140737488351232 ∧ x.1.V.length ≤ 140737488351232) :
    Calls Tryz.prog 4 #[.agg #[.int .u64 N, .int .u64 E, .int .u64 F, .int .i64 x], .agg #[.int .u64 V, .slice A n c]] w fun r w' => r = .returned (.bool true) ∧ Below w.heap.size w w' := by
  obtain ⟨k, rfl⟩ := Int.eq_ofNat_of_zero_le hN0
  obtain ⟨ep, rfl⟩ := Int.eq_ofNat_of_zero_le hE0
  obtain ⟨fi, rfl⟩ := Int.eq_ofNat_of_zero_le hF0
  obtain ⟨f, rfl⟩ := Int.eq_ofNat_of_zero_le hV0
  have hk : k ≤ 18446744073709551615 := by omega
  have hep : ep ≤ 18446744073709551615 := by omega
  have hfi : fi ≤ 18446744073709551615 := by omega
  have hf : f ≤ 18446744073709551615 := by omega
  have hs : SmallEs es := fun x hx => by have := hs0 x hx; omega
  have R0 := Row.fresh w w.heap.size rfl 32 [.int .u64 k, .int .u64 ep, .int .u64 fi, .int .i64 x] #[.int .u64 k, .int .u64 ep, .int .u64 fi, .int .i64 x] rfl
  have HB1 := below_alloc1 (Below.refl w.heap.size w) (Nat.le_refl _) (.cells #[.int .u64 k, .int .u64 ep, .int .u64 fi, .int .i64 x] 32)
  have n0 := Bl.alloc (w.alloc (.cells #[.int .u64 k, .int .u64 ep, .int .u64 fi, .int .i64 x] 32)) (.cells #[.int .u64 f, .slice A n c] 35)
  have R := Lib.hid (R0.new n0)
  have HB := Lib.hid (belowA HB1 (.cells #[.int .u64 f, .slice A n c] 35))
  have HT := Lib.hid (Duo.fresh (w.alloc (.cells #[.int .u64 k, .int .u64 ep, .int .u64 fi, .int .i64 x] 32)) (w.heap.size + 1) (asz _ _) (.int .u64 f) (.slice A n c) 35)
  have HN := Lib.hid hn
  have hl5 : n * 56 ≤ 140737488355328 := by omega
  have hl6 : n ≤ 9223372036854775807 := by omega
  obtain ⟨q, eE, hq⟩ : ∃ q eE, segB f (ensOf es) = (q, eE) := ⟨_, _, rfl⟩
  obtain ⟨p, eH, hp⟩ : ∃ p eH, encH k ep fi x = (p, eH) := ⟨_, _, rfl⟩
  have HQ := Lib.hid hq
  have HP := Lib.hid hp
  have HQQ := Lib.hid (beq_self_eq_true q)
  have HPP := Lib.hid (beq_self_eq_true p)
  have hee : ((eE : Int) == eE) = true := beq_self_eq_true _
  have heh : ((eH : Int) == eH) = true := beq_self_eq_true _
  obtain ⟨np, hnp⟩ : ∃ m, m = p.length := ⟨_, rfl⟩
  obtain ⟨nq, hnq⟩ : ∃ m, m = q.length := ⟨_, rfl⟩
  have HNP := Lib.hid hnp
  have HNQ := Lib.hid hnq
  have HL := Lib.hid (hL.below HB.out)
  have HE := Lib.hid h
  clear hn hq hp hs0 hl R0 HB1 n0 hnp hnq hL hN0 hN1 hE0 hE1 hF0 hF1 hV0 hV1 h
  go_enter Tryz.func4, Tryz.ntmps4
  go_wp2_with (first
    | (go_at_call 12; go_loud (with_reducible refine (awake8_calls _ HL.out).mono ?_); rintro x1 w1 ⟨rfl, hb1⟩; have B1 := Lib.hid (below_then HB.out hb1); have T1 := Lib.hid (HT.out.new hb1); have R1 := R.out.new hb1; have x0 := R1.c 0 _ rfl; have x1 := R1.c 1 _ rfl; have x2 := R1.c 2 _ rfl; have x3 := R1.c 3 _ rfl; have R1 := Lib.hid R1)
    | (go_at_call 17; go_loud (with_reducible refine (encHeadN k ep fi x hk hep hfi p eH HP.out np HNP.out _).mono ?_); rintro x2 w2 ⟨A2, c2, rfl, hn2⟩; have B2 := Lib.hid (below_then B1.out hn2.below); have T2 := Lib.hid (T1.out.new hn2.below); have P2 := Lib.hid hn2.own.rb; have R2 := R1.out.new hn2.below; have y0 := R2.c 0 _ rfl; have y1 := R2.c 1 _ rfl; have y2 := R2.c 2 _ rfl; have y3 := R2.c 3 _ rfl; clear R2)
    | (go_at_call 19; go_loud (with_reducible refine (doc_calls k ep fi x _).mono ?_); rintro x3 w3 ⟨rfl, hb3⟩; have B3 := Lib.hid (below_then B2.out hb3); have T3 := Lib.hid (T2.out.new hb3); have P3 := Lib.hid (P2.out.new hb3))
    | (go_at_call 18; go_loud (with_reducible refine (docHeadN k ep fi x hk hep hfi p eH HP.out np HNP.out _).mono ?_); rintro x4 w4 ⟨A4, c4, rfl, hn4⟩; have B4 := Lib.hid (below_then B3.out hn4.below); have T4 := T3.out.new hn4.below; have P4 := Lib.hid (P3.out.new hn4.below); have Q4 := Lib.hid hn4.own.rb; have t0 := T4.c0; have t1 := T4.c1; have T4 := Lib.hid T4)
    | (go_at_call 21; go_loud (with_reducible refine (twinB_calls f A es n c _ (HE.out.new B4.out) HN.out hl5 hs).mono ?_); rintro x5 w5 ⟨A5, c5, ds, rfl, hl5', hd5, hb5⟩; have B5 := Lib.hid (below_then B4.out hb5); have T5 := Lib.hid (T4.out.new hb5); have P5 := Lib.hid (P4.out.new hb5); have Q5 := Lib.hid (Q4.out.new hb5); have HQ5 := Lib.hid (show segB f (ensOf ds) = (q, eE) by rw [hd5]; exact HQ.out))
    | (go_at_call 20; go_loud (with_reducible refine (segBatch_calls f _ rfl hf A5 n c5 ds _ hl5'.reads hl5'.len hl6 q eE HQ5.out nq HNQ.out).mono ?_); rintro x6 w6 ⟨A6, c6, rfl, hn6⟩; have B6 := Lib.hid (below_then B5.out hn6.below); have T6 := T5.out.new hn6.below; have P6 := Lib.hid (P5.out.new hn6.below); have Q6 := Lib.hid (Q5.out.new hn6.below); have U6 := Lib.hid hn6.own.rb; have u0 := T6.c0; have u1 := T6.c1; clear T6)
    | (go_at_call 22; go_loud (with_reducible refine (docSegB_calls f _ rfl hf A n c es _ (HE.out.new B6.out) HN.out hl6 q eE HQ.out nq HNQ.out).mono ?_); rintro x7 w7 ⟨A7, c7, rfl, hn7⟩; have B7 := Lib.hid (below_then B6.out hn7.below); have P7 := Lib.hid (P6.out.new hn7.below); have Q7 := Lib.hid (Q6.out.new hn7.below); have U7 := Lib.hid (U6.out.new hn7.below); have V7 := Lib.hid hn7.own.rb; have tk7 := trivial)
    | (go_at_call 23; have tk := tk7; clear tk tk7; go_loud (with_reducible refine (sameR A2 A4 p p _ _ c2 c4 _ P7.out Q7.out HNP.out HNP.out true HPP.out).mono ?_); rintro x8 w8 ⟨rfl, hd8⟩; have B8 := Lib.hid (below_then B7.out (hd8.below _)); have U8 := Lib.hid (U7.out.new (hd8.below _)); have V8 := Lib.hid (V7.out.new (hd8.below _)))
    | (go_at_call 23; go_loud (with_reducible refine (sameR A6 A7 q q _ _ c6 c7 _ U8.out V8.out HNQ.out HNQ.out true HQQ.out).mono ?_); rintro x9 w9 ⟨rfl, hd9⟩; have B9 := Lib.hid (below_then B8.out (hd9.below _))))
  go_ret
  exact ⟨rfl, B9.out⟩
end Go.Proofs.YtpmnnnbkbcpgjaaGreatDoor
