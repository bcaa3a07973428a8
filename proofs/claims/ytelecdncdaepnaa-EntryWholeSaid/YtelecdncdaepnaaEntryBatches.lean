/- The walk of notarylaw05.EntryBatches. -/
import Derived.Test.YtelecdncdaepnaaAwake5
import Derived.Test.YtelecdncdaepnaaDocBatch
namespace Go.Proofs.Ytelecdncdaepnaa
open Go.RowKit
open WireMath (numS beN rawS blobS uvarS grpL uvarL wideL)

theorem encBF_len (f : Nat) (l : List En) : (encBF f l).1.length ≤ 22000 := by
  unfold encBF
  split
  · rename_i h
    unfold errB at h
    obtain ⟨h1, h2⟩ := fold_zero _ _ h
    obtain ⟨_, _, h3⟩ := err0_zero _ _ h1
    have h4 := flat_le l h2
    have h5 := WireMath.uvarL_length f
    have h6 := WireMath.uvarL_length l.length
    show (encBL f l).length ≤ _
    unfold encBL
    rw [List.length_append, List.length_append]; omega
  · simp
set_option maxRecDepth 100000 in
theorem entryBatches_calls (V : Int) (hV0 : 0 ≤ V) (hV1 : V ≤ 18446744073709551615) (A : Option Addr) (es : List EnX) (n c : Nat) (w : World) (h : Ents w A es) (hn : n = es.length) (hl : n * 56 ≤ 140737488351232) (hs0 : ∀ x ∈ es, x.1.K.length ≤ 140737488351232 ∧ x.1.V.length ≤ 140737488351232) :
    Calls Try.prog 5 #[.agg #[.int .u64 V, .slice A n c]] w fun r w' => r = .returned (.bool true) ∧ Below w.heap.size w w' := by
  obtain ⟨f, rfl⟩ := Int.eq_ofNat_of_zero_le hV0
  have hs : SmallEs es := fun x hx => by have := hs0 x hx; omega
  have hf : f ≤ 18446744073709551615 := by omega
  have HB := Lib.hid (below_alloc1 (Below.refl w.heap.size w) (Nat.le_refl _) (.cells #[.int .u64 f, .slice A n c] 34))
  have HT := Lib.hid (Duo.fresh w w.heap.size rfl (.int .u64 f) (.slice A n c) 34)
  have HN := Lib.hid hn
  have hl5 : n * 56 ≤ 140737488355328 := by omega
  have hl6 : n ≤ 9223372036854775807 := by omega
  obtain ⟨q, eE, hq⟩ : ∃ q eE, encBF f (ensOf es) = (q, eE) := ⟨_, _, rfl⟩
  have HQ := Lib.hid hq
  have HQQ := Lib.hid (beq_self_eq_true q)
  have hee : ((eE : Int) == eE) = true := beq_self_eq_true _
  clear hn hq hs0 hl
  go_enter Try.func5, Try.ntmps5
  go_wp2_with (first
    | (go_at_call 13; (with_reducible refine (awake5_calls _).mono ?_); rintro e1 w1 ⟨rfl, hb1⟩; have B1 := Lib.hid (below_then HB.out hb1); have T1 := HT.out.new hb1; have hz1 := T1.lt; have x0 := T1.c0; have x1 := T1.c1)
    | (go_at_call 17; go_loud ((with_reducible refine (twinB_calls f A es n c _ (h.new B1.out) HN.out hl5 hs).mono ?_)); rintro e2 w2 ⟨A2, c2, ds, rfl, hl2, hd2, hb2⟩; have B2 := Lib.hid (below_then B1.out hb2); have T2 := T1.new hb2; have hz2 := T2.lt; have HQ2 := Lib.hid (show encBF f (ensOf ds) = (q, eE) by rw [hd2]; exact HQ.out))
    | (go_at_call 16; go_loud ((with_reducible refine (encB_calls f _ rfl hf A2 n c2 ds _ hl2.reads hl2.len hl6 q eE HQ2.out).mono ?_)); rintro e3 w3 ⟨A3, c3, rfl, hn3⟩; have B3 := Lib.hid (below_then B2.out hn3.below); have T3 := T2.new hn3.below; have hz3 := T3.lt; have x0 := T3.c0; have x1 := T3.c1)
    | (go_at_call 18; go_loud ((with_reducible refine (docEncB_calls f _ rfl hf A n c es _ (h.new B3.out) HN.out hl6 q eE HQ.out).mono ?_)); rintro e4 w4 ⟨A4, c4, rfl, hn4⟩; have B4 := Lib.hid (below_then B3.out hn4.below))
    | (go_at_call 19; go_loud ((with_reducible refine (sameR A3 A4 q q _ _ c3 c4 _ (hn3.own.rb.new hn4.below) hn4.own.rb rfl rfl true HQQ.out).mono ?_)); rintro e5 w5 ⟨rfl, hd5⟩))
  go_ret
  exact ⟨rfl, below_then B4.out (hd5.below _)⟩
end Go.Proofs.Ytelecdncdaepnaa
