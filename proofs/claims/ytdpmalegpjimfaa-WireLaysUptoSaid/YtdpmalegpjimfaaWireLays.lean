/- WireLays. -/
import Derived.Test.YtdpmalegpjimfaaWireScript
import Derived.Test.YtdpmalegpjimfaaWireLaws
namespace Go.Proofs.Ytdpmalegpjimfaa
open Go.RowKit

set_option maxRecDepth 100000 in
theorem wireLays_calls (A : Option Addr) (l : List OpV) (n c : Nat) (w : World) (h : Ops w A l) (hn : n = l.length) (hs : bulkOps l ≤ 1048576) :
    Calls Try.prog 4 #[.slice A n c] w fun e w' => e = .returned (.bool true) ∧ Below w.heap.size w w' := by
  subst hn
  have hlen := Nat.le_trans (bulk_len l) hs
  have htot := laidAll_le l
  go_enter Try.func4, Try.ntmps4
  go_wp2_with (go_at_call 15; (with_reducible refine (awake_calls _).mono ?_); rintro e0 w0 ⟨rfl, hb0⟩)
  have HFr := Lib.hid (WrF.fresh w0 w0.heap.size rfl 26)
  have HB0 := Lib.hid (below_alloc1 hb0 hb0.size (.cells #[.slice none 0 0] 26))
  go_loopw [4, 11] (fun v i wr => ∃ (j : Nat) (F : Nat → Prop) (A1 : Option Addr) (c1 : Nat), j ≤ l.length ∧ i = .int .i64 j ∧ v = .slice A1 (laidAll (l.take j)).length c1 ∧ RB wr A1 c1 (laidAll (l.take j)) ∧ Free F A1 (laidAll (l.take j)) ∧ WrF wr F w0.heap.size (laidAll (l.take j)) ∧ (∀ k, F k → w.heap.size ≤ k) ∧ Below w.heap.size w wr) (fun _ i _ => l.length - (intOf i).toNat)
  case atStart => exact ⟨0, _, none, 0, Nat.zero_le _, rfl, rfl, RB.void _, fun a ha => (by simp at ha), HFr.out, fun k hk => by have := hb0.size; omega, HB0.out⟩
  case round =>
    obtain ⟨j, F, A1, c1, hj, rfl, rfl, HR, HFa, HW, HF, HB⟩ := hrel
    have hb2 := laidAll_le (l.take j)
    have hb1 := bulk_take l j
    by_cases hlt : j < l.length
    · obtain ⟨a, o, rfl, ho, hmem, hok, h0, h1, h2, h3⟩ := (h.new HB).at_ j hlt
      have HE := Lib.hid (laidAll_snoc l j o ho).symm
      have hb3 := bulk_mem hmem
      have hb5 := laidAll_le (l.take (j + 1))
      have hb6 := bulk_take l (j + 1)
      have HL : Hid ((laidAll (l.take j)).length + o.P.length + 10 ≤ 140737488355328) := Lib.hid (by omega)
      have HL2 : Hid (o.P.length ≤ 140737488355328) := Lib.hid (by omega)
      have HL3 : Hid ((laidAll (l.take j)).length + (laidL o.k o.v o.P).length ≤ 281474976710656) := Lib.hid (by have := laidL_length o.k o.v o.P; omega)
      have HL4 : Hid ((laidAll (l.take (j + 1))).length ≤ 140737488355328) := Lib.hid (by omega)
      have HN : Hid ((laidAll (l.take (j + 1))).length = (laidAll (l.take j)).length + (laidL o.k o.v o.P).length) := Lib.hid (by rw [← HE.out, List.length_append])
      have HX := Lib.hid (below_alloc1 (Below.refl wr.heap.size wr) (Nat.le_refl _) (.cells #[.int .i64 o.k, .int .u64 o.v, .int .i64 o.n, .slice o.A o.P.length o.c] 32))
      have HFree : Hid (Free F o.A o.P) := Lib.hid (Free.of_old (h.ok o hmem).P.old HF)
      have HQ := Lib.hid (Quad.fresh wr wr.heap.size rfl (.int .i64 o.k) (.int .u64 o.v) (.int .i64 o.n) (.slice o.A o.P.length o.c) 32)
      have HNF : Hid (¬ F wr.heap.size) := Lib.hid (fun e => by have := HW.lt _ e; omega)
      clear hb1 hb2 hb3 hb5 hb6 ho htot
      go_wp2_with (first
        | (go_at_call 18; (with_reducible refine (wlay_calls (HW.new HX.out) o.k o.v o.n o.A o.P o.P.length o.c _ HE.out rfl hok.v (hok.P.new HX.out) HFree.out HL.out).mono ?_); rintro e1 w1 ⟨F1, rfl, hw1, hs1⟩; have q1 := HQ.out.step hs1 HNF.out; have d0 := q1.c0; have d1 := q1.c1; have d2 := q1.c2; have d3 := q1.c3)
        | (go_at_call 20; go_loud (with_reducible refine (laid_calls o.k o.v o.n o.A o.P o.P.length o.c _ _ rfl rfl _ rfl hok.v ((hok.P.new HX.out).step hs1 HFree.out) HL2.out).mono ?_); rintro e2 w2 ⟨A2, c2, rfl, hn2⟩)
        | (go_at_call 19; go_loud (with_reducible refine (joinN A1 A2 (laidAll (l.take j)) (laidL o.k o.v o.P) (laidAll (l.take (j + 1))) _ _ (laidAll (l.take (j + 1))).length c1 c2 _ (((HR.new HX.out).step hs1 HFa).new hn2.below) hn2.own.rb rfl rfl HN.out HE.out HL3.out).mono ?_); rintro e3 w3 ⟨A3, c3, rfl, hn3⟩)
        | (go_at_call 21; go_loud (with_reducible refine (lenF (hw1.new (below_then hn2.below hn3.below)) _ rfl).mono ?_); rintro e4 w4 ⟨rfl, rfl⟩)
        | (go_at_call 17; go_loud (with_reducible refine (bytesF (hw1.new (below_then hn2.below hn3.below)) _ rfl HL4.out).mono ?_); rintro e5 w5 ⟨A5, c5, rfl, hn5⟩)
        | (go_at_call 22; go_loud (with_reducible refine (sameR A5 A3 _ _ _ _ c5 c3 _ hn5.own.rb (hn3.own.rb.new hn5.below) rfl rfl true (by simp)).mono ?_); rintro e6 w6 ⟨rfl, hd6⟩))
      go_roundw
      case rel =>
        have B1 := (below_then HB HX.out).trans (hs1.below (Nat.le_trans HB.size HX.out.size) HF)
        have B3 := below_then (below_then B1 hn2.below) hn3.below
        have B5 := (below_then B3 hn5.below).trans (hd6.below _)
        have N35 := below_then hn5.below (hd6.below _)
        exact ⟨j + 1, F1, A3, c3, by omega, by go_num, rfl, hn3.own.rb.new N35, Free.of_new hn3.own.lo (fun k hk => Nat.lt_of_lt_of_le (hw1.lt k hk) hn2.below.size), (hw1.new (below_then hn2.below hn3.below)).new N35, hs1.lo HF (Nat.le_trans HB.size HX.out.size), B5⟩
      case measure => simp [intOf]; omega
    · obtain rfl : j = l.length := by omega
      rw [List.take_length] at HW HR
      clear hlt htot hb1 hb2
      go_wp2_with (go_at_call 21; (with_reducible refine (lenF HW _ rfl).mono ?_); rintro e1 w1 ⟨rfl, rfl⟩)
      go_ret
      exact ⟨by simp, HB⟩
end Go.Proofs.Ytdpmalegpjimfaa
