/- WireTakes. -/
import Derived.Test.YtdpmalegpjimfaaWireTells
import Derived.Test.YtdpmalegpjimfaaWireScript
import Derived.Test.YtdpmalegpjimfaaWireLaws
namespace Go.Proofs.Ytdpmalegpjimfaa
open Go.RowKit

/-- three cells of a box are written -/
theorem put3_step (w : World) (g : Nat) (x y z : Value) : Step w (((w.setCell ⟨g, 0, none⟩ x).setCell ⟨g, 1, none⟩ y).setCell ⟨g, 2, none⟩ z) (· = g) (· = g) :=
  Step.of_grown (grown_trans (grown_trans (setCell_grown w g 0 x) (setCell_grown _ g 1 y)) (setCell_grown _ g 2 z)) rfl
theorem Trio.step {w w' : World} {b : Nat} {x y z : Value} {F F' : Nat → Prop} (h : Trio w b x y z) (hs : Step w w' F F') (hf : ¬ F b) : Trio w' b x y z := h.keep (hs.block b h.lt hf)
set_option maxHeartbeats 400000 in
set_option maxRecDepth 100000 in
theorem wireTakes_calls (A0 : Option Addr) (P : List UInt8) (c0 n0 : Nat) (A : Option Addr) (l : List OpV) (n c : Nat) (w : World) (hp : RB w A0 c0 P) (hn0 : n0 = P.length) (hl2 : P.length ≤ 140737488355328) (h : Ops w A l) (hn : n = l.length) (hlen : l.length ≤ 9223372036854775807) :
    Calls Try.prog 12 #[.slice A0 n0 c0, .slice A n c] w fun e w' => e = .returned (.bool true) ∧ Below w.heap.size w w' := by
  subst hn; subst hn0
  have h0 := Lib.hid (show (0 : Int) = ((0 : Nat) : Int) from rfl)
  go_enter Try.func12, Try.ntmps12
  go_wp2_with (first
    | (go_at_call 15; (with_reducible refine (awake_calls _).mono ?_); rintro e0 w0 ⟨rfl, hb0⟩)
    | (go_at_call 35; (with_reducible refine (newReader_own A1 P c1 _ _ hn1.own.rb rfl hl2).mono ?_); rintro e2 w2 ⟨b, F, rfl, hr2, hf2, hb2⟩)
    | (go_at_call 28; (with_reducible refine (twinR A0 P P.length c0 _ (hp.new hb0) rfl hl2).mono ?_); rintro e1 w1 ⟨A1, c1, rfl, hn1⟩; have hb1 := hn1.below)
    | (go_at_call 28; (with_reducible refine (twinR A0 P P.length c0 _ (hp.new (below_then (below_then hb0 hb1) hb2)) rfl hl2).mono ?_); rintro e3 w3 ⟨A3, c3, rfl, hn3⟩; have HB3 := Lib.hid (below_alloc1 (below_then (below_then (below_then hb0 hb1) hb2) hn3.below) (below_then (below_then (below_then hb0 hb1) hb2) hn3.below).size (.cells #[.slice A3 P.length c3, .int .i64 0, .int .i64 0] 70)); have HR3 := Lib.hid ((hr2.new hn3.below).new (below_alloc1 (Below.refl w3.heap.size w3) (Nat.le_refl _) (.cells #[.slice A3 P.length c3, .int .i64 0, .int .i64 0] 70))))
    | (go_at_call 36; (with_reducible refine (tells_calls F b P 0 0 A3 P.length c3 0 0 h0.out h0.out rfl _ HR3.out).mono ?_); rintro e4 w4 ⟨rfl, hb4⟩))
  obtain ⟨B6, hB6⟩ : ∃ B6, B6 = w3.heap.size := ⟨_, rfl⟩
  have hF6 : ¬ F B6 := fun e => by have := hf2.hi _ e; have := hn3.below.size; omega
  have hFlo : ∀ k, F k → w.heap.size ≤ k := fun k hk => by have := hf2.lo k hk; have := (below_then hb0 hb1).size; omega
  have hFA : Free F A3 P := Free.of_new hn3.own.lo hf2.hi
  have hA6 : Free (· = B6) A3 P := fun a ha hp hk => by have := hn3.own.rb.old.out a ha hp; omega
  have T4 : Trio w4 B6 (.slice A3 P.length c3) (.int .i64 0) (.int .i64 0) := (Trio.fresh w3 B6 hB6.symm _ _ _ _).new hb4
  have R4 : RB w4 A3 c3 P := ((hn3.own.rb).alloc _).new hb4
  have HRd4 := HR3.out.new hb4
  have HB4 := below_then HB3.out hb4
  have hB6w : w.heap.size ≤ B6 := by have := HB3.out.size; have := (below_then (below_then (below_then hb0 hb1) hb2) hn3.below).size; omega
  have H := Lib.hid hB6
  have HF6 := Lib.hid hF6
  have HFA := Lib.hid hFA
  have HA6 := Lib.hid hA6
  clear hF6 hFA hA6
  rw [← hB6]
  clear hB6 HR3 HB3 hb4 hr2
  go_loopw [32] (fun i wr => ∃ (j at_ e : Nat), j ≤ l.length ∧ i = .int .i64 j ∧ Rd wr F b P at_ e ∧ Trio wr B6 (.slice A3 P.length c3) (.int .i64 at_) (.int .i64 e) ∧ RB wr A3 c3 P ∧ Below w.heap.size w wr) (fun i _ => l.length - (intOf i).toNat)
  case atStart => exact ⟨0, 0, 0, Nat.zero_le _, rfl, HRd4, T4, R4, HB4⟩
  case round =>
    obtain ⟨j, at_, e, hj, rfl, HRd, HT, HR, HB⟩ := hrel
    by_cases hlt : j < l.length
    · obtain ⟨a, o, rfl, ho, hmem, hok, k0, k1, k2, k3⟩ := (h.new HB).at_ j hlt
      have hle := HRd.le
      have hle2 := takeS_le P at_ e o.k o.n hle
      have hn2 := hok.n.2
      have HTt := Lib.hid (rfl : takeS P at_ e o.k o.n = takeS P at_ e o.k o.n)
      generalize hte : takeS P at_ e o.k o.n = t at HTt hle2
      have HTE := Lib.hid hte
      obtain ⟨tv, tq, ta, te⟩ := t
      clear hte HTt ho
      have HX := Lib.hid (below_alloc1 (Below.refl wr.heap.size wr) (Nat.le_refl _) (.cells #[.int .i64 o.k, .int .u64 o.v, .int .i64 o.n, .slice o.A o.P.length o.c] 32))
      have HQ := Lib.hid (Quad.fresh wr wr.heap.size rfl (.int .i64 o.k) (.int .u64 o.v) (.int .i64 o.n) (.slice o.A o.P.length o.c) 32)
      have HNF : Hid (¬ F wr.heap.size) := Lib.hid (fun e => by have := hf2.hi _ e; have := HT.lt; have := H.out; have := hn3.below.size; omega)
      have HTX := Lib.hid (HT.new HX.out)
      go_wp2_with (first
        | (go_at_call 37; (with_reducible refine (wtake_calls F b P at_ e o.k o.v o.n o.A o.P.length o.c _ (HRd.new HX.out) hl2 hn2 ⟨tv, tq, ta, te⟩ HTE.out _ rfl _ rfl).mono ?_); rintro e5 w5 ⟨A5, c5, rfl, ht5⟩; have q5 := HQ.out.step ht5.step HNF.out; have T5 := HTX.out.step ht5.step HF6.out; have R5 := (HR.new HX.out).step ht5.step HFA.out; have d0 := q5.c0; have d1 := q5.c1; have d2 := q5.c2; have d3 := q5.c3; have y0 := T5.c0; have y1 := T5.c1; have y2 := T5.c2)
        | (go_at_call 38; go_loud (with_reducible refine (taken_calls A3 P c3 at_ e _ _ rfl rfl o.k o.v o.n o.A o.P.length o.c P.length rfl _ R5 hl2 hle hn2 ⟨tv, tq, ta, te⟩ HTE.out _ _ _ rfl rfl rfl _ rfl).mono ?_); rintro e6 w6 ⟨A6, c6, rfl, hn6⟩; have T6 := T5.new hn6.below; have hsz := T6.lt; have z0 := T6.c0; have z1 := T6.c1; have z2 := T6.c2; have f0 := T6.fz 0; have f1 := T6.fz 1; have f2 := T6.fz 2)
        | (go_at_call 22; (have E5 := Lib.hid ((((ht5.own.rb.new hn6.below).step (put3_step w6 B6 (.slice A3 P.length c3) (.int .i64 ta) (.int .i64 te)) (Free.of_new ht5.own.lo (fun k hk => by have h1 : k = B6 := hk; have := HT.lt; have := HX.out.size; omega))).alloc (.cells #[.slice A3 P.length c3, .int .i64 ta, .int .i64 te] 70)))); (have E6 := Lib.hid (((hn6.own.rb.step (put3_step w6 B6 (.slice A3 P.length c3) (.int .i64 ta) (.int .i64 te)) (Free.of_new hn6.own.lo (fun k hk => by have h1 : k = B6 := hk; have := T5.lt; omega))).alloc (.cells #[.slice A3 P.length c3, .int .i64 ta, .int .i64 te] 70)))); go_loud (with_reducible refine (sameR A5 A6 tq tq tq.length tq.length c5 c6 _ E5.out E6.out rfl rfl true (by simp)).mono ?_); rintro e7 w7 ⟨rfl, hd7⟩; (have T7 := ((T6.put (.slice A3 P.length c3) (.int .i64 ta) (.int .i64 te)).alloc (.cells #[.slice A3 P.length c3, .int .i64 ta, .int .i64 te] 70)).new (hd7.below _)); (have HRd7 := Lib.hid ((((ht5.rd.new hn6.below).step (put3_step w6 B6 (.slice A3 P.length c3) (.int .i64 ta) (.int .i64 te)) (fun k hk e => HF6.out (by have e : k = B6 := e; rw [← e]; exact hk))).new (below_alloc1 (Below.refl _ _) (Nat.le_refl _) (.cells #[.slice A3 P.length c3, .int .i64 ta, .int .i64 te] 70))).new (hd7.below _))); have x0 := T7.c0; have x1 := T7.c1; have x2 := T7.c2)
        | (go_at_call 36; (with_reducible refine (tells_calls F b P ta te A3 P.length c3 _ _ rfl rfl rfl _ HRd7.out).mono ?_); rintro e8 w8 ⟨rfl, hb8⟩))
      go_roundw
      case rel =>
        have B5 := (below_then HB HX.out).trans (ht5.step.below (Nat.le_trans HB.size HX.out.size) hFlo)
        have B6' := below_then B5 hn6.below
        have B7 := belowA (B6'.trans ((put3_step w6 B6 (.slice A3 P.length c3) (.int .i64 ta) (.int .i64 te)).below (B := w.heap.size) B6'.size (fun k hk => by have e : k = B6 := hk; rw [e]; exact hB6w))) (.cells #[.slice A3 P.length c3, .int .i64 ta, .int .i64 te] 70)
        exact ⟨j + 1, ta, te, by omega, by go_num, HRd7.out.new hb8, T7.new hb8, (((((R5.new hn6.below).step (put3_step w6 B6 (.slice A3 P.length c3) (.int .i64 ta) (.int .i64 te)) HA6.out).alloc _).new (hd7.below _)).new hb8), (B7.trans (hd7.below _)).trans (hb8.mono (B7.trans (hd7.below _)).size)⟩
      case measure => simp [intOf]; omega
    · obtain rfl : j = l.length := by omega
      clear hlt
      go_wp2
      go_ret
      exact ⟨rfl, HB⟩
end Go.Proofs.Ytdpmalegpjimfaa
