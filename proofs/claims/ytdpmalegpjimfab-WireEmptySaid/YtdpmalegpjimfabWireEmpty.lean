/- WireEmpty. -/
import Derived.Test.YtdpmalegpjimfabWireNil
import Derived.Test.YtdpmalegpjimfabWireScript
import Derived.Test.YtdpmalegpjimfabWireLaws
namespace Go.Proofs.Ytdpmalegpjimfab
open Go.RowKit

theorem Trio.stepE {w w' : World} {b : Nat} {x y z : Value} {F F' : Nat → Prop} (h : Trio w b x y z) (hs : Step w w' F F') (hf : ¬ F b) : Trio w' b x y z := h.keep (hs.block b h.lt hf)
set_option maxHeartbeats 800000 in
set_option maxRecDepth 100000 in
theorem wireEmpty_calls (A : Option Addr) (l : List OpV) (n c : Nat) (w : World) (h : Ops w A l) (hn : n = l.length) (hlen : l.length ≤ 9223372036854775807) :
    Calls Try.prog 6 #[.slice A n c] w fun e w' => e = .returned (.bool true) ∧ Below w.heap.size w w' := by
  subst hn
  have h0 := Lib.hid (show (0 : Int) = ((0 : Nat) : Int) from rfl)
  have HE0 := Lib.hid (show (0 : Int) = ((([] : List UInt8).length : Nat) : Int) from rfl)
  have HD0 := Lib.hid (show (0 : Int) = ((doneE ([] : List UInt8) 0 0 : Nat) : Int) from rfl)
  go_enter Try.func6, Try.ntmps6
  go_wp2_with (first
    | (go_at_call 23; (with_reducible refine (awake_calls _).mono ?_); rintro e0 w0 ⟨rfl, hb0⟩
       have R0 : Hid (Rd (((w0.alloc (.cells #[.slice none 0 0, .int .i64 0, .int .i64 0] 51)).alloc (.cells #[.slice none 0 0] 53)).alloc (.cells #[.slice none 0 0, .int .i64 0, .int .i64 0] 55)) (· = w0.heap.size) w0.heap.size [] 0 0) := Lib.hid (((Rd.fresh w0 (· = w0.heap.size) none 0 [] 51 rfl (RB.void _) (fun a h => nomatch h)).new (below_alloc1 (Below.refl _ _) (Nat.le_refl _) _)).new (below_alloc1 (Below.refl _ _) (Nat.le_refl _) _))
       have W0 : Hid (WrF (((w0.alloc (.cells #[.slice none 0 0, .int .i64 0, .int .i64 0] 51)).alloc (.cells #[.slice none 0 0] 53)).alloc (.cells #[.slice none 0 0, .int .i64 0, .int .i64 0] 55)) (· = w0.heap.size + 1) (w0.heap.size + 1) []) := Lib.hid ((WrF.fresh _ _ (asz _ _) 53).new (below_alloc1 (Below.refl _ _) (Nat.le_refl _) _))
       have T0 : Hid (Trio (((w0.alloc (.cells #[.slice none 0 0, .int .i64 0, .int .i64 0] 51)).alloc (.cells #[.slice none 0 0] 53)).alloc (.cells #[.slice none 0 0, .int .i64 0, .int .i64 0] 55)) (w0.heap.size + 1 + 1) (.slice none 0 0) (.int .i64 0) (.int .i64 0)) := Lib.hid (Trio.fresh _ _ (asz2 _ _ _) _ _ _ _)
       have B0 := Lib.hid (belowA (belowA (belowA hb0 (.cells #[.slice none 0 0, .int .i64 0, .int .i64 0] 51)) (.cells #[.slice none 0 0] 53)) (.cells #[.slice none 0 0, .int .i64 0, .int .i64 0] 55)))
    | (go_at_call 24; go_loud (with_reducible refine (doneN (· = w0.heap.size) w0.heap.size [] 0 0 0 HD0.out _ R0.out).mono ?_); rintro e1 w1 ⟨rfl, hd1⟩; have R1 := Lib.hid (R0.out.new (hd1.below _)); have W1 := Lib.hid (W0.out.new (hd1.below _)); have T1 := Lib.hid (T0.out.new (hd1.below _)); have B1 := Lib.hid (B0.out.trans (hd1.below _)))
    | (go_at_call 25; go_loud (with_reducible refine (atN (· = w0.heap.size) w0.heap.size [] 0 0 0 h0.out _ R1.out).mono ?_); rintro e2 w2 ⟨rfl, rfl⟩)
    | (go_at_call 26; go_loud (with_reducible refine (lenF W1.out 0 HE0.out).mono ?_); rintro e3 w3 ⟨rfl, rfl⟩)
    | (go_at_call 27; go_loud (with_reducible refine (bytesF W1.out 0 rfl (by decide)).mono ?_); rintro e4 w4 ⟨A4, c4, rfl, hn4⟩))
  have R4 := R1.out.new hn4.below
  have T4 := T1.out.new hn4.below
  have B4 := below_then B1.out hn4.below
  have hw0 := hb0.size
  obtain ⟨b, hb⟩ : ∃ b, b = w0.heap.size := ⟨_, rfl⟩
  obtain ⟨B6, hB6⟩ : ∃ B6, B6 = w0.heap.size + 1 + 1 := ⟨_, rfl⟩
  rw [← hB6] at T4 ⊢
  rw [← hb] at R4 ⊢
  have HF6 : Hid (¬ B6 = b) := Lib.hid (by omega)
  have HBW : Hid (w.heap.size ≤ b) := Lib.hid (by omega)
  have HBW6 : Hid (w.heap.size ≤ B6) := Lib.hid (by omega)
  clear R0 W0 T0 B0 R1 W1 T1 B1 hd1 hn4 hb hB6 hw0 hb0
  go_loopw [38] (fun i wr => ∃ (j at_ e : Nat), j ≤ l.length ∧ i = .int .i64 j ∧ Rd wr (· = b) b [] at_ e ∧ Trio wr B6 (.slice none 0 0) (.int .i64 at_) (.int .i64 e) ∧ Below w.heap.size w wr) (fun i _ => l.length - (intOf i).toNat)
  case atStart => exact ⟨0, 0, 0, Nat.zero_le _, rfl, R4, T4, B4⟩
  case round =>
    obtain ⟨j, at_, e, hj, rfl, HRd, HT, HB⟩ := hrel
    by_cases hlt : j < l.length
    · obtain ⟨a, o, rfl, ho, hmem, hok, k0, k1, k2, k3⟩ := (h.new HB).at_ j hlt
      have hle := HRd.le
      have hn2 := hok.n.2
      have HM : Hid (o.P.length ≤ 9223372036854775807) := Lib.hid hok.P.small
      generalize hte : takeS [] at_ e o.k o.n = t
      have HTE := Lib.hid hte
      obtain ⟨tv, tq, ta, te⟩ := t
      clear hte ho
      have HX := Lib.hid (below_alloc1 (Below.refl wr.heap.size wr) (Nat.le_refl _) (.cells #[.int .i64 o.k, .int .u64 o.v, .int .i64 o.n, .slice o.A o.P.length o.c] 60))
      have HQ := Lib.hid (Quad.fresh wr wr.heap.size rfl (.int .i64 o.k) (.int .u64 o.v) (.int .i64 o.n) (.slice o.A o.P.length o.c) 60)
      have HNF : Hid (¬ wr.heap.size = b) := Lib.hid (fun e => by have := HRd.bLt; omega)
      have h00 : ([] : List UInt8).length ≤ 140737488355328 := by decide
      go_wp2_with (first
        | (go_at_call 28; go_loud (with_reducible refine (wlay_nil o.k o.v o.n o.A o.P.length o.c hok.v HM.out _).mono ?_); rintro e5 w5 ⟨rfl, hb5⟩; have q5 := HQ.out.new hb5; have d0 := q5.c0; have d1 := q5.c1; have d2 := q5.c2; have d3 := q5.c3)
        | (go_at_call 29; (with_reducible refine (wtake_nil o.k o.v o.n o.A o.P.length o.c _).mono ?_); rintro e6 w6 ⟨rfl, hb6⟩; have q6 := q5.new hb6; have B6o := Lib.hid (below_then (below_then HX.out hb5) hb6); have d0 := q6.c0; have d1 := q6.c1; have d2 := q6.c2; have d3 := q6.c3)
        | (go_at_call 26; (with_reducible refine (len_nil _).mono ?_); rintro e7 w7 ⟨rfl, rfl⟩)
        | (go_at_call 27; (with_reducible refine (bytes_nil _).mono ?_); rintro e8 w8 ⟨rfl, rfl⟩)
        | (go_at_call 25; (with_reducible refine (at_nil _).mono ?_); rintro e9 w9 ⟨rfl, rfl⟩)
        | (go_at_call 30; (with_reducible refine (err_nil _).mono ?_); rintro e10 w10 ⟨rfl, rfl⟩)
        | (go_at_call 24; (with_reducible refine (done_nil _).mono ?_); rintro e11 w11 ⟨rfl, hd11⟩; have B6' := Lib.hid (B6o.out.trans (hd11.below _)); have q11 := q6.new (hd11.below _); have d0 := q11.c0; have d1 := q11.c1; have d2 := q11.c2; have d3 := q11.c3)
        | (go_at_call 29; (with_reducible refine (wtake_calls (· = b) b [] at_ e o.k o.v o.n o.A o.P.length o.c _ (HRd.new B6'.out) h00 hn2 ⟨tv, tq, ta, te⟩ HTE.out _ rfl _ rfl).mono ?_); rintro e12 w12 ⟨A5, c5, rfl, ht5⟩; have q12 := q11.step ht5.step (fun e => HNF.out e); have T5 := (HT.new B6'.out).stepE ht5.step HF6.out; have d0 := q12.c0; have d1 := q12.c1; have d2 := q12.c2; have d3 := q12.c3; have y0 := T5.c0; have y1 := T5.c1; have y2 := T5.c2)
        | (go_at_call 31; go_loud (with_reducible refine (taken_calls none [] 0 at_ e _ _ rfl rfl o.k o.v o.n o.A o.P.length o.c 0 rfl _ (RB.void _) h00 hle hn2 ⟨tv, tq, ta, te⟩ HTE.out _ _ _ rfl rfl rfl _ rfl).mono ?_); rintro e13 w13 ⟨A6, c6, rfl, hn6⟩; have T6 := T5.new hn6.below; have hsz := T6.lt; have z0 := T6.c0; have z1 := T6.c1; have z2 := T6.c2; have f0 := T6.fz 0; have f1 := T6.fz 1; have f2 := T6.fz 2)
        | (go_at_call 32; (have E5 := Lib.hid ((((ht5.own.rb.new hn6.below).step (put3_step w13 B6 (.slice none 0 0) (.int .i64 ta) (.int .i64 te)) (Free.of_new ht5.own.lo (fun k hk => by have h1 : k = B6 := hk; have := HT.lt; have := B6'.out.size; omega))).alloc (.cells #[.slice none 0 0, .int .i64 ta, .int .i64 te] 55)))); (have E6 := Lib.hid (((hn6.own.rb.step (put3_step w13 B6 (.slice none 0 0) (.int .i64 ta) (.int .i64 te)) (Free.of_new hn6.own.lo (fun k hk => by have h1 : k = B6 := hk; have := T5.lt; omega))).alloc (.cells #[.slice none 0 0, .int .i64 ta, .int .i64 te] 55)))); go_loud (with_reducible refine (sameR A5 A6 tq tq tq.length tq.length c5 c6 _ E5.out E6.out rfl rfl true (by simp)).mono ?_); rintro e14 w14 ⟨rfl, hd7⟩; (have T7 := ((T6.put (.slice none 0 0) (.int .i64 ta) (.int .i64 te)).alloc (.cells #[.slice none 0 0, .int .i64 ta, .int .i64 te] 55)).new (hd7.below _)); (have HRd7 := Lib.hid ((((ht5.rd.new hn6.below).step (put3_step w13 B6 (.slice none 0 0) (.int .i64 ta) (.int .i64 te)) (fun k hk e => HF6.out (by have e : k = B6 := e; have h : k = b := hk; omega))).new (below_alloc1 (Below.refl _ _) (Nat.le_refl _) (.cells #[.slice none 0 0, .int .i64 ta, .int .i64 te] 55))).new (hd7.below _))); have x0 := T7.c0; have x1 := T7.c1; have x2 := T7.c2)
        | (go_at_call 33; (with_reducible refine (tells_calls (· = b) b [] ta te none 0 0 _ _ rfl rfl rfl _ HRd7.out).mono ?_); rintro e15 w15 ⟨rfl, hb8⟩))
      go_roundw
      case rel =>
        have B5 := (below_then HB B6'.out).trans (ht5.step.below (Nat.le_trans HB.size B6'.out.size) (fun k hk => by have e : k = b := hk; rw [e]; exact HBW.out))
        have B7' := below_then B5 hn6.below
        have B7 := belowA (B7'.trans ((put3_step w13 B6 (.slice none 0 0) (.int .i64 ta) (.int .i64 te)).below (B := w.heap.size) B7'.size (fun k hk => by have e : k = B6 := hk; rw [e]; exact HBW6.out))) (.cells #[.slice none 0 0, .int .i64 ta, .int .i64 te] 55)
        exact ⟨j + 1, ta, te, by omega, by go_num, HRd7.out.new hb8, T7.new hb8, (B7.trans (hd7.below _)).trans (hb8.mono (B7.trans (hd7.below _)).size)⟩
      case measure => simp [intOf]; omega
    · obtain rfl : j = l.length := by omega
      clear hlt
      go_wp2
      go_ret
      exact ⟨rfl, HB⟩
end Go.Proofs.Ytdpmalegpjimfab
