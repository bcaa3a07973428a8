import Derived.Test.YtlcbjjgmkllceaaQKeepMove
/- WireKeeps: the readers' half. -/
namespace Go.Proofs.Ytlcbjjgmkllceaa
open Go.RowKit
attribute [local go_sem ↓] Go.wp_at_zero Go.wp_at_succ

set_option maxHeartbeats 1600000 in
set_option maxRecDepth 100000 in
theorem keepReads_calls (A0 : Option Addr) (P : List UInt8) (c0 N : Nat) (A : Option Addr) (l : List OpV) (n c : Nat) (w : World) (hp : RB w A0 c0 P) (hN : N = P.length) (hl2 : P.length ≤ 1048576) (h : Ops w A l) (hn : n = l.length) (hs : bulkOps l ≤ 1048576) :
    Calls Try.prog 17 #[.slice A0 N c0, .slice A n c] w fun e w' => e = .returned (.bool true) ∧ Below w.heap.size w w' := by
  subst hn
  have hlen := Nat.le_trans (bulk_len l) hs
  obtain ⟨V, hV⟩ : ∃ V, V = (over (P ++ marks 40)).take N := ⟨_, rfl⟩
  have HV := Lib.hid hV
  have HVL : Hid (N = V.length) := Lib.hid (by rw [hV, List.length_take, over_length, List.length_append, marks_length]; omega)
  have HN := Lib.hid hN
  have HPL : Hid (P.length ≤ 140737488355328) := Lib.hid (by omega)
  have HVB : Hid (V.length ≤ 140737488355328) := Lib.hid (by have := HVL.out; omega)
  have HPM : Hid (N + 40 = (P ++ marks 40).length) := Lib.hid (by rw [List.length_append, marks_length]; omega)
  have HP := Lib.hid hp
  have HH := Lib.hid h
  clear hV hN hp
  go_enter Try.func17, Try.ntmps17
  go_upto_region 11 with (first
    | (go_at_call 6; go_loud (with_reducible refine (spareK A0 P N c0 w HP.out HN.out HPL.out).mono ?_); rintro e1 w1 ⟨gF, rfl, hg1, ho1, hb1⟩; have HG := Lib.hid (show gF = w.heap.size ∧ gF < w1.heap.size from ⟨hg1, (ho1.at_base gF rfl).2⟩); have HO1 := Lib.hid ho1; have HB1 := Lib.hid hb1; clear hg1 ho1 hb1)
    | (go_at_call 35; (first
        | (go_loud (with_reducible refine (newReader_own (some ⟨gF, 0, none⟩) V (N + 40) N w4 HV4.out HVL.out HVB.out).mono ?_); rintro e5 w5 ⟨b2, L, rfl, hr5, hf5, hb5⟩; have HR5 := Lib.hid hr5; have HF5 := Lib.hid hf5; have HB5 := Lib.hid hb5; clear hr5 hf5 hb5; have HV5 := Lib.hid (HV4.out.new HB5.out))
        | (go_loud (with_reducible refine (newReader_own (some ⟨gF, 0, none⟩) P (N + 40) N w1 HO1.out.reads.pre HN.out HPL.out).mono ?_); rintro e2 w2 ⟨b, F, rfl, hr2, hf2, hb2⟩; have HR2 := Lib.hid hr2; have HF2 := Lib.hid hf2; have HB2 := Lib.hid hb2; clear hr2 hf2 hb2; have HO2 := Lib.hid (HO1.out.new HB2.out))))
    | (go_at_call 10; go_loud (with_reducible refine (keptK (some ⟨gF, 0, none⟩) A0 (N + 40) c0 P N w2 HO2.out.reads ((HP.out.new HB1.out).new HB2.out) HN.out (by have := HN.out; omega)).mono ?_); rintro e3 w3 ⟨rfl, hd3⟩; have HB3 := Lib.hid (hd3.below w2.heap.size); clear hd3; have HO3 := Lib.hid (HO2.out.new HB3.out))
    | (go_at_call 11; go_loud (with_reducible refine (overR gF gF (N + 40) (N + 40) (N + 40) (N + 40) (P ++ marks 40) [] w3 (by rw [List.append_nil]; exact HO3.out) HPM.out).mono ?_); rintro e4 w4 ⟨rfl, ho4, hg4⟩; have HO4 := Lib.hid ho4; have HG4 := Lib.hid hg4; clear ho4 hg4; have HV4 : Hid (RB w4 (some ⟨gF, 0, none⟩) (N + 40) V) := Lib.hid (by rw [HV.out]; exact (RB.pre (r := []) HO4.out.reads).take N))
    | (go_at_call 12; (first
        | (go_loud (with_reducible refine (twinR (some ⟨gF, 0, none⟩) V N (N + 40) w5 HV5.out HVL.out HVB.out).mono ?_); rintro e6 w6 ⟨A5, c5, rfl, hn6⟩; have HN6 := Lib.hid hn6; clear hn6; have HB6 : Hid (Below w.heap.size w w6) := Lib.hid (below_then (below_then ((below_then (below_then HB1.out HB2.out) HB3.out).grown HG4.out (below_then (below_then HB1.out HB2.out) HB3.out).size (fun k e => by have := Option.some.inj e; have := HG.out.1; omega)) HB5.out) HN6.out.below))
        | (go_loud (with_reducible refine (twinR A0 P N c0 _ (HP.out.new (belowA HB6.out (.cells #[.slice A5 N c5, .int .i64 0, .int .i64 0] 86))) HN.out HPL.out).mono ?_); rintro e7 w7 ⟨A4, c4, rfl, hn7⟩; have HN7 := Lib.hid hn7; clear hn7))))
  obtain ⟨wl, hwl⟩ : ∃ x, x = w7.alloc (.cells #[.slice A4 N c4, .int .i64 0, .int .i64 0] 86) := ⟨_, rfl⟩
  obtain ⟨B9, hB9⟩ : ∃ x, x = w6.heap.size := ⟨_, rfl⟩
  obtain ⟨B10, hB10⟩ : ∃ x, x = w7.heap.size := ⟨_, rfl⟩
  have HWL := Lib.hid hwl
  have H9 := Lib.hid hB9
  have H10 := Lib.hid hB10
  have HB7 : Hid (Below w6.heap.size w6 w7) := Lib.hid (below_then (below_alloc1 (Below.refl w6.heap.size w6) (Nat.le_refl _) (.cells #[.slice A5 N c5, .int .i64 0, .int .i64 0] 86)) HN7.out.below)
  have HBL : Hid (Below w7.heap.size w7 wl) := Lib.hid (by rw [HWL.out]; exact below_alloc1 (Below.refl _ _) (Nat.le_refl _) _)
  have HSZ : Hid (w.heap.size = gF ∧ gF < w1.heap.size ∧ w1.heap.size ≤ w2.heap.size ∧ w2.heap.size ≤ w4.heap.size ∧ w4.heap.size ≤ w5.heap.size ∧ w5.heap.size ≤ w6.heap.size ∧ w6.heap.size < w7.heap.size ∧ w7.heap.size < wl.heap.size) := Lib.hid ⟨HG.out.1.symm, HG.out.2, HB2.out.size, Nat.le_trans HB3.out.size HG4.out.size, HB5.out.size, HN6.out.below.size, by have := HN7.out.below.size; rw [asz] at this; omega, by rw [HWL.out, asz]; exact Nat.lt_succ_self _⟩
  have HKR : Hid (KR w wl F L B9 B10 gF A4 A5 c4 c5 P V) := Lib.hid (by
    obtain ⟨z1, z2, z3, z4, z5, z6, z7, z8⟩ := HSZ.out
    have hFl := HF2.out.lo
    have hFh := HF2.out.hi
    have hLl := HF5.out.lo
    have hLh := HF5.out.hi
    have e9 := H9.out
    have e10 := H10.out
    have l7 := HN7.out.own.lo
    have l6 := HN6.out.own.lo
    have o7 := HN7.out.own.rb.old.out
    have o6 := HN6.out.own.rb.old.out
    refine ⟨HN7.out.own.rb.new HBL.out, (HN6.out.own.rb.new HB7.out).new HBL.out, fun k hk => ?_, fun k hk => ?_, ?_, ?_, ?_, ?_, below_then (below_then HB6.out HB7.out) HBL.out⟩
    · have h1 := hFl k hk
      have h2 := hFh k hk
      exact ⟨by omega, by omega, fun e => by have := hLl k e; omega, by omega, by omega, by omega⟩
    · have h1 := hLl k hk
      have h2 := hLh k hk
      exact ⟨by omega, by omega, by omega, by omega, by omega⟩
    · exact ⟨by omega, by omega, by omega, by omega⟩
    · exact ⟨by omega, by omega, by omega⟩
    · rintro a e hp (hk | hk | hk | hk)
      · have h1 := l7 a e hp
        rw [asz] at h1
        have := hFh _ hk; omega
      · have h1 := l7 a e hp
        rw [asz] at h1
        have := hLh _ hk; omega
      · have h1 := l7 a e hp
        rw [asz] at h1; omega
      · have h1 := o7 a e hp; omega
    · rintro a e hp (hk | hk | hk | hk)
      · have h1 := l6 a e hp
        have := hFh _ hk; omega
      · have h1 := l6 a e hp
        have := hLh _ hk; omega
      · have h1 := o6 a e hp; omega
      · have h1 := o6 a e hp; omega)
  have HKA : Hid (KA wl wl F L b b2 B9 B10 A4 A5 c4 c5 P V 0 0 0 0 0 0 0 0 (.slice none 0 0) (.slice none 0 0) [] [] [] []) := Lib.hid (by
    have r1 := (HR2.out.new HB3.out).step (Step.of_grown (F := (· = gF)) HG4.out rfl) (fun k hk e => by have := HF2.out.lo k hk; have := HG.out.2; have e : k = gF := e; omega)
    have t9 := (((Trio.fresh w6 w6.heap.size rfl (.slice A5 N c5) (.int .i64 0) (.int .i64 0) 86).new HN7.out.below).new HBL.out)
    have t10 := Trio.fresh w7 w7.heap.size rfl (.slice A4 N c4) (.int .i64 0) (.int .i64 0) 86
    rw [← HWL.out, ← H10.out, HN.out] at t10
    rw [← H9.out, HVL.out] at t9
    exact ⟨Step.refl _ _, (((r1.new HB5.out).new HN6.out.below).new HB7.out).new HBL.out, ((HR5.out.new HN6.out.below).new HB7.out).new HBL.out, t10, t9, TL.start _ _⟩)
  have HOG : Hid (OB wl gF 5 (.slice (some ⟨gF, 0, none⟩) (N + 40) (N + 40)) (over (P ++ marks 40))) := Lib.hid (by
    have h1 := HO4.out
    rw [List.append_nil] at h1
    exact (((h1.new HB5.out).new HN6.out.below).new HB7.out).new HBL.out)
  have HNE : Hid ((l.length : Int) ≤ 1048576) := Lib.hid (by omega)
  rw [← hwl, ← hB9, ← hB10]
  clear hwl hB9 hB10 HO1 HO2 HO3 HO4 HG4 HV4 HV5 HR2 HR5 HN6 HN7 HF2 HF5 HB6 HB7 HBL HB1 HB2 HB3 HB5 HWL H9 H10
  go_wp2
  go_loopw [11, 12, 54] (fun vt vw iv wr => ∃ (j at_ e at2 e2 : Nat) (A2 A3 : Option Addr) (n2 c2 n3 c3 : Nat) (hs gs : List Hd) (ps : List (List UInt8)), j ≤ l.length ∧ iv = .int .i64 j ∧ vt = .slice A2 n2 c2 ∧ vw = .slice A3 n3 c3 ∧ n2 = hs.length ∧ n3 = gs.length ∧ hs.length = 2 * j ∧ KA wl wr F L b b2 B9 B10 A4 A5 c4 c5 P V at_ e at_ e at2 e2 at2 e2 (.slice A2 n2 c2) (.slice A3 n3 c3) hs gs ps ps ∧ (∀ p ∈ ps, p.length ≤ 1048576)) (fun _ _ i _ => l.length - (intOf i).toNat)
  case atStart => exact ⟨0, 0, 0, 0, 0, none, none, 0, 0, 0, 0, [], [], [], Nat.zero_le _, rfl, rfl, rfl, rfl, rfl, rfl, HKA.out, by simp⟩
  case round =>
    obtain ⟨j, at_, e, at2, e2, A2, A3, n2, c2, n3, c3, hs', gs, ps, hj, rfl, rfl, rfl, hn2, hn3, hj2, hK, hps⟩ := hrel
    have HK := Lib.hid hK
    have HN2 := Lib.hid hn2
    have HN3 := Lib.hid hn3
    have HJ2 := Lib.hid hj2
    have HPS := Lib.hid hps
    have HBW : Hid (Below w.heap.size w wr) := Lib.hid (HKR.out.bl.trans (hK.s.below HKR.out.bl.size (fun k hk => (HKR.out.lt k hk).1)))
    clear hK hn2 hn3 hj2 hps
    by_cases hlt : j < l.length
    · obtain ⟨a, o, rfl, ho, hmem, hok, k0, k1, k2, k3⟩ := (HH.out.new HBW.out).at_ j hlt
      have HX := Lib.hid (below_alloc1 (Below.refl wr.heap.size wr) (Nat.le_refl _) (.cells #[.int .i64 o.k, .int .u64 o.v, .int .i64 o.n, .slice o.A o.P.length o.c] 79))
      have HQ := Lib.hid (Quad.fresh wr wr.heap.size rfl (.int .i64 o.k) (.int .u64 o.v) (.int .i64 o.n) (.slice o.A o.P.length o.c) 79)
      have HON := Lib.hid hok.n.2
      obtain ⟨⟨tv, tq, ta, te⟩, ht⟩ : ∃ t, takeS P at_ e o.k o.n = t := ⟨_, rfl⟩
      obtain ⟨⟨sv, sq, sa, se⟩, ht2⟩ : ∃ t, takeS V at2 e2 o.k o.n = t := ⟨_, rfl⟩
      have HT := Lib.hid ht
      have HT2 := Lib.hid ht2
      have HXN : Hid (∀ k, FX F L B9 B10 k → k ≠ wr.heap.size) := Lib.hid (fun k hk e => by have := (HKR.out.lt k hk).2.1; have := HK.out.s.size; omega)
      have hle1 := Lib.hid HK.out.rd.le
      have hle2 := Lib.hid HK.out.rl.le
      have K1 := Lib.hid (HK.out.new HX.out)
      clear ht ht2 hok hmem ho
      go_upto_region 16 with (first
        | (go_at_call 45; go_loud (with_reducible refine (wtake_calls F b P at_ e o.k o.v o.n o.A o.P.length o.c _ K1.out.rd HPL.out HON.out ⟨tv, tq, ta, te⟩ HT.out _ rfl _ rfl).mono ?_); rintro e5 w5 ⟨A6, c6, rfl, ht5⟩; have K5 := Lib.hid (K1.out.tookF HKR.out ht5); have Q5 := Lib.hid (HQ.out.step (stepFX (L := L) (B9 := B9) (B10 := B10) ht5.step) (fun e => HXN.out _ e rfl)); have O5 := Lib.hid ht5.own; have S5 := Lib.hid ht5.step.size; clear ht5))
      clear k0 k1 k2 k3
      have HR5 := Lib.hid (HKR.out.r4.step K5.out.s HKR.out.fr4)
      have x0 := K5.out.t10.c0
      have x1 := K5.out.t10.c1
      have x2 := K5.out.t10.c2
      have d0 := Q5.out.c0
      have d1 := Q5.out.c1
      have d2 := Q5.out.c2
      have d3 := Q5.out.c3
      go_upto_region 17 with (first
        | (go_at_call 46; go_loud (with_reducible refine (taken_calls A4 P c4 at_ e _ _ rfl rfl o.k o.v o.n o.A o.P.length o.c P.length rfl w5 HR5.out HPL.out hle1.out HON.out ⟨tv, tq, ta, te⟩ HT.out _ _ _ rfl rfl rfl _ rfl).mono ?_); rintro e6 w6 ⟨A7, c7, rfl, hn6⟩; have HN6 := Lib.hid hn6; clear hn6))
      clear x0 x1 x2 d0 d1 d2 d3
      have K7 := Lib.hid ((K5.out.new HN6.out.below).new (below_alloc1 (Below.refl w6.heap.size w6) (Nat.le_refl _) (.cells #[.slice A4 P.length c4, .int .i64 ta, .int .i64 te] 86)))
      have x0 := K7.out.t10.c0
      have x1 := K7.out.t10.c1
      have x2 := K7.out.t10.c2
      have f0 := K7.out.t10.fz 0
      have f1 := K7.out.t10.fz 1
      have f2 := K7.out.t10.fz 2
      go_upto_region 18 with fail
      clear x0 x1 x2 f0 f1 f2
      have K8 := Lib.hid (K7.out.put10 HKR.out ta te)
      have T8 : Hid (Step w6 (((((w6.alloc (.cells #[.slice A4 P.length c4, .int .i64 ta, .int .i64 te] 86)).setCell ⟨B10, 0, none⟩ (.slice A4 P.length c4)).setCell ⟨B10, 1, none⟩ (.int .i64 ta)).setCell ⟨B10, 2, none⟩ (.int .i64 te))) (FX F L B9 B10) (FX F L B9 B10)) := Lib.hid (Step.trans (Step.of_below (below_alloc1 (Below.refl _ _) (Nat.le_refl _) _) _) (step10X (put3_step _ B10 _ _ _)))
      obtain ⟨w8, hw8⟩ : ∃ x, x = (((((w6.alloc (.cells #[.slice A4 P.length c4, .int .i64 ta, .int .i64 te] 86)).setCell ⟨B10, 0, none⟩ (.slice A4 P.length c4)).setCell ⟨B10, 1, none⟩ (.int .i64 ta)).setCell ⟨B10, 2, none⟩ (.int .i64 te))) := ⟨_, rfl⟩
      rw [← hw8] at K8 T8 ⊢
      have T58 : Hid (Step w5 w8 (FX F L B9 B10) (FX F L B9 B10)) := Lib.hid (Step.ahead HN6.out.below T8.out)
      have HXB : Hid (∀ k, FX F L B9 B10 k → k < wr.heap.size) := Lib.hid (fun k hk => by have := (HKR.out.lt k hk).2.1; have := HK.out.s.size; omega)
      have HS5 : Hid (wr.heap.size ≤ w5.heap.size) := Lib.hid (by have := S5.out; rw [asz] at this; omega)
      have HS8 : Hid (wr.heap.size ≤ w8.heap.size ∧ w5.heap.size ≤ w8.heap.size) := Lib.hid ⟨Nat.le_trans HS5.out T58.out.size, T58.out.size⟩
      have HC6 := Lib.hid (fun k (e : (Value.slice A6 tq.length c6).ownBlock = some k) => (O5.out.at_base k e).2)
      have O6 : Hid (OB w8 wr.heap.size 5 (.slice A6 tq.length c6) tq) := Lib.hid ((O5.out.mono (by rw [asz]; exact Nat.le_succ _)).stepX T58.out HXB.out)
      have O7 : Hid (OB w8 wr.heap.size 5 (.slice A7 tq.length c7) tq) := Lib.hid ((HN6.out.own.mono HS5.out).stepX T8.out HXB.out)
      have Q8 := Lib.hid (Q5.out.step T58.out (fun e => HXN.out _ e rfl))
      clear hw8 K7 HN6 HR5 O5 S5 Q5 K5 K1 HQ HX T8 T58
      have d0 := Q8.out.c0
      have d1 := Q8.out.c1
      have d2 := Q8.out.c2
      have d3 := Q8.out.c3
      go_upto_region 19 with (first
        | (go_at_call 45; go_loud (with_reducible refine (wtake_calls L b2 V at2 e2 o.k o.v o.n o.A o.P.length o.c w8 K8.out.rl HVB.out HON.out ⟨sv, sq, sa, se⟩ HT2.out _ rfl _ rfl).mono ?_); rintro e9 w9 ⟨A8, c8, rfl, ht9⟩; have K9 := Lib.hid (K8.out.tookL HKR.out ht9); have T9 := Lib.hid (stepLX (F := F) (B9 := B9) (B10 := B10) ht9.step); have O8 := Lib.hid ht9.own; clear ht9))
      clear d0 d1 d2 d3
      have P6 := Lib.hid (O6.out.stepX T9.out HXB.out)
      have P7 := Lib.hid (O7.out.stepX T9.out HXB.out)
      have Q9 := Lib.hid (Q8.out.step T9.out (fun e => HXN.out _ e rfl))
      have HR9 := Lib.hid (HKR.out.r5.step K9.out.s HKR.out.fr5)
      have HS9 := Lib.hid T9.out.size
      clear O6 O7 Q8 K8 T9
      have x0 := K9.out.t9.c0
      have x1 := K9.out.t9.c1
      have x2 := K9.out.t9.c2
      have d0 := Q9.out.c0
      have d1 := Q9.out.c1
      have d2 := Q9.out.c2
      have d3 := Q9.out.c3
      go_upto_region 20 with (first
        | (go_at_call 46; go_loud (with_reducible refine (taken_calls A5 V c5 at2 e2 _ _ rfl rfl o.k o.v o.n o.A o.P.length o.c V.length rfl w9 HR9.out HVB.out hle2.out HON.out ⟨sv, sq, sa, se⟩ HT2.out _ _ _ rfl rfl rfl _ rfl).mono ?_); rintro e10 w10 ⟨A9, c9, rfl, hn10⟩; have HN10 := Lib.hid hn10; clear hn10))
      clear x0 x1 x2 d0 d1 d2 d3
      have K11 := Lib.hid ((K9.out.new HN10.out.below).new (below_alloc1 (Below.refl w10.heap.size w10) (Nat.le_refl _) (.cells #[.slice A5 V.length c5, .int .i64 sa, .int .i64 se] 86)))
      have x0 := K11.out.t9.c0
      have x1 := K11.out.t9.c1
      have x2 := K11.out.t9.c2
      have f0 := K11.out.t9.fz 0
      have f1 := K11.out.t9.fz 1
      have f2 := K11.out.t9.fz 2
      go_upto_region 21 with fail
      clear x0 x1 x2 f0 f1 f2
      have K12 := Lib.hid (K11.out.put9 HKR.out sa se)
      have T12 : Hid (Step w10 (((((w10.alloc (.cells #[.slice A5 V.length c5, .int .i64 sa, .int .i64 se] 86)).setCell ⟨B9, 0, none⟩ (.slice A5 V.length c5)).setCell ⟨B9, 1, none⟩ (.int .i64 sa)).setCell ⟨B9, 2, none⟩ (.int .i64 se))) (FX F L B9 B10) (FX F L B9 B10)) := Lib.hid (Step.trans (Step.of_below (below_alloc1 (Below.refl _ _) (Nat.le_refl _) _) _) (step9X (put3_step _ B9 _ _ _)))
      obtain ⟨w12, hw12⟩ : ∃ x, x = (((((w10.alloc (.cells #[.slice A5 V.length c5, .int .i64 sa, .int .i64 se] 86)).setCell ⟨B9, 0, none⟩ (.slice A5 V.length c5)).setCell ⟨B9, 1, none⟩ (.int .i64 sa)).setCell ⟨B9, 2, none⟩ (.int .i64 se))) := ⟨_, rfl⟩
      rw [← hw12] at K12 T12 ⊢
      have T912 : Hid (Step w9 w12 (FX F L B9 B10) (FX F L B9 B10)) := Lib.hid (Step.ahead HN10.out.below T12.out)
      have O6 := Lib.hid (P6.out.stepX T912.out HXB.out)
      have O7 := Lib.hid (P7.out.stepX T912.out HXB.out)
      have U8 := Lib.hid ((O8.out.stepX T912.out (fun k hk => Nat.lt_of_lt_of_le (HXB.out k hk) HS8.out.1)))
      have U9 := Lib.hid ((HN10.out.own.mono (Nat.le_trans HS8.out.1 HS9.out)).stepX T12.out HXB.out)
      have HAP : Hid (apV (Hd.val ⟨A6, tq.length, c6⟩) (Hd.val ⟨A8, sq.length, c8⟩)) := Lib.hid (apV_lt (s := w8.heap.size) (fun k e => Nat.lt_of_lt_of_le (HC6.out k e) HS8.out.2) (fun k e => (O8.out.at_base k e).1))
      have O8 := Lib.hid (U8.out.mono HS8.out.1)
      have HST := Lib.hid (beq_self_eq_true tq)
      have HSS := Lib.hid (beq_self_eq_true sq)
      have HSZ2 : Hid (wr.heap.size ≤ w12.heap.size) := Lib.hid (Nat.le_trans HS8.out.1 (Nat.le_trans HS9.out T912.out.size))
      have hvv : ((tv : Int) != tv) = false := bne_self_eq_false _
      have hss : ((sv : Int) != sv) = false := bne_self_eq_false _
      clear hw12 K11 HN10 HR9 Q9 P6 P7 K9 T12 T912 U8 HC6 HS8 HS9 HS5
      go_upto_region 23 with (first
        | (go_at_call 9; (first
            | (go_loud (with_reducible refine (sameR A8 A9 sq sq _ _ c8 c9 w13 (O8.out.reads.new HD13.out) (U9.out.reads.new HD13.out) rfl rfl true HSS.out).mono ?_); rintro e14 w14 ⟨rfl, hd14⟩; have HD14 := Lib.hid (hd14.below w13.heap.size); clear hd14)
            | (go_loud (with_reducible refine (sameR A6 A7 tq tq _ _ c6 c7 w12 O6.out.reads O7.out.reads rfl rfl true HST.out).mono ?_); rintro e13 w13 ⟨rfl, hd13⟩; have HD13 := Lib.hid (hd13.below w12.heap.size); clear hd13))))
      have HTB : Hid (∀ k, TLb (.slice none 0 0) (.slice A2 n2 c2) (.slice A3 n3 c3) hs' gs k → k < wr.heap.size) := Lib.hid (fun k hk => (HK.out.tl.lt k hk).2)
      have HWLR : Hid (wl.heap.size ≤ wr.heap.size) := Lib.hid HK.out.s.size
      have HB12 := Lib.hid (below_then (below_then HD13.out HD14.out) (below_alloc1 (Below.refl w14.heap.size w14) (Nat.le_refl _) (.cells #[.slice A6 tq.length c6, .slice A8 sq.length c8] 23)))
      have K14 := Lib.hid (K12.out.new HB12.out)
      have HGN : Hid (hs'.length + 2 ≤ 5000000 ∧ gs.length + 2 ≤ 5000000) := Lib.hid (by have h1 := HJ2.out; have h2 := HK.out.tl.hl; have h3 := HK.out.tl.gl; omega)
      have HLT := Lib.hid hlt
      have HJ := Lib.hid hj
      go_upto_region 24 with (first
        | (refine wp_op_isK (.call { callee := .builtin .append, args := #[.tmp 106, .tmp 109], argTypes := #[36, 36] }) rfl ?_; go_loud (refine wp_appendLK lst rfl (.tmp 106) (.tmp 109) rfl wl.heap.size (.slice A2 n2 c2) hs' [⟨A6, tq.length, c6⟩, ⟨A8, sq.length, c8⟩] rfl K14.out.tl.told (some ⟨w14.heap.size, 0, none⟩) 2 2 rfl rfl (row2 w14 ⟨A6, tq.length, c6⟩ ⟨A8, sq.length, c8⟩ _) (fun e => absurd e (by simp)) (by have := HGN.out; simp; omega) K14.out.s.size fun A15 n15 c15 w15 hn15 hl15 hg15 hv15 => ?_); have HN15 := Lib.hid hn15; clear hn15))
      have V6 := Lib.hid (O6.out.new HB12.out)
      have V8 := Lib.hid (O8.out.new HB12.out)
      have V7 := Lib.hid ((O7.out.new HB12.out).rowX hg15 (fun k e => HTB.out k (.inr (.inl e))))
      have V9 := Lib.hid ((U9.out.new HB12.out).rowX hg15 (fun k e => HTB.out k (.inr (.inl e))))
      have K15 := Lib.hid (K14.out.grown HKR.out hg15 (fun k e => (K14.out.tl.told.lt k e).1) (K14.out.tl.pushT hl15 hg15 hv15 (V6.out.mono HWLR.out) (V8.out.mono HWLR.out) (fun k e t => by have := (V6.out.at_base k e).1; have := HTB.out k t; omega) (fun k e t => by have := (V8.out.at_base k e).1; have := HTB.out k t; omega) HAP.out))
      have HTB2 := Lib.hid K15.out.tl.lt
      clear hl15 hg15 hv15 V6 V8 O6 O8 O7 U9 HAP HB12 K14 HD13 HD14 K12 HST HSS
      have HTQ : Hid (tq.length ≤ 140737488355328) := Lib.hid (by have h1 := takeS_q P at_ e o.k o.n; rw [HT.out] at h1; simp only at h1; omega)
      have HSQ : Hid (sq.length ≤ 140737488355328) := Lib.hid (by have h1 := takeS_q V at2 e2 o.k o.n; rw [HT2.out] at h1; have h2 := HVB.out; simp only at h1; omega)
      go_wp2_with (first
        | (go_at_call 12; (first
            | (go_loud (with_reducible refine (twinR A9 sq sq.length c9 w16 (V9.out.reads.new HN16.out.below) rfl HSQ.out).mono ?_); rintro e17 w17 ⟨A11, c11, rfl, hn17⟩; have HN17 := Lib.hid hn17; clear hn17; have K17 := Lib.hid (((K15.out.new HN16.out.below).new HN17.out.below).new (below_alloc1 (Below.refl w17.heap.size w17) (Nat.le_refl _) (.cells #[.slice A10 tq.length c10, .slice A11 sq.length c11] 23))))
            | (go_loud (with_reducible refine (twinR A7 tq tq.length c7 w15 V7.out.reads rfl HTQ.out).mono ?_); rintro e16 w16 ⟨A10, c10, rfl, hn16⟩; have HN16 := Lib.hid hn16; clear hn16)))
        | (refine wp_op_isK (.call { callee := .builtin .append, args := #[.tmp 111, .tmp 116], argTypes := #[36, 36] }) rfl ?_; go_loud (refine wp_appendLK lst rfl (.tmp 111) (.tmp 116) rfl wl.heap.size (.slice A3 n3 c3) gs [⟨A10, tq.length, c10⟩, ⟨A11, sq.length, c11⟩] rfl K17.out.tl.was (some ⟨w17.heap.size, 0, none⟩) 2 2 rfl rfl (row2 w17 ⟨A10, tq.length, c10⟩ ⟨A11, sq.length, c11⟩ _) (fun e => absurd e (by simp)) (by have := HGN.out; simp; omega) K17.out.s.size fun A18 n18 c18 w18 hn18 hl18 hg18 hv18 => ?_); have HN18 := Lib.hid hn18; clear hn18))
      have V10 := Lib.hid ((HN16.out.own.new HN17.out.below).new (below_alloc1 (Below.refl w17.heap.size w17) (Nat.le_refl _) (.cells #[.slice A10 tq.length c10, .slice A11 sq.length c11] 23)))
      have V11 := Lib.hid ((HN17.out.own.mono HN16.out.below.size).new (below_alloc1 (Below.refl w17.heap.size w17) (Nat.le_refl _) (.cells #[.slice A10 tq.length c10, .slice A11 sq.length c11] 23)))
      have K18 := Lib.hid (K17.out.grown HKR.out hg18 (fun k e => (K17.out.tl.was.lt k e).1) (K17.out.tl.pushW hl18 hg18 hv18 (V10.out.mono K15.out.s.size) (V11.out.mono K15.out.s.size) (fun k e t => by have := (V10.out.at_base k e).1; have := (HTB2.out k t).2; omega) (fun k e t => by have := (V11.out.at_base k e).1; have := (HTB2.out k t).2; omega)))
      clear hl18 hg18 hv18
      go_roundw
      case rel =>
        have h1 := HJ2.out
        refine ⟨j + 1, ta, te, sa, se, A15, A18, n15, c15, n18, c18, hs' ++ [⟨A6, tq.length, c6⟩, ⟨A8, sq.length, c8⟩], gs ++ [⟨A10, tq.length, c10⟩, ⟨A11, sq.length, c11⟩], ps ++ [tq, sq], by omega, by go_num, rfl, rfl, HN15.out, HN18.out, by simp; omega, K18.out, fun p hp => ?_⟩
        rcases List.mem_append.1 hp with hp | hp
        · exact HPS.out p hp
        · have h2 := takeS_q P at_ e o.k o.n
          rw [HT.out] at h2
          have h3 := takeS_q V at2 e2 o.k o.n
          rw [HT2.out] at h3
          have h4 := HVL.out
          have h5 := HN.out
          simp only at h2 h3
          simp only [List.mem_cons, List.not_mem_nil, or_false] at hp
          rcases hp with rfl | rfl <;> omega
      case measure => simp [intOf]; omega
    · obtain rfl : j = l.length := by omega
      have hgl : gs.length = hs'.length := by rw [HK.out.tl.gl, HK.out.tl.hl]
      obtain rfl : n3 = n2 := by rw [HN3.out, HN2.out, hgl]
      have HGN : Hid (n3 ≤ 1099511627776 ∧ hs'.length + 1 ≤ 5000000 ∧ hs'.length = ps.length) := Lib.hid ⟨by have h1 := HJ2.out; have h2 := HN2.out; omega, by have h1 := HJ2.out; omega, HK.out.tl.hl⟩
      have HOV : Hid (OB wl gF 5 (.slice (some ⟨gF, 0, none⟩) N (N + 40)) V) := Lib.hid (by
        have h0 := HOG.out
        have e1 : over (P ++ marks 40) = V ++ (over (P ++ marks 40)).drop N := by rw [HV.out, List.take_append_drop]
        have e2 : N + 40 = (V ++ (over (P ++ marks 40)).drop N).length := by rw [← e1, over_length]; exact HPM.out
        rw [e1, show (Value.slice (some ⟨gF, 0, none⟩) (N + 40) (N + 40)) = .slice (some ⟨gF, 0, none⟩) (V ++ (over (P ++ marks 40)).drop N).length (N + 40) by rw [← e2]] at h0
        exact OB.pre h0 HVL.out)
      clear hlt hgl HOG HV
      go_wp2_with (first
        | (go_at_call 44; go_loud (with_reducible refine (sameAll_calls A2 A3 hs' gs ps n3 c2 c3 wr HK.out.tl.rds HK.out.tl.rdsW (by rw [HN2.out, HGN.out.2.2]) HGN.out.1).mono ?_); rintro e5 w5 ⟨rfl, hb5⟩; have HB5 := Lib.hid hb5; clear hb5; have K5 := Lib.hid ((HK.out.new HB5.out).new (below_alloc1 (Below.refl w5.heap.size w5) (Nat.le_refl _) (.cells #[.slice (some ⟨gF, 0, none⟩) N (N + 40)] 23))))
        | (refine wp_op_isK (.call { callee := .builtin .append, args := #[.tmp 123, .tmp 125], argTypes := #[36, 36] }) rfl ?_; go_loud (refine wp_appendLKg lst (by simp [Region.wanted, yielded]) (.tmp 123) (.tmp 125) rfl wl.heap.size (.slice A2 n3 c2) hs' [⟨some ⟨gF, 0, none⟩, N, N + 40⟩] rfl K5.out.tl.told (some ⟨w5.heap.size, 0, none⟩) 1 1 rfl rfl (row1 w5 ⟨some ⟨gF, 0, none⟩, N, N + 40⟩ _) (fun e => absurd e (by simp)) (by have := HGN.out; simp; omega) K5.out.s.size fun A15 n15 c15 w15 hn15 hl15 hg15 hv15 => ?_); have HN15 := Lib.hid hn15; clear hn15; have KE15 := Lib.hid (K5.out.ends HKR.out HOV.out (by have h1 := HVL.out; have h2 := HN.out; omega) (fun p hp => Nat.le_trans (Nat.add_le_add_right (HPS.out p hp) 90) (by decide)) (by have := HG.out.1; omega) hl15 hg15 hv15); clear hl15 hg15 hv15)
        | (go_at_call 13; go_loud (with_reducible refine (apartLL KE15.out.ll KE15.out.ob KE15.out.ap KE15.out.nt KE15.out.bl.size HN15.out (by have := HGN.out; simp; omega)).mono ?_); rintro e16 w16 ⟨rfl, hs16⟩; have HS16 := Lib.hid hs16; clear hs16; have HR16 := Lib.hid (KE15.out.rd.step HS16.out (fun k hf e => (KE15.out.ft k e).2.1 hf)); have HT16 := Lib.hid (KE15.out.t10.stepK HS16.out (fun e => (KE15.out.ft _ e).2.2 rfl)); have x0 := HT16.out.c0; have x1 := HT16.out.c1; have x2 := HT16.out.c2; have HB16 := Lib.hid (KE15.out.bl.trans (HS16.out.below KE15.out.bl.size (fun k e => (KE15.out.ft k e).1))))
        | (go_at_call 47; go_loud (with_reducible refine (tells_calls F b P at_ e A4 P.length c4 _ _ rfl rfl rfl w16 HR16.out).mono ?_); rintro e17 w17 ⟨rfl, hb17⟩; have HB17 := Lib.hid hb17; clear hb17))
      go_ret
      exact ⟨rfl, below_then HB16.out HB17.out⟩
end Go.Proofs.Ytlcbjjgmkllceaa
