/- The walk of the document's DocNext. Printed by wip/docnext.py. -/
import Derived.Test.YtdpmalegpjimfaaRefReadWalk2
import Derived.Test.YtdpmalegpjimfaaRefFrameWalk
import Derived.Test.YtdpmalegpjimfaaFoot
namespace Go.Proofs.Ytdpmalegpjimfaa
open Go.RowKit
open WireMath (wideL numS beN rawS)
open FrameMath (head crcP laid)

theorem takeWideN (A : Option Addr) (P : List UInt8) (c at_ e k : Nat) (T E N : Int) (hT : T = at_) (hE : E = e) (hN : N = k) (w : World) (hp : RB w A c P) (hl : P.length ≤ 9223372036854775807) (hat : at_ ≤ P.length) (hk : k ≤ 8) (v a2 e2 : Nat) (hr : numS P at_ e k = (v, a2, e2)) (V A2 E2 : Int) (hV : V = v) (hA : A2 = a2) (hE2 : E2 = e2) :
    Calls Try.prog 70 #[.agg #[.slice A P.length c, .int .i64 T, .int .i64 E], .int .i64 N] w fun e' w' => e' = .returned (.tuple #[.int .u64 V, .agg #[.slice A P.length c, .int .i64 A2, .int .i64 E2]]) ∧ Below w.heap.size w w' := by
  subst hV; subst hA; subst hE2
  have := takeWide_calls A P c at_ e k N E T hN hE hT w hp hl hat hk
  rw [hr] at this
  exact this
theorem takeRawN (A : Option Addr) (P : List UInt8) (c at_ : Nat) (T : Int) (hT : T = at_) (n : Int) (w : World) (hp : RB w A c P) (hl : P.length ≤ 140737488355328) (hat : at_ ≤ P.length) (hn : n ≤ 9223372036854775807) (q : List UInt8) (a2 e2 : Nat) (hr : rawS P at_ 0 n = (q, a2, e2)) (N : Nat) (A2 E2 : Int) (hN : N = q.length) (hA : A2 = a2) (hE2 : E2 = e2) :
    Calls Try.prog 71 #[.agg #[.slice A P.length c, .int .i64 T, .int .i64 0], .int .i64 n] w fun e' w' => ∃ A' c', e' = .returned (.tuple #[.slice A' N c', .agg #[.slice A P.length c, .int .i64 A2, .int .i64 E2]]) ∧ NewB w w' (.slice A' N c') q := by
  subst hN; subst hA; subst hE2
  have := takeRaw_calls A P c at_ 0 n 0 T rfl hT w hp hl hat hn
  rw [hr] at this
  exact this
theorem results_dn {fn : Func} {p u v : Tmp} (h : fn.results = #[.cell p 57, .tmp u, .tmp v]) (tmps : Array Value) (w : World) (b : Nat) (x y : Value) (hp : tmps.getD p undef = .pointer (some ⟨b, 0, none⟩)) (ht : Pair w b x y) :
    (results fn tmps).run Try.prog w = .ok (.tuple #[.agg #[x, y], tmps.getD u undef, tmps.getD v undef]) w := by
  have hp' : tmps[p]?.getD undef = .pointer (some ⟨b, 0, none⟩) := by simpa using hp
  have hl := run_loadVar_mid (P := Try.prog) w b 0 57 [x, y] _ (fun j v hj => by
    match j, hj with
    | 0, hj => simp at hj; subst hj; simpa using ht.c0
    | 1, hj => simp at hj; subst hj; simpa using ht.c1
    | j + 2, hj => simp at hj) Try.underlying57 rfl (by kernel_rfl)
  simp [results, h, hp', asAddr, hl]
/-- a fault stays, and the place never passes the end -/
theorem num_next (P : List UInt8) (at_ e k : Nat) (h : at_ ≤ P.length) : (numS P at_ e k).2.1 ≤ P.length ∧ ((numS P at_ e k).2.2 = 0 → e = 0 ∧ at_ + k ≤ P.length ∧ (numS P at_ e k).2.1 = at_ + k) := by
  unfold WireMath.numS
  by_cases he : e = 0
  · rw [if_neg (by omega)]
    by_cases hs : P.length - at_ < k
    · rw [if_pos hs]; exact ⟨h, fun h => absurd h (by simp)⟩
    · rw [if_neg hs]; exact ⟨by show at_ + k ≤ _; omega, fun _ => ⟨he, by omega, rfl⟩⟩
  · rw [if_pos he]; exact ⟨h, fun h2 => absurd h2 he⟩
theorem num_ok (P : List UInt8) (at_ k : Nat) (h : at_ + k ≤ P.length) : numS P at_ 0 k = (beN ((P.drop at_).take k), at_ + k, 0) := by
  unfold WireMath.numS; rw [if_neg (by simp), if_neg (by omega)]
theorem num_bad (P : List UInt8) (at_ e k : Nat) (h : e ≠ 0) : numS P at_ e k = (0, at_, e) := by
  unfold WireMath.numS; rw [if_pos h]
theorem num_short (P : List UInt8) (at_ k : Nat) (h : P.length < at_ + k) (h2 : at_ ≤ P.length) : numS P at_ 0 k = (0, at_, 3) := by
  unfold WireMath.numS; rw [if_neg (by simp), if_pos (by omega)]

theorem Pair.drewN {w : World} {b : Nat} {u v : Value} (h : Pair w b u v) (n : Nat) : Pair (w.drewN n) b u v := h.new (Drawn.below ⟨n, rfl⟩ _)
theorem below_drewN {B : Nat} {w w' : World} (h : Below B w w') (n : Nat) : Below B w (w'.drewN n) := h.trans (Drawn.below ⟨n, rfl⟩ _)
set_option maxHeartbeats 2000000 in
set_option maxRecDepth 100000 in
theorem docNext_calls (A : Option Addr) (P : List UInt8) (n c : Nat) (at_ : Int) (hat : -9223372036854775808 ≤ at_ ∧ at_ ≤ 9223372036854775807) (w : World) (hp : RB w A c P) (hn : n = P.length) (hl : P.length ≤ 140737488355328) :
    Calls Try.prog 31 #[.slice A n c, .int .i64 at_] w fun e w' => ∃ A' c', e = .returned (.tuple #[.agg #[.int .u64 (nextF P at_).place, .slice A' (nextF P at_).payload.length c'], .int .i64 (nextF P at_).next, .int .i64 (nextF P at_).kind]) ∧ NewB w w' (.slice A' (nextF P at_).payload.length c') (nextF P at_).payload := by
  subst hn
  have hA := below_alloc1 (Below.refl w.heap.size w) (Nat.le_refl _) (.cells #[.int .u64 0, .slice none 0 0] 57)
  have hPr := Pair.fresh w (.int .u64 0) (.slice none 0 0) 57
  by_cases h1 : at_ = P.length
  · have hN : nextF P at_ = noNx 0 at_ := by unfold nextF; rw [if_pos h1]
    rw [hN]
    have h1b : (at_ == (P.length : Int)) = true := by rw [beq_iff_eq]; exact h1
    have HPr := Lib.hid hPr
    have HA := Lib.hid hA
    clear hN h1 hPr hA
    go_enter Try.func31, Try.ntmps31
    go_wp2
    exact bodyPost_ret (results_dn rfl _ _ w.heap.size _ _ rfl HPr.out) rfl ⟨none, 0, rfl, OB.nil _ _ _, HA.out⟩
  · have h1b : (at_ == (P.length : Int)) = false := by rw [beq_eq_false_iff_ne]; exact h1
    by_cases h2 : at_ < 0 ∨ (P.length : Int) < at_
    · have hN : nextF P at_ = noNx 2 at_ := by unfold nextF; rw [if_neg h1, if_pos (by omega)]
      rw [hN]
      have HPr := Lib.hid hPr
      have HA := Lib.hid hA
      clear hN h1 hPr hA
      rcases (by omega : at_ < 0 ∨ (¬ at_ < 0 ∧ (P.length : Int) < at_)) with h3 | ⟨h3, h4⟩
      all_goals
        clear h2
        go_enter Try.func31, Try.ntmps31
        go_wp2
        exact bodyPost_ret (results_dn rfl _ _ w.heap.size _ _ rfl HPr.out) rfl ⟨none, 0, rfl, OB.nil _ _ _, HA.out⟩
    · obtain ⟨a, rfl⟩ := Int.eq_ofNat_of_zero_le (by omega : 0 ≤ at_)
      have hle0 : a ≤ P.length := by omega
      have b1 : ¬ (a : Int) < 0 := by omega
      have b2 : ¬ P.length < a := by omega
      have hl2 : P.length ≤ 9223372036854775807 := by omega
      have BB0 := Lib.hid (hA.alloc hA.size (.cells #[.slice A P.length c, .int .i64 a, .int .i64 0] 70))
      have U0 := Trio.fresh (w.alloc (.cells #[.int .u64 0, .slice none 0 0] 57)) (w.heap.size + 1) (asz _ _) (.slice A P.length c) (.int .i64 a) (.int .i64 0) 70
      have Q0 := hPr.new (below_alloc1 (Below.refl _ _) (Nat.le_refl _) (.cells #[.slice A P.length c, .int .i64 a, .int .i64 0] 70))
      have hne : w.heap.size ≠ w.heap.size + 1 := by omega
      have hlo : ∀ k, k = w.heap.size + 1 → w.heap.size ≤ k := fun k hk => by omega
      have h0 := Lib.hid (show (0 : Int) = ((0 : Nat) : Int) from rfl)
      have h3 := Lib.hid (show (3 : Int) = ((3 : Nat) : Int) from rfl)
      clear hA hPr h2
      by_cases h17 : P.length < a + 17
      · have hN : nextF P a = noNx 2 a := by unfold nextF; rw [if_neg h1, if_pos (by omega)]
        rw [hN]
        obtain ⟨n1, m1⟩ := num_next P a 0 1 hle0
        rcases e1 : numS P a 0 1 with ⟨x1, a1, v1⟩
        rw [e1] at n1 m1
        obtain ⟨n2, m2⟩ := num_next P a1 v1 4 n1
        rcases e2 : numS P a1 v1 4 with ⟨x2, a2, v2⟩
        rw [e2] at n2 m2
        obtain ⟨n3, m3⟩ := num_next P a2 v2 8 n2
        rcases e3 : numS P a2 v2 8 with ⟨x3, a3, v3⟩
        rw [e3] at n3 m3
        obtain ⟨n4, m4⟩ := num_next P a3 v3 4 n3
        rcases e4 : numS P a3 v3 4 with ⟨x4, a4, v4⟩
        rw [e4] at n4 m4
        simp only at n1 m1 n2 m2 n3 m3 n4 m4
        have hf4 : v4 ≠ 0 := by
          intro h
          obtain ⟨h3, h4, h5⟩ := m4 h
          obtain ⟨h6, h7, h8⟩ := m3 h3
          obtain ⟨h9, h10, h11⟩ := m2 h6
          obtain ⟨_, h13, h14⟩ := m1 h9
          omega
        have hb4 : ((v4 : Int) != 0) = true := by rw [bne_iff_ne]; omega
        have hle1 := n1
        have hle2 := n2
        have hle3 := n3
        have E1 := Lib.hid e1
        have E2 := Lib.hid e2
        have E3 := Lib.hid e3
        have E4 := Lib.hid e4
        clear hN h1 m1 m2 m3 m4 e1 e2 e3 e4 hf4 n1 n2 n3 n4 h17
        go_enter Try.func31, Try.ntmps31
        go_wp2_with (first
          | (go_at_call 70; go_loud ((with_reducible refine (takeWideN A P c a 0 1 a 0 1 rfl h0.out rfl _ (hp.new BB0.out) hl2 hle0 (by decide) _ _ _ E1.out _ a1 v1 rfl rfl rfl).mono ?_); rintro e1 w1 ⟨rfl, hb1⟩; have T1 := U0.new hb1; have q1 := Q0.new hb1; have z0 := T1.c0; have z1 := T1.c1; have z2 := T1.c2; have f0 := T1.fz 0; have f1 := T1.fz 1; have f2 := T1.fz 2; have U1 := T1.put (.slice A P.length c) (.int .i64 a1) (.int .i64 v1); have Q1 := ((q1.other hne (j := 0) (x := .slice A P.length c)).other hne (j := 1) (x := .int .i64 a1)).other hne (j := 2) (x := .int .i64 v1); have y0 := q1.c0; have y1 := q1.c1; have g0 := q1.fz 0; have g1 := q1.fz 1; have BB1 := Lib.hid ((below_then BB0.out hb1).trans ((put3_step w1 (w.heap.size + 1) (.slice A P.length c) (.int .i64 a1) (.int .i64 v1)).below (B := w.heap.size) (below_then BB0.out hb1).size hlo))))
          | (go_at_call 70; go_loud ((with_reducible refine (takeWideN A P c a1 v1 4 a1 v1 4 rfl rfl rfl _ (hp.new BB1.out) hl2 hle1 (by decide) _ _ _ E2.out _ a2 v2 rfl rfl rfl).mono ?_); rintro e2 w2 ⟨rfl, hb2⟩; have T2 := U1.new hb2; have q2 := Q1.new hb2; have z0 := T2.c0; have z1 := T2.c1; have z2 := T2.c2; have f0 := T2.fz 0; have f1 := T2.fz 1; have f2 := T2.fz 2; have U2 := T2.put (.slice A P.length c) (.int .i64 a2) (.int .i64 v2); have Q2 := ((q2.other hne (j := 0) (x := .slice A P.length c)).other hne (j := 1) (x := .int .i64 a2)).other hne (j := 2) (x := .int .i64 v2); have y0 := q2.c0; have y1 := q2.c1; have g0 := q2.fz 0; have g1 := q2.fz 1; have BB2 := Lib.hid ((below_then BB1.out hb2).trans ((put3_step w2 (w.heap.size + 1) (.slice A P.length c) (.int .i64 a2) (.int .i64 v2)).below (B := w.heap.size) (below_then BB1.out hb2).size hlo))))
          | (go_at_call 70; go_loud ((with_reducible refine (takeWideN A P c a2 v2 8 a2 v2 8 rfl rfl rfl _ (hp.new BB2.out) hl2 hle2 (by decide) _ _ _ E3.out _ a3 v3 rfl rfl rfl).mono ?_); rintro e3 w3 ⟨rfl, hb3⟩; have T3 := U2.new hb3; have q3 := Q2.new hb3; have z0 := T3.c0; have z1 := T3.c1; have z2 := T3.c2; have f0 := T3.fz 0; have f1 := T3.fz 1; have f2 := T3.fz 2; have U3 := T3.put (.slice A P.length c) (.int .i64 a3) (.int .i64 v3); have Q3 := ((q3.other hne (j := 0) (x := .slice A P.length c)).other hne (j := 1) (x := .int .i64 a3)).other hne (j := 2) (x := .int .i64 v3); have y0 := q3.c0; have y1 := q3.c1; have g0 := q3.fz 0; have g1 := q3.fz 1; have BB3 := Lib.hid ((below_then BB2.out hb3).trans ((put3_step w3 (w.heap.size + 1) (.slice A P.length c) (.int .i64 a3) (.int .i64 v3)).below (B := w.heap.size) (below_then BB2.out hb3).size hlo))))
          | (go_at_call 70; go_loud ((with_reducible refine (takeWideN A P c a3 v3 4 a3 v3 4 rfl rfl rfl _ (hp.new BB3.out) hl2 hle3 (by decide) _ _ _ E4.out _ a4 v4 rfl rfl rfl).mono ?_); rintro e4 w4 ⟨rfl, hb4⟩; have T4 := U3.new hb4; have q4 := Q3.new hb4; have z0 := T4.c0; have z1 := T4.c1; have z2 := T4.c2; have f0 := T4.fz 0; have f1 := T4.fz 1; have f2 := T4.fz 2; have U4 := T4.put (.slice A P.length c) (.int .i64 a4) (.int .i64 v4); have Q4 := ((q4.other hne (j := 0) (x := .slice A P.length c)).other hne (j := 1) (x := .int .i64 a4)).other hne (j := 2) (x := .int .i64 v4); have y0 := q4.c0; have y1 := q4.c1; have g0 := q4.fz 0; have g1 := q4.fz 1; have BB4 := Lib.hid ((below_then BB3.out hb4).trans ((put3_step w4 (w.heap.size + 1) (.slice A P.length c) (.int .i64 a4) (.int .i64 v4)).below (B := w.heap.size) (below_then BB3.out hb4).size hlo)))))
        exact bodyPost_ret (results_dn rfl _ _ w.heap.size _ _ rfl ((Q4.set0 (.int .u64 0)).set1 (.slice none 0 0))) rfl ⟨none, 0, rfl, OB.nil _ _ _, (BB4.out.setCell (Nat.le_refl _) _).setCell (Nat.le_refl _) _⟩
      · have ha : a + 17 ≤ P.length := by omega
        have hN := next_mid P a ha h1
        have e1 := num_ok P a 1 (by omega)
        have e2 : numS P (a + 1) 0 4 = (beN ((P.drop (a + 1)).take 4), a + 5, 0) := num_ok P (a + 1) 4 (by omega)
        have e3 : numS P (a + 5) 0 8 = (beN ((P.drop (a + 5)).take 8), a + 13, 0) := num_ok P (a + 5) 8 (by omega)
        have e4 : numS P (a + 13) 0 4 = (beN ((P.drop (a + 13)).take 4), a + 17, 0) := num_ok P (a + 13) 4 (by omega)
        have hm := beN4 ((P.drop (a + 1)).take 4) (by simp; omega)
        have hpl := beN8 ((P.drop (a + 5)).take 8) (by simp; omega)
        generalize beN ((P.drop (a + 1)).take 4) = m at *
        generalize beN ((P.drop (a + 5)).take 8) = place at *
        have E1 := Lib.hid e1
        have E2 := Lib.hid e2
        have E3 := Lib.hid e3
        have E4 := Lib.hid e4
        have hle1 : a + 1 ≤ P.length := by omega
        have hle2 : a + 5 ≤ P.length := by omega
        have hle3 : a + 13 ≤ P.length := by omega
        have HA1 := Lib.hid (show (a : Int) + 1 = ((a + 1 : Nat) : Int) from rfl)
        have HA5 := Lib.hid (show (a : Int) + 5 = ((a + 5 : Nat) : Int) from rfl)
        have HA13 := Lib.hid (show (a : Int) + 13 = ((a + 13 : Nat) : Int) from rfl)
        have HA17 := Lib.hid (show (a : Int) + 17 = ((a + 17 : Nat) : Int) from rfl)
        clear e1 e2 e3 e4 h17
        by_cases hmb : m < 1 ∨ 65535 < m
        · have hN2 : nextF P a = noNx 2 a := by rw [hN]; simp only; rw [if_pos (by omega)]
          rw [hN2]
          clear hN hN2 h1
          rcases (by omega : m = 0 ∨ (m ≠ 0 ∧ 65535 < m)) with hm0 | ⟨hm0, hm1⟩
          · have bm : ((m : Int) == 0) = true := by rw [beq_iff_eq]; omega
            clear hmb hm0
            go_enter Try.func31, Try.ntmps31
            go_wp2_with (first
              | (go_at_call 70; go_loud ((with_reducible refine (takeWideN A P c a 0 1 a 0 1 rfl h0.out rfl _ (hp.new BB0.out) hl2 hle0 (by decide) _ _ _ E1.out _ ((a : Int) + 1) 0 rfl HA1.out h0.out).mono ?_); rintro e1 w1 ⟨rfl, hb1⟩; have T1 := U0.new hb1; have q1 := Q0.new hb1; have z0 := T1.c0; have z1 := T1.c1; have z2 := T1.c2; have f0 := T1.fz 0; have f1 := T1.fz 1; have f2 := T1.fz 2; have U1 := T1.put (.slice A P.length c) (.int .i64 ((a : Int) + 1)) (.int .i64 0); have Q1 := ((q1.other hne (j := 0) (x := .slice A P.length c)).other hne (j := 1) (x := .int .i64 ((a : Int) + 1))).other hne (j := 2) (x := .int .i64 0); have y0 := q1.c0; have y1 := q1.c1; have g0 := q1.fz 0; have g1 := q1.fz 1; have BB1 := Lib.hid ((below_then BB0.out hb1).trans ((put3_step w1 (w.heap.size + 1) (.slice A P.length c) (.int .i64 ((a : Int) + 1)) (.int .i64 0)).below (B := w.heap.size) (below_then BB0.out hb1).size hlo))))
              | (go_at_call 70; go_loud ((with_reducible refine (takeWideN A P c (a + 1) 0 4 ((a : Int) + 1) 0 4 HA1.out h0.out rfl _ (hp.new BB1.out) hl2 hle1 (by decide) _ _ _ E2.out _ ((a : Int) + 5) 0 rfl HA5.out h0.out).mono ?_); rintro e2 w2 ⟨rfl, hb2⟩; have T2 := U1.new hb2; have q2 := Q1.new hb2; have z0 := T2.c0; have z1 := T2.c1; have z2 := T2.c2; have f0 := T2.fz 0; have f1 := T2.fz 1; have f2 := T2.fz 2; have U2 := T2.put (.slice A P.length c) (.int .i64 ((a : Int) + 5)) (.int .i64 0); have Q2 := ((q2.other hne (j := 0) (x := .slice A P.length c)).other hne (j := 1) (x := .int .i64 ((a : Int) + 5))).other hne (j := 2) (x := .int .i64 0); have y0 := q2.c0; have y1 := q2.c1; have g0 := q2.fz 0; have g1 := q2.fz 1; have BB2 := Lib.hid ((below_then BB1.out hb2).trans ((put3_step w2 (w.heap.size + 1) (.slice A P.length c) (.int .i64 ((a : Int) + 5)) (.int .i64 0)).below (B := w.heap.size) (below_then BB1.out hb2).size hlo))))
              | (go_at_call 70; go_loud ((with_reducible refine (takeWideN A P c (a + 5) 0 8 ((a : Int) + 5) 0 8 HA5.out h0.out rfl _ (hp.new BB2.out) hl2 hle2 (by decide) _ _ _ E3.out _ ((a : Int) + 13) 0 rfl HA13.out h0.out).mono ?_); rintro e3 w3 ⟨rfl, hb3⟩; have T3 := U2.new hb3; have q3 := Q2.new hb3; have z0 := T3.c0; have z1 := T3.c1; have z2 := T3.c2; have f0 := T3.fz 0; have f1 := T3.fz 1; have f2 := T3.fz 2; have U3 := T3.put (.slice A P.length c) (.int .i64 ((a : Int) + 13)) (.int .i64 0); have Q3 := ((q3.other hne (j := 0) (x := .slice A P.length c)).other hne (j := 1) (x := .int .i64 ((a : Int) + 13))).other hne (j := 2) (x := .int .i64 0); have y0 := q3.c0; have y1 := q3.c1; have g0 := q3.fz 0; have g1 := q3.fz 1; have BB3 := Lib.hid ((below_then BB2.out hb3).trans ((put3_step w3 (w.heap.size + 1) (.slice A P.length c) (.int .i64 ((a : Int) + 13)) (.int .i64 0)).below (B := w.heap.size) (below_then BB2.out hb3).size hlo))))
              | (go_at_call 70; go_loud ((with_reducible refine (takeWideN A P c (a + 13) 0 4 ((a : Int) + 13) 0 4 HA13.out h0.out rfl _ (hp.new BB3.out) hl2 hle3 (by decide) _ _ _ E4.out _ ((a : Int) + 17) 0 rfl HA17.out h0.out).mono ?_); rintro e4 w4 ⟨rfl, hb4⟩; have T4 := U3.new hb4; have q4 := Q3.new hb4; have z0 := T4.c0; have z1 := T4.c1; have z2 := T4.c2; have f0 := T4.fz 0; have f1 := T4.fz 1; have f2 := T4.fz 2; have U4 := T4.put (.slice A P.length c) (.int .i64 ((a : Int) + 17)) (.int .i64 0); have Q4 := ((q4.other hne (j := 0) (x := .slice A P.length c)).other hne (j := 1) (x := .int .i64 ((a : Int) + 17))).other hne (j := 2) (x := .int .i64 0); have y0 := q4.c0; have y1 := q4.c1; have g0 := q4.fz 0; have g1 := q4.fz 1; have BB4 := Lib.hid ((below_then BB3.out hb4).trans ((put3_step w4 (w.heap.size + 1) (.slice A P.length c) (.int .i64 ((a : Int) + 17)) (.int .i64 0)).below (B := w.heap.size) (below_then BB3.out hb4).size hlo)))))
            exact bodyPost_ret (results_dn rfl _ _ w.heap.size _ _ rfl ((Q4.set0 (.int .u64 0)).set1 (.slice none 0 0))) rfl ⟨none, 0, rfl, OB.nil _ _ _, (BB4.out.setCell (Nat.le_refl _) _).setCell (Nat.le_refl _) _⟩
          · have bm : ((m : Int) == 0) = false := by rw [beq_eq_false_iff_ne]; omega
            clear hmb hm0
            go_enter Try.func31, Try.ntmps31
            go_wp2_with (first
              | (go_at_call 70; go_loud ((with_reducible refine (takeWideN A P c a 0 1 a 0 1 rfl h0.out rfl _ (hp.new BB0.out) hl2 hle0 (by decide) _ _ _ E1.out _ ((a : Int) + 1) 0 rfl HA1.out h0.out).mono ?_); rintro e1 w1 ⟨rfl, hb1⟩; have T1 := U0.new hb1; have q1 := Q0.new hb1; have z0 := T1.c0; have z1 := T1.c1; have z2 := T1.c2; have f0 := T1.fz 0; have f1 := T1.fz 1; have f2 := T1.fz 2; have U1 := T1.put (.slice A P.length c) (.int .i64 ((a : Int) + 1)) (.int .i64 0); have Q1 := ((q1.other hne (j := 0) (x := .slice A P.length c)).other hne (j := 1) (x := .int .i64 ((a : Int) + 1))).other hne (j := 2) (x := .int .i64 0); have y0 := q1.c0; have y1 := q1.c1; have g0 := q1.fz 0; have g1 := q1.fz 1; have BB1 := Lib.hid ((below_then BB0.out hb1).trans ((put3_step w1 (w.heap.size + 1) (.slice A P.length c) (.int .i64 ((a : Int) + 1)) (.int .i64 0)).below (B := w.heap.size) (below_then BB0.out hb1).size hlo))))
              | (go_at_call 70; go_loud ((with_reducible refine (takeWideN A P c (a + 1) 0 4 ((a : Int) + 1) 0 4 HA1.out h0.out rfl _ (hp.new BB1.out) hl2 hle1 (by decide) _ _ _ E2.out _ ((a : Int) + 5) 0 rfl HA5.out h0.out).mono ?_); rintro e2 w2 ⟨rfl, hb2⟩; have T2 := U1.new hb2; have q2 := Q1.new hb2; have z0 := T2.c0; have z1 := T2.c1; have z2 := T2.c2; have f0 := T2.fz 0; have f1 := T2.fz 1; have f2 := T2.fz 2; have U2 := T2.put (.slice A P.length c) (.int .i64 ((a : Int) + 5)) (.int .i64 0); have Q2 := ((q2.other hne (j := 0) (x := .slice A P.length c)).other hne (j := 1) (x := .int .i64 ((a : Int) + 5))).other hne (j := 2) (x := .int .i64 0); have y0 := q2.c0; have y1 := q2.c1; have g0 := q2.fz 0; have g1 := q2.fz 1; have BB2 := Lib.hid ((below_then BB1.out hb2).trans ((put3_step w2 (w.heap.size + 1) (.slice A P.length c) (.int .i64 ((a : Int) + 5)) (.int .i64 0)).below (B := w.heap.size) (below_then BB1.out hb2).size hlo))))
              | (go_at_call 70; go_loud ((with_reducible refine (takeWideN A P c (a + 5) 0 8 ((a : Int) + 5) 0 8 HA5.out h0.out rfl _ (hp.new BB2.out) hl2 hle2 (by decide) _ _ _ E3.out _ ((a : Int) + 13) 0 rfl HA13.out h0.out).mono ?_); rintro e3 w3 ⟨rfl, hb3⟩; have T3 := U2.new hb3; have q3 := Q2.new hb3; have z0 := T3.c0; have z1 := T3.c1; have z2 := T3.c2; have f0 := T3.fz 0; have f1 := T3.fz 1; have f2 := T3.fz 2; have U3 := T3.put (.slice A P.length c) (.int .i64 ((a : Int) + 13)) (.int .i64 0); have Q3 := ((q3.other hne (j := 0) (x := .slice A P.length c)).other hne (j := 1) (x := .int .i64 ((a : Int) + 13))).other hne (j := 2) (x := .int .i64 0); have y0 := q3.c0; have y1 := q3.c1; have g0 := q3.fz 0; have g1 := q3.fz 1; have BB3 := Lib.hid ((below_then BB2.out hb3).trans ((put3_step w3 (w.heap.size + 1) (.slice A P.length c) (.int .i64 ((a : Int) + 13)) (.int .i64 0)).below (B := w.heap.size) (below_then BB2.out hb3).size hlo))))
              | (go_at_call 70; go_loud ((with_reducible refine (takeWideN A P c (a + 13) 0 4 ((a : Int) + 13) 0 4 HA13.out h0.out rfl _ (hp.new BB3.out) hl2 hle3 (by decide) _ _ _ E4.out _ ((a : Int) + 17) 0 rfl HA17.out h0.out).mono ?_); rintro e4 w4 ⟨rfl, hb4⟩; have T4 := U3.new hb4; have q4 := Q3.new hb4; have z0 := T4.c0; have z1 := T4.c1; have z2 := T4.c2; have f0 := T4.fz 0; have f1 := T4.fz 1; have f2 := T4.fz 2; have U4 := T4.put (.slice A P.length c) (.int .i64 ((a : Int) + 17)) (.int .i64 0); have Q4 := ((q4.other hne (j := 0) (x := .slice A P.length c)).other hne (j := 1) (x := .int .i64 ((a : Int) + 17))).other hne (j := 2) (x := .int .i64 0); have y0 := q4.c0; have y1 := q4.c1; have g0 := q4.fz 0; have g1 := q4.fz 1; have BB4 := Lib.hid ((below_then BB3.out hb4).trans ((put3_step w4 (w.heap.size + 1) (.slice A P.length c) (.int .i64 ((a : Int) + 17)) (.int .i64 0)).below (B := w.heap.size) (below_then BB3.out hb4).size hlo)))))
            exact bodyPost_ret (results_dn rfl _ _ w.heap.size _ _ rfl ((Q4.set0 (.int .u64 0)).set1 (.slice none 0 0))) rfl ⟨none, 0, rfl, OB.nil _ _ _, (BB4.out.setCell (Nat.le_refl _) _).setCell (Nat.le_refl _) _⟩
        · have bm : ((m : Int) == 0) = false := by rw [beq_eq_false_iff_ne]; omega
          have bm2 : ¬ 65535 < (m : Int) := by omega
          have HA17m := Lib.hid (show (a : Int) + 17 + m = ((a + 17 + m : Nat) : Int) from rfl)
          have hle4 : a + 17 ≤ P.length := by omega
          by_cases hs : P.length < a + 18 + m
          · have hN2 : nextF P a = noNx 2 a := by rw [hN]; simp only; rw [if_pos (by omega)]
            rw [hN2]
            clear hN hN2 h1
            by_cases hs2 : P.length < a + 17 + m
            · have E5 : Hid (rawS P (a + 17) 0 m = ([], a + 17, 3)) := Lib.hid (by unfold WireMath.rawS; rw [if_neg (by simp), if_neg (by omega), if_pos (by omega)])
              have E6 : Hid (numS P (a + 17) 3 1 = (0, a + 17, 3)) := Lib.hid (num_bad _ _ _ _ (by decide))
              clear hs hs2 hmb
              go_enter Try.func31, Try.ntmps31
              go_wp2_with (first
                | (go_at_call 70; go_loud ((with_reducible refine (takeWideN A P c a 0 1 a 0 1 rfl h0.out rfl _ (hp.new BB0.out) hl2 hle0 (by decide) _ _ _ E1.out _ ((a : Int) + 1) 0 rfl HA1.out h0.out).mono ?_); rintro e1 w1 ⟨rfl, hb1⟩; have T1 := U0.new hb1; have q1 := Q0.new hb1; have z0 := T1.c0; have z1 := T1.c1; have z2 := T1.c2; have f0 := T1.fz 0; have f1 := T1.fz 1; have f2 := T1.fz 2; have U1 := T1.put (.slice A P.length c) (.int .i64 ((a : Int) + 1)) (.int .i64 0); have Q1 := ((q1.other hne (j := 0) (x := .slice A P.length c)).other hne (j := 1) (x := .int .i64 ((a : Int) + 1))).other hne (j := 2) (x := .int .i64 0); have y0 := q1.c0; have y1 := q1.c1; have g0 := q1.fz 0; have g1 := q1.fz 1; have BB1 := Lib.hid ((below_then BB0.out hb1).trans ((put3_step w1 (w.heap.size + 1) (.slice A P.length c) (.int .i64 ((a : Int) + 1)) (.int .i64 0)).below (B := w.heap.size) (below_then BB0.out hb1).size hlo))))
                | (go_at_call 70; go_loud ((with_reducible refine (takeWideN A P c (a + 1) 0 4 ((a : Int) + 1) 0 4 HA1.out h0.out rfl _ (hp.new BB1.out) hl2 hle1 (by decide) _ _ _ E2.out _ ((a : Int) + 5) 0 rfl HA5.out h0.out).mono ?_); rintro e2 w2 ⟨rfl, hb2⟩; have T2 := U1.new hb2; have q2 := Q1.new hb2; have z0 := T2.c0; have z1 := T2.c1; have z2 := T2.c2; have f0 := T2.fz 0; have f1 := T2.fz 1; have f2 := T2.fz 2; have U2 := T2.put (.slice A P.length c) (.int .i64 ((a : Int) + 5)) (.int .i64 0); have Q2 := ((q2.other hne (j := 0) (x := .slice A P.length c)).other hne (j := 1) (x := .int .i64 ((a : Int) + 5))).other hne (j := 2) (x := .int .i64 0); have y0 := q2.c0; have y1 := q2.c1; have g0 := q2.fz 0; have g1 := q2.fz 1; have BB2 := Lib.hid ((below_then BB1.out hb2).trans ((put3_step w2 (w.heap.size + 1) (.slice A P.length c) (.int .i64 ((a : Int) + 5)) (.int .i64 0)).below (B := w.heap.size) (below_then BB1.out hb2).size hlo))))
                | (go_at_call 70; go_loud ((with_reducible refine (takeWideN A P c (a + 5) 0 8 ((a : Int) + 5) 0 8 HA5.out h0.out rfl _ (hp.new BB2.out) hl2 hle2 (by decide) _ _ _ E3.out _ ((a : Int) + 13) 0 rfl HA13.out h0.out).mono ?_); rintro e3 w3 ⟨rfl, hb3⟩; have T3 := U2.new hb3; have q3 := Q2.new hb3; have z0 := T3.c0; have z1 := T3.c1; have z2 := T3.c2; have f0 := T3.fz 0; have f1 := T3.fz 1; have f2 := T3.fz 2; have U3 := T3.put (.slice A P.length c) (.int .i64 ((a : Int) + 13)) (.int .i64 0); have Q3 := ((q3.other hne (j := 0) (x := .slice A P.length c)).other hne (j := 1) (x := .int .i64 ((a : Int) + 13))).other hne (j := 2) (x := .int .i64 0); have y0 := q3.c0; have y1 := q3.c1; have g0 := q3.fz 0; have g1 := q3.fz 1; have BB3 := Lib.hid ((below_then BB2.out hb3).trans ((put3_step w3 (w.heap.size + 1) (.slice A P.length c) (.int .i64 ((a : Int) + 13)) (.int .i64 0)).below (B := w.heap.size) (below_then BB2.out hb3).size hlo))))
                | (go_at_call 70; go_loud ((with_reducible refine (takeWideN A P c (a + 13) 0 4 ((a : Int) + 13) 0 4 HA13.out h0.out rfl _ (hp.new BB3.out) hl2 hle3 (by decide) _ _ _ E4.out _ ((a : Int) + 17) 0 rfl HA17.out h0.out).mono ?_); rintro e4 w4 ⟨rfl, hb4⟩; have T4 := U3.new hb4; have q4 := Q3.new hb4; have z0 := T4.c0; have z1 := T4.c1; have z2 := T4.c2; have f0 := T4.fz 0; have f1 := T4.fz 1; have f2 := T4.fz 2; have U4 := T4.put (.slice A P.length c) (.int .i64 ((a : Int) + 17)) (.int .i64 0); have Q4 := ((q4.other hne (j := 0) (x := .slice A P.length c)).other hne (j := 1) (x := .int .i64 ((a : Int) + 17))).other hne (j := 2) (x := .int .i64 0); have y0 := q4.c0; have y1 := q4.c1; have g0 := q4.fz 0; have g1 := q4.fz 1; have BB4 := Lib.hid ((below_then BB3.out hb4).trans ((put3_step w4 (w.heap.size + 1) (.slice A P.length c) (.int .i64 ((a : Int) + 17)) (.int .i64 0)).below (B := w.heap.size) (below_then BB3.out hb4).size hlo))))
                | (go_at_call 71; go_loud ((with_reducible refine (takeRawN A P c (a + 17) ((a : Int) + 17) HA17.out m _ (hp.new BB4.out) hl hle4 (by omega) [] _ _ E5.out 0 ((a : Int) + 17) 3 rfl HA17.out h3.out).mono ?_); rintro e5 w5 ⟨A5, c5, rfl, hn5⟩; have T5 := U4.new hn5.below; have q5 := Q4.new hn5.below; have z0 := T5.c0; have z1 := T5.c1; have z2 := T5.c2; have f0 := T5.fz 0; have f1 := T5.fz 1; have f2 := T5.fz 2; have U5 := T5.put (.slice A P.length c) (.int .i64 ((a : Int) + 17)) (.int .i64 3); have Q5 := ((q5.other hne (j := 0) (x := .slice A P.length c)).other hne (j := 1) (x := .int .i64 ((a : Int) + 17))).other hne (j := 2) (x := .int .i64 3); have y0 := q5.c0; have y1 := q5.c1; have g0 := q5.fz 0; have g1 := q5.fz 1; have BB5 := Lib.hid ((below_then BB4.out hn5.below).trans ((put3_step w5 (w.heap.size + 1) (.slice A P.length c) (.int .i64 ((a : Int) + 17)) (.int .i64 3)).below (B := w.heap.size) (below_then BB4.out hn5.below).size hlo))))
                | (go_at_call 70; go_loud ((with_reducible refine (takeWideN A P c (a + 17) 3 1 ((a : Int) + 17) 3 1 HA17.out h3.out rfl _ (hp.new BB5.out) hl2 hle4 (by decide) _ _ _ E6.out _ ((a : Int) + 17) 3 rfl HA17.out h3.out).mono ?_); rintro e6 w6 ⟨rfl, hb6⟩; have T6 := U5.new hb6; have q6 := Q5.new hb6; have z0 := T6.c0; have z1 := T6.c1; have z2 := T6.c2; have f0 := T6.fz 0; have f1 := T6.fz 1; have f2 := T6.fz 2; have U6 := T6.put (.slice A P.length c) (.int .i64 ((a : Int) + 17)) (.int .i64 3); have Q6 := ((q6.other hne (j := 0) (x := .slice A P.length c)).other hne (j := 1) (x := .int .i64 ((a : Int) + 17))).other hne (j := 2) (x := .int .i64 3); have y0 := q6.c0; have y1 := q6.c1; have g0 := q6.fz 0; have g1 := q6.fz 1; have BB6 := Lib.hid ((below_then BB5.out hb6).trans ((put3_step w6 (w.heap.size + 1) (.slice A P.length c) (.int .i64 ((a : Int) + 17)) (.int .i64 3)).below (B := w.heap.size) (below_then BB5.out hb6).size hlo)))))
              go_quiet (fail)
              go_wp2
              exact bodyPost_ret (results_dn rfl _ _ w.heap.size _ _ rfl (((Q6.drewN nq).set0 (.int .u64 0)).set1 (.slice none 0 0))) rfl ⟨none, 0, rfl, OB.nil _ _ _, ((below_drewN BB6.out nq).setCell (Nat.le_refl _) _).setCell (Nat.le_refl _) _⟩
            · have E5 : Hid (rawS P (a + 17) 0 m = ((P.drop (a + 17)).take m, a + 17 + m, 0)) := Lib.hid (by unfold WireMath.rawS; rw [if_neg (by simp), if_neg (by omega), if_neg (by omega)]; simp)
              have E6 : Hid (numS P (a + 17 + m) 0 1 = (0, a + 17 + m, 3)) := Lib.hid (num_short _ _ _ (by omega) (by omega))
              have hle5 : a + 17 + m ≤ P.length := by omega
              have HQN := Lib.hid (show m = ((P.drop (a + 17)).take m).length by rw [List.length_take, List.length_drop]; omega)
              clear hs hs2 hmb
              go_enter Try.func31, Try.ntmps31
              go_wp2_with (first
                | (go_at_call 70; go_loud ((with_reducible refine (takeWideN A P c a 0 1 a 0 1 rfl h0.out rfl _ (hp.new BB0.out) hl2 hle0 (by decide) _ _ _ E1.out _ ((a : Int) + 1) 0 rfl HA1.out h0.out).mono ?_); rintro e1 w1 ⟨rfl, hb1⟩; have T1 := U0.new hb1; have q1 := Q0.new hb1; have z0 := T1.c0; have z1 := T1.c1; have z2 := T1.c2; have f0 := T1.fz 0; have f1 := T1.fz 1; have f2 := T1.fz 2; have U1 := T1.put (.slice A P.length c) (.int .i64 ((a : Int) + 1)) (.int .i64 0); have Q1 := ((q1.other hne (j := 0) (x := .slice A P.length c)).other hne (j := 1) (x := .int .i64 ((a : Int) + 1))).other hne (j := 2) (x := .int .i64 0); have y0 := q1.c0; have y1 := q1.c1; have g0 := q1.fz 0; have g1 := q1.fz 1; have BB1 := Lib.hid ((below_then BB0.out hb1).trans ((put3_step w1 (w.heap.size + 1) (.slice A P.length c) (.int .i64 ((a : Int) + 1)) (.int .i64 0)).below (B := w.heap.size) (below_then BB0.out hb1).size hlo))))
                | (go_at_call 70; go_loud ((with_reducible refine (takeWideN A P c (a + 1) 0 4 ((a : Int) + 1) 0 4 HA1.out h0.out rfl _ (hp.new BB1.out) hl2 hle1 (by decide) _ _ _ E2.out _ ((a : Int) + 5) 0 rfl HA5.out h0.out).mono ?_); rintro e2 w2 ⟨rfl, hb2⟩; have T2 := U1.new hb2; have q2 := Q1.new hb2; have z0 := T2.c0; have z1 := T2.c1; have z2 := T2.c2; have f0 := T2.fz 0; have f1 := T2.fz 1; have f2 := T2.fz 2; have U2 := T2.put (.slice A P.length c) (.int .i64 ((a : Int) + 5)) (.int .i64 0); have Q2 := ((q2.other hne (j := 0) (x := .slice A P.length c)).other hne (j := 1) (x := .int .i64 ((a : Int) + 5))).other hne (j := 2) (x := .int .i64 0); have y0 := q2.c0; have y1 := q2.c1; have g0 := q2.fz 0; have g1 := q2.fz 1; have BB2 := Lib.hid ((below_then BB1.out hb2).trans ((put3_step w2 (w.heap.size + 1) (.slice A P.length c) (.int .i64 ((a : Int) + 5)) (.int .i64 0)).below (B := w.heap.size) (below_then BB1.out hb2).size hlo))))
                | (go_at_call 70; go_loud ((with_reducible refine (takeWideN A P c (a + 5) 0 8 ((a : Int) + 5) 0 8 HA5.out h0.out rfl _ (hp.new BB2.out) hl2 hle2 (by decide) _ _ _ E3.out _ ((a : Int) + 13) 0 rfl HA13.out h0.out).mono ?_); rintro e3 w3 ⟨rfl, hb3⟩; have T3 := U2.new hb3; have q3 := Q2.new hb3; have z0 := T3.c0; have z1 := T3.c1; have z2 := T3.c2; have f0 := T3.fz 0; have f1 := T3.fz 1; have f2 := T3.fz 2; have U3 := T3.put (.slice A P.length c) (.int .i64 ((a : Int) + 13)) (.int .i64 0); have Q3 := ((q3.other hne (j := 0) (x := .slice A P.length c)).other hne (j := 1) (x := .int .i64 ((a : Int) + 13))).other hne (j := 2) (x := .int .i64 0); have y0 := q3.c0; have y1 := q3.c1; have g0 := q3.fz 0; have g1 := q3.fz 1; have BB3 := Lib.hid ((below_then BB2.out hb3).trans ((put3_step w3 (w.heap.size + 1) (.slice A P.length c) (.int .i64 ((a : Int) + 13)) (.int .i64 0)).below (B := w.heap.size) (below_then BB2.out hb3).size hlo))))
                | (go_at_call 70; go_loud ((with_reducible refine (takeWideN A P c (a + 13) 0 4 ((a : Int) + 13) 0 4 HA13.out h0.out rfl _ (hp.new BB3.out) hl2 hle3 (by decide) _ _ _ E4.out _ ((a : Int) + 17) 0 rfl HA17.out h0.out).mono ?_); rintro e4 w4 ⟨rfl, hb4⟩; have T4 := U3.new hb4; have q4 := Q3.new hb4; have z0 := T4.c0; have z1 := T4.c1; have z2 := T4.c2; have f0 := T4.fz 0; have f1 := T4.fz 1; have f2 := T4.fz 2; have U4 := T4.put (.slice A P.length c) (.int .i64 ((a : Int) + 17)) (.int .i64 0); have Q4 := ((q4.other hne (j := 0) (x := .slice A P.length c)).other hne (j := 1) (x := .int .i64 ((a : Int) + 17))).other hne (j := 2) (x := .int .i64 0); have y0 := q4.c0; have y1 := q4.c1; have g0 := q4.fz 0; have g1 := q4.fz 1; have BB4 := Lib.hid ((below_then BB3.out hb4).trans ((put3_step w4 (w.heap.size + 1) (.slice A P.length c) (.int .i64 ((a : Int) + 17)) (.int .i64 0)).below (B := w.heap.size) (below_then BB3.out hb4).size hlo))))
                | (go_at_call 71; go_loud ((with_reducible refine (takeRawN A P c (a + 17) ((a : Int) + 17) HA17.out m _ (hp.new BB4.out) hl hle4 (by omega) _ _ _ E5.out m ((a : Int) + 17 + m) 0 HQN.out HA17m.out h0.out).mono ?_); rintro e5 w5 ⟨A5, c5, rfl, hn5⟩; have T5 := U4.new hn5.below; have q5 := Q4.new hn5.below; have z0 := T5.c0; have z1 := T5.c1; have z2 := T5.c2; have f0 := T5.fz 0; have f1 := T5.fz 1; have f2 := T5.fz 2; have U5 := T5.put (.slice A P.length c) (.int .i64 ((a : Int) + 17 + m)) (.int .i64 0); have Q5 := ((q5.other hne (j := 0) (x := .slice A P.length c)).other hne (j := 1) (x := .int .i64 ((a : Int) + 17 + m))).other hne (j := 2) (x := .int .i64 0); have y0 := q5.c0; have y1 := q5.c1; have g0 := q5.fz 0; have g1 := q5.fz 1; have BB5 := Lib.hid ((below_then BB4.out hn5.below).trans ((put3_step w5 (w.heap.size + 1) (.slice A P.length c) (.int .i64 ((a : Int) + 17 + m)) (.int .i64 0)).below (B := w.heap.size) (below_then BB4.out hn5.below).size hlo))))
                | (go_at_call 70; go_loud ((with_reducible refine (takeWideN A P c (a + 17 + m) 0 1 ((a : Int) + 17 + m) 0 1 HA17m.out h0.out rfl _ (hp.new BB5.out) hl2 hle5 (by decide) _ _ _ E6.out _ ((a : Int) + 17 + m) 3 rfl HA17m.out h3.out).mono ?_); rintro e6 w6 ⟨rfl, hb6⟩; have T6 := U5.new hb6; have q6 := Q5.new hb6; have z0 := T6.c0; have z1 := T6.c1; have z2 := T6.c2; have f0 := T6.fz 0; have f1 := T6.fz 1; have f2 := T6.fz 2; have U6 := T6.put (.slice A P.length c) (.int .i64 ((a : Int) + 17 + m)) (.int .i64 3); have Q6 := ((q6.other hne (j := 0) (x := .slice A P.length c)).other hne (j := 1) (x := .int .i64 ((a : Int) + 17 + m))).other hne (j := 2) (x := .int .i64 3); have y0 := q6.c0; have y1 := q6.c1; have g0 := q6.fz 0; have g1 := q6.fz 1; have BB6 := Lib.hid ((below_then BB5.out hb6).trans ((put3_step w6 (w.heap.size + 1) (.slice A P.length c) (.int .i64 ((a : Int) + 17 + m)) (.int .i64 3)).below (B := w.heap.size) (below_then BB5.out hb6).size hlo)))))
              go_quiet (fail)
              go_wp2
              exact bodyPost_ret (results_dn rfl _ _ w.heap.size _ _ rfl (((Q6.drewN nq).set0 (.int .u64 0)).set1 (.slice none 0 0))) rfl ⟨none, 0, rfl, OB.nil _ _ _, ((below_drewN BB6.out nq).setCell (Nat.le_refl _) _).setCell (Nat.le_refl _) _⟩
          · have E5 : Hid (rawS P (a + 17) 0 m = ((P.drop (a + 17)).take m, a + 17 + m, 0)) := Lib.hid (by unfold WireMath.rawS; rw [if_neg (by simp), if_neg (by omega), if_neg (by omega)]; simp)
            have E6 : Hid (numS P (a + 17 + m) 0 1 = (beN ((P.drop (a + 17 + m)).take 1), a + 17 + m + 1, 0)) := Lib.hid (num_ok _ _ _ (by omega))
            have hle5 : a + 17 + m ≤ P.length := by omega
            have hql : ((P.drop (a + 17)).take m).length = m := by rw [List.length_take, List.length_drop]; omega
            have HA18m := Lib.hid (show (a : Int) + 17 + m + 1 = ((a + 17 + m + 1 : Nat) : Int) from rfl)
            rw [hN]
            simp only
            rw [if_neg (by omega)]
            have hcap := hp.len
            have hsl := fun w' : World => run_cut w' A P.length c (a : Int) ((a : Int) + 17 + m + 1) a (a + (m + 18)) rfl (by omega) (by omega) (by omega)
            have hcut := hp.cut a (a + (m + 18)) (by omega) (by omega)
            rw [Nat.add_sub_cancel_left] at hsl hcut
            have hcl : ((P.drop a).take (m + 18)).length = m + 18 := by rw [List.length_take, List.length_drop]; omega
            have hll := FrameMath.laid_length place ((P.drop (a + 17)).take m)
            rw [hql] at hll
            generalize (P.drop (a + 17)).take m = pay at *
            generalize (P.drop a).take (m + 18) = cut at *
            have HQN := Lib.hid hql.symm
            have HCL := Lib.hid hcl.symm
            have HLL := Lib.hid hll.symm
            have HCUT := Lib.hid hcut
            have hm65 : pay.length ≤ 65535 := by omega
            generalize beN ((P.drop (a + 13)).take 4) = crc4 at *
            generalize beN ((P.drop (a + 17 + m)).take 1) = last1 at *
            generalize beN ((P.drop a).take 1) = first1 at *
            clear hN h1 hs hmb hql hcl hll hcut
            by_cases heq : laid place pay = cut
            · rw [if_pos heq]
              have HEQ := Lib.hid (show (laid place pay == cut) = true by rw [heq]; simp)
              clear heq
              go_enter Try.func31, Try.ntmps31
              go_wp2_with (first
                | (go_at_call 70; go_loud ((with_reducible refine (takeWideN A P c a 0 1 a 0 1 rfl h0.out rfl _ (hp.new BB0.out) hl2 hle0 (by decide) _ _ _ E1.out _ ((a : Int) + 1) 0 rfl HA1.out h0.out).mono ?_); rintro e1 w1 ⟨rfl, hb1⟩; have T1 := U0.new hb1; have q1 := Q0.new hb1; have z0 := T1.c0; have z1 := T1.c1; have z2 := T1.c2; have f0 := T1.fz 0; have f1 := T1.fz 1; have f2 := T1.fz 2; have U1 := T1.put (.slice A P.length c) (.int .i64 ((a : Int) + 1)) (.int .i64 0); have Q1 := ((q1.other hne (j := 0) (x := .slice A P.length c)).other hne (j := 1) (x := .int .i64 ((a : Int) + 1))).other hne (j := 2) (x := .int .i64 0); have y0 := q1.c0; have y1 := q1.c1; have g0 := q1.fz 0; have g1 := q1.fz 1; have BB1 := Lib.hid ((below_then BB0.out hb1).trans ((put3_step w1 (w.heap.size + 1) (.slice A P.length c) (.int .i64 ((a : Int) + 1)) (.int .i64 0)).below (B := w.heap.size) (below_then BB0.out hb1).size hlo))))
                | (go_at_call 70; go_loud ((with_reducible refine (takeWideN A P c (a + 1) 0 4 ((a : Int) + 1) 0 4 HA1.out h0.out rfl _ (hp.new BB1.out) hl2 hle1 (by decide) _ _ _ E2.out _ ((a : Int) + 5) 0 rfl HA5.out h0.out).mono ?_); rintro e2 w2 ⟨rfl, hb2⟩; have T2 := U1.new hb2; have q2 := Q1.new hb2; have z0 := T2.c0; have z1 := T2.c1; have z2 := T2.c2; have f0 := T2.fz 0; have f1 := T2.fz 1; have f2 := T2.fz 2; have U2 := T2.put (.slice A P.length c) (.int .i64 ((a : Int) + 5)) (.int .i64 0); have Q2 := ((q2.other hne (j := 0) (x := .slice A P.length c)).other hne (j := 1) (x := .int .i64 ((a : Int) + 5))).other hne (j := 2) (x := .int .i64 0); have y0 := q2.c0; have y1 := q2.c1; have g0 := q2.fz 0; have g1 := q2.fz 1; have BB2 := Lib.hid ((below_then BB1.out hb2).trans ((put3_step w2 (w.heap.size + 1) (.slice A P.length c) (.int .i64 ((a : Int) + 5)) (.int .i64 0)).below (B := w.heap.size) (below_then BB1.out hb2).size hlo))))
                | (go_at_call 70; go_loud ((with_reducible refine (takeWideN A P c (a + 5) 0 8 ((a : Int) + 5) 0 8 HA5.out h0.out rfl _ (hp.new BB2.out) hl2 hle2 (by decide) _ _ _ E3.out _ ((a : Int) + 13) 0 rfl HA13.out h0.out).mono ?_); rintro e3 w3 ⟨rfl, hb3⟩; have T3 := U2.new hb3; have q3 := Q2.new hb3; have z0 := T3.c0; have z1 := T3.c1; have z2 := T3.c2; have f0 := T3.fz 0; have f1 := T3.fz 1; have f2 := T3.fz 2; have U3 := T3.put (.slice A P.length c) (.int .i64 ((a : Int) + 13)) (.int .i64 0); have Q3 := ((q3.other hne (j := 0) (x := .slice A P.length c)).other hne (j := 1) (x := .int .i64 ((a : Int) + 13))).other hne (j := 2) (x := .int .i64 0); have y0 := q3.c0; have y1 := q3.c1; have g0 := q3.fz 0; have g1 := q3.fz 1; have BB3 := Lib.hid ((below_then BB2.out hb3).trans ((put3_step w3 (w.heap.size + 1) (.slice A P.length c) (.int .i64 ((a : Int) + 13)) (.int .i64 0)).below (B := w.heap.size) (below_then BB2.out hb3).size hlo))))
                | (go_at_call 70; go_loud ((with_reducible refine (takeWideN A P c (a + 13) 0 4 ((a : Int) + 13) 0 4 HA13.out h0.out rfl _ (hp.new BB3.out) hl2 hle3 (by decide) _ _ _ E4.out _ ((a : Int) + 17) 0 rfl HA17.out h0.out).mono ?_); rintro e4 w4 ⟨rfl, hb4⟩; have T4 := U3.new hb4; have q4 := Q3.new hb4; have z0 := T4.c0; have z1 := T4.c1; have z2 := T4.c2; have f0 := T4.fz 0; have f1 := T4.fz 1; have f2 := T4.fz 2; have U4 := T4.put (.slice A P.length c) (.int .i64 ((a : Int) + 17)) (.int .i64 0); have Q4 := ((q4.other hne (j := 0) (x := .slice A P.length c)).other hne (j := 1) (x := .int .i64 ((a : Int) + 17))).other hne (j := 2) (x := .int .i64 0); have y0 := q4.c0; have y1 := q4.c1; have g0 := q4.fz 0; have g1 := q4.fz 1; have BB4 := Lib.hid ((below_then BB3.out hb4).trans ((put3_step w4 (w.heap.size + 1) (.slice A P.length c) (.int .i64 ((a : Int) + 17)) (.int .i64 0)).below (B := w.heap.size) (below_then BB3.out hb4).size hlo))))
                | (go_at_call 71; go_loud ((with_reducible refine (takeRawN A P c (a + 17) ((a : Int) + 17) HA17.out m _ (hp.new BB4.out) hl hle4 (by omega) _ _ _ E5.out m ((a : Int) + 17 + m) 0 HQN.out HA17m.out h0.out).mono ?_); rintro e5 w5 ⟨A5, c5, rfl, hn5⟩; have T5 := U4.new hn5.below; have q5 := Q4.new hn5.below; have z0 := T5.c0; have z1 := T5.c1; have z2 := T5.c2; have f0 := T5.fz 0; have f1 := T5.fz 1; have f2 := T5.fz 2; have U5 := T5.put (.slice A P.length c) (.int .i64 ((a : Int) + 17 + m)) (.int .i64 0); have Q5 := ((q5.other hne (j := 0) (x := .slice A P.length c)).other hne (j := 1) (x := .int .i64 ((a : Int) + 17 + m))).other hne (j := 2) (x := .int .i64 0); have y0 := q5.c0; have y1 := q5.c1; have g0 := q5.fz 0; have g1 := q5.fz 1; have BB5 := Lib.hid ((below_then BB4.out hn5.below).trans ((put3_step w5 (w.heap.size + 1) (.slice A P.length c) (.int .i64 ((a : Int) + 17 + m)) (.int .i64 0)).below (B := w.heap.size) (below_then BB4.out hn5.below).size hlo))))
                | (go_at_call 70; go_loud ((with_reducible refine (takeWideN A P c (a + 17 + m) 0 1 ((a : Int) + 17 + m) 0 1 HA17m.out h0.out rfl _ (hp.new BB5.out) hl2 hle5 (by decide) _ _ _ E6.out _ ((a : Int) + 17 + m + 1) 0 rfl HA18m.out h0.out).mono ?_); rintro e6 w6 ⟨rfl, hb6⟩; have T6 := U5.new hb6; have q6 := Q5.new hb6; have z0 := T6.c0; have z1 := T6.c1; have z2 := T6.c2; have f0 := T6.fz 0; have f1 := T6.fz 1; have f2 := T6.fz 2; have U6 := T6.put (.slice A P.length c) (.int .i64 ((a : Int) + 17 + m + 1)) (.int .i64 0); have Q6 := ((q6.other hne (j := 0) (x := .slice A P.length c)).other hne (j := 1) (x := .int .i64 ((a : Int) + 17 + m + 1))).other hne (j := 2) (x := .int .i64 0); have y0 := q6.c0; have y1 := q6.c1; have g0 := q6.fz 0; have g1 := q6.fz 1; have BB6 := Lib.hid ((below_then BB5.out hb6).trans ((put3_step w6 (w.heap.size + 1) (.slice A P.length c) (.int .i64 ((a : Int) + 17 + m + 1)) (.int .i64 0)).below (B := w.heap.size) (below_then BB5.out hb6).size hlo)))))
              have rp := Lib.hid ((((hn5.own.rb.step (put3_step w5 (w.heap.size + 1) (.slice A P.length c) (.int .i64 ((a : Int) + 17 + m)) (.int .i64 0)) (Free.of_new hn5.own.lo (fun k hk => by have h1 : k = w.heap.size + 1 := hk; have := U4.lt; omega))).new hb6).step (put3_step w6 (w.heap.size + 1) (.slice A P.length c) (.int .i64 ((a : Int) + 17 + m + 1)) (.int .i64 0)) (Free.of_new hn5.own.lo (fun k hk => by have h1 : k = w.heap.size + 1 := hk; have := U4.lt; omega))))
              have d1 := U6.c1
              have d2 := U6.c2
              go_region_held3 (fun w' => w'.cell? ⟨w.heap.size + 1, 1, none⟩ = some (.int .i64 ((a : Int) + 17 + m + 1)) ∧ w'.cell? ⟨w.heap.size + 1, 2, none⟩ = some (.int .i64 0)) (go_keep) (first
                | (go_at_call 64; go_loud (with_reducible refine (reflaid_calls place _ rfl hpl A5 pay m c5 _ (rp.out.new (below_drew _ _)) HQN.out hm65).mono ?_); rintro e7 w7 ⟨A7, c7, rfl, hn7⟩; have U7 := U6.new ((below_drew _ _).trans hn7.below); have Q7 := Q6.new ((below_drew _ _).trans hn7.below); have BB7 := Lib.hid (BB6.out.trans (((below_drew _ _).trans hn7.below).mono BB6.out.size)); have d1 := U7.c1; have d2 := U7.c2)
                | (go_at_call 22; go_loud (with_reducible refine (sameR A7 (cutA A a c) (laid place pay) cut (m + 18) (m + 18) c7 (c - a) _ hn7.own.rb (HCUT.out.new BB7.out) HLL.out HCL.out _ HEQ.out).mono ?_); rintro e8 w8 ⟨rfl, hd8⟩; have U8 := U7.new (hd8.below _); have Q8 := Q7.new (hd8.below _); have BB8 := Lib.hid (BB7.out.trans (hd8.below _)); have d1 := U8.c1; have d2 := U8.c2; have z1 := U8.c1; have y0 := Q8.c0; have y1 := Q8.c1; have g0 := Q8.fz 0; have g1 := Q8.fz 1))
              go_wp2
              go_region
              all_goals go_wp2
              have hs4 := U4.lt
              have hlt1 : w.heap.size + 1 < ((((w4.setCell ⟨w.heap.size + 1, 0, none⟩ (.slice A P.length c)).setCell ⟨w.heap.size + 1, 1, none⟩ (.int .i64 ((a : Int) + 17))).setCell ⟨w.heap.size + 1, 2, none⟩ (.int .i64 0))).heap.size := hs4
              have o5 := ((hn5.own.low (j := 0) (u := .slice A P.length c) hlt1).low (j := 1) (u := .int .i64 ((a : Int) + 17 + m)) hlt1).low (j := 2) (u := .int .i64 0) hlt1
              have o6 := (((o5.new hb6).low (j := 0) (u := .slice A P.length c) hlt1).low (j := 1) (u := .int .i64 ((a : Int) + 17 + m + 1)) hlt1).low (j := 2) (u := .int .i64 0) hlt1
              have hlt0 : w.heap.size < ((((w4.setCell ⟨w.heap.size + 1, 0, none⟩ (.slice A P.length c)).setCell ⟨w.heap.size + 1, 1, none⟩ (.int .i64 ((a : Int) + 17))).setCell ⟨w.heap.size + 1, 2, none⟩ (.int .i64 0))).heap.size := Nat.lt_of_succ_lt hs4
              have o8 := ((((o6.new ((below_drew _ _).trans hn7.below)).new (hd8.below _)).low (j := 0) (u := .int .u64 place) hlt0).low (j := 1) (u := .slice A5 m c5) hlt0).drew.mono (Nat.le_of_lt hlt0)
              rw [← HQN.out]
              exact bodyPost_ret (results_dn rfl _ _ w.heap.size _ _ rfl (((Q8.set0 (.int .u64 place)).set1 (.slice A5 m c5)).new (below_drew _ _))) rfl ⟨A5, c5, rfl, o8, ((BB8.out.setCell (Nat.le_refl _) _).setCell (Nat.le_refl _) _).drew⟩
            · rw [if_neg heq]
              have HEQ := Lib.hid (show (laid place pay == cut) = false by rw [beq_eq_false_iff_ne]; exact heq)
              clear heq
              go_enter Try.func31, Try.ntmps31
              go_wp2_with (first
                | (go_at_call 70; go_loud ((with_reducible refine (takeWideN A P c a 0 1 a 0 1 rfl h0.out rfl _ (hp.new BB0.out) hl2 hle0 (by decide) _ _ _ E1.out _ ((a : Int) + 1) 0 rfl HA1.out h0.out).mono ?_); rintro e1 w1 ⟨rfl, hb1⟩; have T1 := U0.new hb1; have q1 := Q0.new hb1; have z0 := T1.c0; have z1 := T1.c1; have z2 := T1.c2; have f0 := T1.fz 0; have f1 := T1.fz 1; have f2 := T1.fz 2; have U1 := T1.put (.slice A P.length c) (.int .i64 ((a : Int) + 1)) (.int .i64 0); have Q1 := ((q1.other hne (j := 0) (x := .slice A P.length c)).other hne (j := 1) (x := .int .i64 ((a : Int) + 1))).other hne (j := 2) (x := .int .i64 0); have y0 := q1.c0; have y1 := q1.c1; have g0 := q1.fz 0; have g1 := q1.fz 1; have BB1 := Lib.hid ((below_then BB0.out hb1).trans ((put3_step w1 (w.heap.size + 1) (.slice A P.length c) (.int .i64 ((a : Int) + 1)) (.int .i64 0)).below (B := w.heap.size) (below_then BB0.out hb1).size hlo))))
                | (go_at_call 70; go_loud ((with_reducible refine (takeWideN A P c (a + 1) 0 4 ((a : Int) + 1) 0 4 HA1.out h0.out rfl _ (hp.new BB1.out) hl2 hle1 (by decide) _ _ _ E2.out _ ((a : Int) + 5) 0 rfl HA5.out h0.out).mono ?_); rintro e2 w2 ⟨rfl, hb2⟩; have T2 := U1.new hb2; have q2 := Q1.new hb2; have z0 := T2.c0; have z1 := T2.c1; have z2 := T2.c2; have f0 := T2.fz 0; have f1 := T2.fz 1; have f2 := T2.fz 2; have U2 := T2.put (.slice A P.length c) (.int .i64 ((a : Int) + 5)) (.int .i64 0); have Q2 := ((q2.other hne (j := 0) (x := .slice A P.length c)).other hne (j := 1) (x := .int .i64 ((a : Int) + 5))).other hne (j := 2) (x := .int .i64 0); have y0 := q2.c0; have y1 := q2.c1; have g0 := q2.fz 0; have g1 := q2.fz 1; have BB2 := Lib.hid ((below_then BB1.out hb2).trans ((put3_step w2 (w.heap.size + 1) (.slice A P.length c) (.int .i64 ((a : Int) + 5)) (.int .i64 0)).below (B := w.heap.size) (below_then BB1.out hb2).size hlo))))
                | (go_at_call 70; go_loud ((with_reducible refine (takeWideN A P c (a + 5) 0 8 ((a : Int) + 5) 0 8 HA5.out h0.out rfl _ (hp.new BB2.out) hl2 hle2 (by decide) _ _ _ E3.out _ ((a : Int) + 13) 0 rfl HA13.out h0.out).mono ?_); rintro e3 w3 ⟨rfl, hb3⟩; have T3 := U2.new hb3; have q3 := Q2.new hb3; have z0 := T3.c0; have z1 := T3.c1; have z2 := T3.c2; have f0 := T3.fz 0; have f1 := T3.fz 1; have f2 := T3.fz 2; have U3 := T3.put (.slice A P.length c) (.int .i64 ((a : Int) + 13)) (.int .i64 0); have Q3 := ((q3.other hne (j := 0) (x := .slice A P.length c)).other hne (j := 1) (x := .int .i64 ((a : Int) + 13))).other hne (j := 2) (x := .int .i64 0); have y0 := q3.c0; have y1 := q3.c1; have g0 := q3.fz 0; have g1 := q3.fz 1; have BB3 := Lib.hid ((below_then BB2.out hb3).trans ((put3_step w3 (w.heap.size + 1) (.slice A P.length c) (.int .i64 ((a : Int) + 13)) (.int .i64 0)).below (B := w.heap.size) (below_then BB2.out hb3).size hlo))))
                | (go_at_call 70; go_loud ((with_reducible refine (takeWideN A P c (a + 13) 0 4 ((a : Int) + 13) 0 4 HA13.out h0.out rfl _ (hp.new BB3.out) hl2 hle3 (by decide) _ _ _ E4.out _ ((a : Int) + 17) 0 rfl HA17.out h0.out).mono ?_); rintro e4 w4 ⟨rfl, hb4⟩; have T4 := U3.new hb4; have q4 := Q3.new hb4; have z0 := T4.c0; have z1 := T4.c1; have z2 := T4.c2; have f0 := T4.fz 0; have f1 := T4.fz 1; have f2 := T4.fz 2; have U4 := T4.put (.slice A P.length c) (.int .i64 ((a : Int) + 17)) (.int .i64 0); have Q4 := ((q4.other hne (j := 0) (x := .slice A P.length c)).other hne (j := 1) (x := .int .i64 ((a : Int) + 17))).other hne (j := 2) (x := .int .i64 0); have y0 := q4.c0; have y1 := q4.c1; have g0 := q4.fz 0; have g1 := q4.fz 1; have BB4 := Lib.hid ((below_then BB3.out hb4).trans ((put3_step w4 (w.heap.size + 1) (.slice A P.length c) (.int .i64 ((a : Int) + 17)) (.int .i64 0)).below (B := w.heap.size) (below_then BB3.out hb4).size hlo))))
                | (go_at_call 71; go_loud ((with_reducible refine (takeRawN A P c (a + 17) ((a : Int) + 17) HA17.out m _ (hp.new BB4.out) hl hle4 (by omega) _ _ _ E5.out m ((a : Int) + 17 + m) 0 HQN.out HA17m.out h0.out).mono ?_); rintro e5 w5 ⟨A5, c5, rfl, hn5⟩; have T5 := U4.new hn5.below; have q5 := Q4.new hn5.below; have z0 := T5.c0; have z1 := T5.c1; have z2 := T5.c2; have f0 := T5.fz 0; have f1 := T5.fz 1; have f2 := T5.fz 2; have U5 := T5.put (.slice A P.length c) (.int .i64 ((a : Int) + 17 + m)) (.int .i64 0); have Q5 := ((q5.other hne (j := 0) (x := .slice A P.length c)).other hne (j := 1) (x := .int .i64 ((a : Int) + 17 + m))).other hne (j := 2) (x := .int .i64 0); have y0 := q5.c0; have y1 := q5.c1; have g0 := q5.fz 0; have g1 := q5.fz 1; have BB5 := Lib.hid ((below_then BB4.out hn5.below).trans ((put3_step w5 (w.heap.size + 1) (.slice A P.length c) (.int .i64 ((a : Int) + 17 + m)) (.int .i64 0)).below (B := w.heap.size) (below_then BB4.out hn5.below).size hlo))))
                | (go_at_call 70; go_loud ((with_reducible refine (takeWideN A P c (a + 17 + m) 0 1 ((a : Int) + 17 + m) 0 1 HA17m.out h0.out rfl _ (hp.new BB5.out) hl2 hle5 (by decide) _ _ _ E6.out _ ((a : Int) + 17 + m + 1) 0 rfl HA18m.out h0.out).mono ?_); rintro e6 w6 ⟨rfl, hb6⟩; have T6 := U5.new hb6; have q6 := Q5.new hb6; have z0 := T6.c0; have z1 := T6.c1; have z2 := T6.c2; have f0 := T6.fz 0; have f1 := T6.fz 1; have f2 := T6.fz 2; have U6 := T6.put (.slice A P.length c) (.int .i64 ((a : Int) + 17 + m + 1)) (.int .i64 0); have Q6 := ((q6.other hne (j := 0) (x := .slice A P.length c)).other hne (j := 1) (x := .int .i64 ((a : Int) + 17 + m + 1))).other hne (j := 2) (x := .int .i64 0); have y0 := q6.c0; have y1 := q6.c1; have g0 := q6.fz 0; have g1 := q6.fz 1; have BB6 := Lib.hid ((below_then BB5.out hb6).trans ((put3_step w6 (w.heap.size + 1) (.slice A P.length c) (.int .i64 ((a : Int) + 17 + m + 1)) (.int .i64 0)).below (B := w.heap.size) (below_then BB5.out hb6).size hlo)))))
              have rp := Lib.hid ((((hn5.own.rb.step (put3_step w5 (w.heap.size + 1) (.slice A P.length c) (.int .i64 ((a : Int) + 17 + m)) (.int .i64 0)) (Free.of_new hn5.own.lo (fun k hk => by have h1 : k = w.heap.size + 1 := hk; have := U4.lt; omega))).new hb6).step (put3_step w6 (w.heap.size + 1) (.slice A P.length c) (.int .i64 ((a : Int) + 17 + m + 1)) (.int .i64 0)) (Free.of_new hn5.own.lo (fun k hk => by have h1 : k = w.heap.size + 1 := hk; have := U4.lt; omega))))
              have d1 := U6.c1
              have d2 := U6.c2
              go_region_held3 (fun w' => w'.cell? ⟨w.heap.size + 1, 1, none⟩ = some (.int .i64 ((a : Int) + 17 + m + 1)) ∧ w'.cell? ⟨w.heap.size + 1, 2, none⟩ = some (.int .i64 0)) (go_keep) (first
                | (go_at_call 64; go_loud (with_reducible refine (reflaid_calls place _ rfl hpl A5 pay m c5 _ (rp.out.new (below_drew _ _)) HQN.out hm65).mono ?_); rintro e7 w7 ⟨A7, c7, rfl, hn7⟩; have U7 := U6.new ((below_drew _ _).trans hn7.below); have Q7 := Q6.new ((below_drew _ _).trans hn7.below); have BB7 := Lib.hid (BB6.out.trans (((below_drew _ _).trans hn7.below).mono BB6.out.size)); have d1 := U7.c1; have d2 := U7.c2)
                | (go_at_call 22; go_loud (with_reducible refine (sameR A7 (cutA A a c) (laid place pay) cut (m + 18) (m + 18) c7 (c - a) _ hn7.own.rb (HCUT.out.new BB7.out) HLL.out HCL.out _ HEQ.out).mono ?_); rintro e8 w8 ⟨rfl, hd8⟩; have U8 := U7.new (hd8.below _); have Q8 := Q7.new (hd8.below _); have BB8 := Lib.hid (BB7.out.trans (hd8.below _)); have d1 := U8.c1; have d2 := U8.c2; have z1 := U8.c1; have y0 := Q8.c0; have y1 := Q8.c1; have g0 := Q8.fz 0; have g1 := Q8.fz 1))
              go_wp2
              exact bodyPost_ret (results_dn rfl _ _ w.heap.size _ _ rfl ((Q8.set0 (.int .u64 0)).set1 (.slice none 0 0))) rfl ⟨none, 0, rfl, OB.nil _ _ _, (BB8.out.setCell (Nat.le_refl _) _).setCell (Nat.le_refl _) _⟩
end Go.Proofs.Ytdpmalegpjimfaa
