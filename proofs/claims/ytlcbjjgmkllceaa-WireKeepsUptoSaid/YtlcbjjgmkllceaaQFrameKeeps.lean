import Derived.Test.YtlcbjjgmkllceaaQFrameScansKeep
import Derived.Test.YtlcbjjgmkllceaaQBe
/- The walk of notarylaw07.FrameKeeps. -/
namespace Go.Proofs.Ytlcbjjgmkllceaa
open Go.RowKit
attribute [local go_sem ↓] Go.wp_at_zero Go.wp_at_succ

theorem Mv.andF {R : World → World → Prop} {P Q : World → Prop} {w : World} (h : Mv R P w) (k : Mv R Q w) : Mv R (fun a => P a ∧ Q a) w := ⟨⟨h.h, k.h⟩, fun a b r p => ⟨h.m a b r p.1, k.m a b r p.2⟩⟩
/-- a list of the call's own in blocks from lo on, below hi -/
structure OwnF (w : World) (lo hi : Nat) (v : Value) (p : List UInt8) : Prop where
  ob : OB w lo 5 v p
  lt : ∀ k, v.ownBlock = some k → k < hi
theorem OwnF.of {w w' : World} {v : Value} {p : List UInt8} (h : NewB w w' v p) : OwnF w' w.heap.size w'.heap.size v p := ⟨h.own, fun k hk => (h.own.at_base k hk).2⟩
theorem wrOwnF {g lo hi : Nat} {v : Value} {p : List UInt8} (hg : g < lo) {w : World} (h : OwnF w lo hi v p) : Mv (Wr1 g) (fun a => OwnF a lo hi v p) w := ⟨h, fun a b hs h => ⟨(mvOB hg h.ob).m a b hs h.ob, h.lt⟩⟩
theorem OwnF.apt {w : World} {lo hi n c : Nat} {A : Option Addr} {p : List UInt8} (h : OwnF w lo hi (.slice A n c) p) (hl : n + 90 ≤ 140737488355328) : Apt w lo hi [⟨A, n, c⟩] := Apt.oneAt h.ob h.lt hl
theorem encF_len (place : Nat) (p : List UInt8) : (encF place p).1.length ≤ p.length + 18 := by
  unfold encF
  split
  · simp
  · split
    · simp
    · rw [FrameMath.laid_length]; exact Nat.le_refl _
theorem madeK (place : Nat) (hpl : place ≤ 18446744073709551615) (V : Int) (hV : V = place) (A : Option Addr) (p q : List UInt8) (e n c m : Nat) (hq : encF place p = (q, e)) (hm : m = q.length) (w : World) (hp : RB w A c p) (hn : n = p.length) (hl : p.length ≤ 140737488355328) :
    Calls Try.prog 8 #[.int .u64 V, .slice A n c] w fun r w' => ∃ A' c', r = .returned (.tuple #[.slice A' m c', .int .i64 e]) ∧ NewB w w' (.slice A' m c') q := by
  subst hV; subst hm
  have := made_calls place hpl A p n c w hp hn hl
  rw [hq] at this
  exact this
theorem docK (place : Nat) (hpl : place ≤ 18446744073709551615) (A : Option Addr) (p q : List UInt8) (e n c m : Nat) (hq : encF place p = (q, e)) (hm : m = q.length) (w : World) (hp : RB w A c p) (hn : n = p.length) (hl : p.length ≤ 140737488355328) :
    Calls Try.prog 7 #[.int .u64 place, .slice A n c] w fun r w' => ∃ A' c', r = .returned (.tuple #[.slice A' m c', .int .i64 e]) ∧ NewB w w' (.slice A' m c') q := by
  subst hm
  have := docEncode_calls place hpl A p n c w hp hn hl
  rw [hq] at this
  exact this
theorem spareK (A : Option Addr) (p : List UInt8) (N c : Nat) (w : World) (hp : RB w A c p) (hn : N = p.length) (hl : p.length ≤ 140737488355328) :
    Calls Try.prog 6 #[.slice A N c] w fun e w' => ∃ g, e = .returned (.tuple #[.slice (some ⟨g, 0, none⟩) N (N + 40), .slice (some ⟨g, 0, none⟩) (N + 40) (N + 40)]) ∧ g = w.heap.size ∧ OB w' g 5 (.slice (some ⟨g, 0, none⟩) (N + 40) (N + 40)) (p ++ marks 40) ∧ Below w.heap.size w w' := by
  subst hn
  exact (spare_calls A p c w hp hl).mono fun e w' ⟨h1, h2⟩ => ⟨_, h1, rfl, h2.own, h2.below⟩
theorem keptK (A B : Option Addr) (c d : Nat) (p : List UInt8) (N : Nat) (w : World) (hf : RB w A c (p ++ marks 40)) (hp : RB w B d p) (hn : N = p.length) (hl : N ≤ 140737488355328) :
    Calls Try.prog 10 #[.slice A (N + 40) c, .slice B N d] w fun e w' => e = .returned (.bool true) ∧ Drawn w w' := by
  subst hn
  exact kept_calls A B c d p w hf hp _ rfl hl
theorem overK (g N cap' : Nat) (p : List UInt8) (w : World) (ho : OB w g 5 (.slice (some ⟨g, 0, none⟩) (N + 40) (N + 40)) (p ++ marks 40)) (hN : N = p.length) :
    Calls Try.prog 11 #[.slice (some ⟨g, 0, none⟩) N cap'] w fun e w' => e = .returned (.tuple #[]) ∧ OB w' g 5 (.slice (some ⟨g, 0, none⟩) (N + 40) (N + 40)) (over p ++ marks 40) ∧ w.grownBy w' (some g) := by
  subst hN
  exact over_calls g g _ _ cap' p (marks 40) w ho
theorem rowF (w : World) (k : Nat) (hk : w.heap.size = k) (hs : List Hd) (t : TypeId) (lo hi : Nat) (hh : hi ≤ k) : ∀ (j : Nat) (y : Hd), hs[j]? = some y → ∃ b : Addr, some (⟨k, 0, none⟩ : Addr) = some b ∧ (w.alloc (.cells (hs.map Hd.val).toArray t)).cell? (b.add j) = some y.val ∧ (b.block < lo ∨ hi ≤ b.block) := fun j y hy => by
  subst hk
  refine ⟨_, rfl, ?_, .inr hh⟩
  have e := heap_alloc_new w (.cells (hs.map Hd.val).toArray t)
  have ea : (⟨w.heap.size, 0, none⟩ : Addr).add j = ⟨w.heap.size, j, none⟩ := by unfold Addr.add; split <;> simp_all
  rw [ea, cell_of_row _ _ _ _ _ _ e]
  simp [hy]
set_option maxHeartbeats 2000000 in
set_option maxRecDepth 100000 in
theorem frameKeeps_calls (pl : Nat) (hpl : pl ≤ 18446744073709551615) (A1 : Option Addr) (P : List UInt8) (N c1 : Nat) (A2 : Option Addr) (Q : List UInt8) (M c2 : Nat) (w : World) (hp : RB w A1 c1 P) (hN : N = P.length) (hN6 : N ≤ 1048576) (hq : RB w A2 c2 Q) (hM : M = Q.length) (hM6 : M ≤ 1048576) :
    Calls Try.prog 3 #[.int .u64 pl, .slice A1 N c1, .slice A2 M c2] w fun e w' => e = .returned (.bool true) ∧ Below w.heap.size w w' := by
  obtain ⟨q1, e1, h1⟩ : ∃ q e, encF pl P = (q, e) := ⟨_, _, rfl⟩
  obtain ⟨pl2, hpl2⟩ : ∃ x, x = (pl + 1) % 18446744073709551616 := ⟨_, rfl⟩
  have hw2 : IntKind.u64.wrap ((pl : Int) + 1) = (pl2 : Int) := by rw [IntKind.wrap_u64, hpl2]; omega
  have hp2 : pl2 ≤ 18446744073709551615 := by omega
  obtain ⟨q2, e2, h2⟩ : ∃ q e, encF pl2 Q = (q, e) := ⟨_, _, rfl⟩
  obtain ⟨q3, e3, h3⟩ : ∃ q e, encF pl (over P) = (q, e) := ⟨_, _, rfl⟩
  obtain ⟨n1, hn1⟩ : ∃ x, x = q1.length := ⟨_, rfl⟩
  obtain ⟨n2, hn2⟩ : ∃ x, x = q2.length := ⟨_, rfl⟩
  obtain ⟨n3, hn3⟩ : ∃ x, x = q3.length := ⟨_, rfl⟩
  have hb1 : n1 ≤ 1048594 := by have := encF_len pl P; rw [h1] at this; simp only at this; omega
  have hb2 : n2 ≤ 1048594 := by have := encF_len pl2 Q; rw [h2] at this; simp only at this; omega
  have hol : (over P).length = P.length := over_length P
  have hb3 : n3 ≤ 1048594 := by have := encF_len pl (over P); rw [h3] at this; simp only at this; omega
  have HO : Hid (N = (over P).length) := Lib.hid (by omega)
  have HPL : Hid (P.length ≤ 140737488355328) := Lib.hid (by omega)
  have HQL : Hid (Q.length ≤ 140737488355328) := Lib.hid (by omega)
  have HOL : Hid ((over P).length ≤ 140737488355328) := Lib.hid (by omega)
  have HN := Lib.hid hN
  have HM := Lib.hid hM
  have H1 := Lib.hid h1
  have H2 := Lib.hid h2
  have H3 := Lib.hid h3
  have HN1 := Lib.hid hn1
  have HN2 := Lib.hid hn2
  have HN3 := Lib.hid hn3
  have HP := Lib.hid hp
  have HQ := Lib.hid hq
  have HS1 := Lib.hid (beq_self_eq_true q1)
  have HS3 := Lib.hid (beq_self_eq_true q3)
  have he1 : ((e1 : Int) != e1) = false := bne_self_eq_false _
  have he3 : ((e3 : Int) != e3) = false := bne_self_eq_false _
  clear h1 h2 h3 hn1 hn2 hn3 hN hM hp hq hpl2 hol
  go_enter Try.func3, Try.ntmps3
  go_upto_region 16 with (first
    | (go_at_call 5; go_loud ((with_reducible refine (fawake_calls _).mono ?_); rintro x1 w1 ⟨rfl, hb1⟩; have HB1 := Lib.hid hb1; clear hb1))
    | (go_at_call 6; go_loud ((with_reducible refine (spareK A1 P N c1 w1 (HP.out.new HB1.out) HN.out HPL.out).mono ?_); rintro x2 w2 ⟨gF, rfl, hg2, ho2, hb2⟩; have HG := Lib.hid (show w.heap.size ≤ gF ∧ gF < w2.heap.size from ⟨by rw [hg2]; exact HB1.out.size, (ho2.at_base gF rfl).2⟩); have Y2 := Lib.hid (mvB HG.out.1 (below_then HB1.out hb2) HG.out.2); have F2 := Lib.hid ho2; clear hg2 ho2 hb2))
    | (go_at_call 7; go_loud ((with_reducible refine (docK pl hpl A1 P q1 e1 N c1 n1 H1.out HN1.out w2 (HP.out.new Y2.out.h.1) HN.out HPL.out).mono ?_); rintro x3 w3 ⟨A3, c3, rfl, hn3⟩; have hgp := Y2.out.h.2; have Y3 := Lib.hid ((Y2.out.step (Wr1.new hn3.below)).andF (wrOwnF hgp (OwnF.of hn3))); have F3 := Lib.hid (F2.out.new hn3.below); have Z3 := Lib.hid hn3.below.size; clear hgp hn3))
    | (go_at_call 8; go_loud ((with_reducible refine (madeK pl hpl _ rfl _ P q1 e1 N _ n1 H1.out HN1.out w3 F3.out.reads.pre HN.out HPL.out).mono ?_); rintro x4 w4 ⟨A4, c4, rfl, hn4⟩; have hgp := Y3.out.h.1.2; have Y4 := Lib.hid ((Y3.out.step (Wr1.new hn4.below)).andF (wrOwnF hgp (OwnF.of hn4))); have F4 := Lib.hid (F3.out.new hn4.below); have Z4 := Lib.hid hn4.below.size; clear hgp hn4))
    | (go_at_call 8; go_loud ((with_reducible refine (madeK pl hpl _ rfl _ P q1 e1 N _ n1 H1.out HN1.out w4 F4.out.reads.pre HN.out HPL.out).mono ?_); rintro x5 w5 ⟨A5, c5, rfl, hn5⟩; have hgp := Y4.out.h.1.1.2; have Y5 := Lib.hid ((Y4.out.step (Wr1.new hn5.below)).andF (wrOwnF hgp (OwnF.of hn5))); have F5 := Lib.hid (F4.out.new hn5.below); have Z5 := Lib.hid hn5.below.size; clear hgp hn5))
    | (go_at_call 8; go_loud ((with_reducible refine (madeK pl2 hp2 _ rfl A2 Q q2 e2 M c2 n2 H2.out HN2.out w5 (HQ.out.new Y5.out.h.1.1.1.1) HM.out HQL.out).mono ?_); rintro x6 w6 ⟨A6, c6, rfl, hn6⟩; have hgp := Y5.out.h.1.1.1.2; have Y6 := Lib.hid ((Y5.out.step (Wr1.new hn6.below)).andF (wrOwnF hgp (OwnF.of hn6))); have F6 := Lib.hid (F5.out.new hn6.below); have Z6 := Lib.hid hn6.below.size; clear hgp hn6))
    | (go_at_call 8; go_loud ((with_reducible refine (madeK pl hpl _ rfl _ P q1 e1 N _ n1 H1.out HN1.out w6 F6.out.reads.pre HN.out HPL.out).mono ?_); rintro x7 w7 ⟨A7, c7, rfl, hn7⟩; have hgp := Y6.out.h.1.1.1.1.2; have Y7 := Lib.hid ((Y6.out.step (Wr1.new hn7.below)).andF (wrOwnF hgp (OwnF.of hn7))); have F7 := Lib.hid (F6.out.new hn7.below); have Z7 := Lib.hid hn7.below.size; have S7 := Lib.hid (mvS (g := gF) (Nat.le_refl w7.heap.size)); clear hgp hn7; clear Y2 Y3 Y4 Y5 Y6 F2 F3 F4 F5 F6))
    | (go_at_call 9; go_loud ((with_reducible refine (sameR A4 A3 q1 q1 _ _ c4 c3 w7 Y7.out.h.1.1.1.2.ob.rb Y7.out.h.1.1.1.1.2.ob.rb HN1.out HN1.out true HS1.out).mono ?_); rintro x8 w8 ⟨rfl, hd8⟩; have Y8 := Lib.hid (Y7.out.step (Wr1.new (hd8.below _))); have S8 := Lib.hid (S7.out.step (Wr1.new (hd8.below _))); have F8 := Lib.hid (F7.out.new (hd8.below _)); clear hd8 Y7 F7))
    | (go_at_call 9; go_loud ((with_reducible refine (sameR A5 A3 q1 q1 _ _ c5 c3 w8 Y8.out.h.1.1.2.ob.rb Y8.out.h.1.1.1.1.2.ob.rb HN1.out HN1.out true HS1.out).mono ?_); rintro x9 w9 ⟨rfl, hd9⟩; have Y9 := Lib.hid (Y8.out.step (Wr1.new (hd9.below _))); have S9 := Lib.hid (S8.out.step (Wr1.new (hd9.below _))); have F9 := Lib.hid (F8.out.new (hd9.below _)); clear hd9 Y8 F8))
    | (go_at_call 9; go_loud ((with_reducible refine (sameR A7 A3 q1 q1 _ _ c7 c3 w9 Y9.out.h.2.ob.rb Y9.out.h.1.1.1.1.2.ob.rb HN1.out HN1.out true HS1.out).mono ?_); rintro x10 w10 ⟨rfl, hd10⟩; have Y10 := Lib.hid (Y9.out.step (Wr1.new (hd10.below _))); have S10 := Lib.hid (S9.out.step (Wr1.new (hd10.below _))); have F10 := Lib.hid (F9.out.new (hd10.below _)); clear hd10 Y9 F9))
    | (go_at_call 10; go_loud ((with_reducible refine (keptK (some ⟨gF, 0, none⟩) A1 _ c1 P N w10 F10.out.reads (HP.out.new Y10.out.h.1.1.1.1.1.1) HN.out (by omega)).mono ?_); rintro x11 w11 ⟨rfl, hd11⟩; have Y11 := Lib.hid (Y10.out.step (Wr1.new (hd11.below _))); have S11 := Lib.hid (S10.out.step (Wr1.new (hd11.below _))); have F11 := Lib.hid (F10.out.new (hd11.below _)); clear hd11 Y10 F10))
    | (go_at_call 11; go_loud ((with_reducible refine (overK gF N _ P w11 F11.out HN.out).mono ?_); rintro x12 w12 ⟨rfl, ho12, hg12⟩; have Y12 := Lib.hid (Y11.out.step (Wr1.row hg12)); have Z7S := Lib.hid ((S11.out.step (Wr1.row hg12)).h); have F12 := Lib.hid ho12; clear ho12 hg12 Y11 F11))
    | (go_at_call 12; go_loud ((with_reducible refine (twinR (some ⟨gF, 0, none⟩) (over P) N _ w12 F12.out.reads.pre HO.out HOL.out).mono ?_); rintro x13 w13 ⟨A13, c13, rfl, hn13⟩; have Y13 := Lib.hid ((Y12.out.step (Wr1.new hn13.below)).andF (mvS (Nat.le_refl w13.heap.size))); have F13 := Lib.hid (F12.out.new hn13.below); have P13 := Lib.hid hn13.own.rb; have Z13 : Hid (w7.heap.size ≤ w13.heap.size) := Lib.hid (Nat.le_trans Z7S.out hn13.below.size) ; clear hn13 Y12 F12))
    | (go_at_call 7; go_loud ((with_reducible refine (docK pl hpl A13 (over P) q3 e3 N c13 n3 H3.out HN3.out w13 P13.out HO.out HOL.out).mono ?_); rintro x14 w14 ⟨A14, c14, rfl, hn14⟩; have hgp := Y13.out.h.1.1.1.1.1.1.2; have Y14 := Lib.hid ((Y13.out.step (Wr1.new hn14.below)).andF (wrOwnF hgp (OwnF.of hn14))); have F14 := Lib.hid (F13.out.new hn14.below); have Z14 := Lib.hid hn14.below.size; clear hgp hn14 Y13 F13 P13))
    | (go_at_call 8; go_loud ((with_reducible refine (madeK pl hpl _ rfl _ (over P) q3 e3 N _ n3 H3.out HN3.out w14 F14.out.reads.pre HO.out HOL.out).mono ?_); rintro x15 w15 ⟨A15, c15, rfl, hn15⟩; have hgp := Y14.out.h.1.1.1.1.1.1.1.2; have Y15 := Lib.hid (((Y14.out.step (Wr1.new hn15.below)).andF (wrOwnF hgp (OwnF.of hn15))).andF (mvS (Nat.le_refl w15.heap.size))); have F15 := Lib.hid (F14.out.new hn15.below); have Z15 := Lib.hid hn15.below.size; clear hgp hn15 Y14 F14))
    | (go_at_call 9; go_loud ((with_reducible refine (sameR A15 A14 q3 q3 _ _ c15 c14 w15 Y15.out.h.1.2.ob.rb Y15.out.h.1.1.2.ob.rb HN3.out HN3.out true HS3.out).mono ?_); rintro x16 w16 ⟨rfl, hd16⟩; have Y16 := Lib.hid (Y15.out.step (Wr1.new (hd16.below _))); have F16 := Lib.hid (F15.out.new (hd16.below _)); clear hd16 Y15 F15))
    | (go_at_call 9; go_loud ((with_reducible refine (sameR A4 A3 q1 q1 _ _ c4 c3 w16 Y16.out.h.1.1.1.1.1.1.1.2.ob.rb Y16.out.h.1.1.1.1.1.1.1.1.2.ob.rb HN1.out HN1.out true HS1.out).mono ?_); rintro x17 w17 ⟨rfl, hd17⟩; have Y17 := Lib.hid (Y16.out.step (Wr1.new (hd17.below _))); have F17 := Lib.hid (F16.out.new (hd17.below _)); clear hd17 Y16 F16))
    | (go_at_call 9; go_loud ((with_reducible refine (sameR A5 A3 q1 q1 _ _ c5 c3 w17 Y17.out.h.1.1.1.1.1.1.2.ob.rb Y17.out.h.1.1.1.1.1.1.1.1.2.ob.rb HN1.out HN1.out true HS1.out).mono ?_); rintro x18 w18 ⟨rfl, hd18⟩; have Y18 := Lib.hid (Y17.out.step (Wr1.new (hd18.below _))); have F18 := Lib.hid (F17.out.new (hd18.below _)); clear hd18 Y17 F17)))
  have hgv : OB w18 gF 5 (.slice (some ⟨gF, 0, none⟩) N (N + 40)) (over P) := by
    have h0 := F18.out
    have e0 : N + 40 = (over P ++ marks 40).length := by rw [List.length_append, ← HO.out, marks_length]
    rw [show (Value.slice (some ⟨gF, 0, none⟩) (N + 40) (N + 40)) = .slice (some ⟨gF, 0, none⟩) (over P ++ marks 40).length (N + 40) by rw [← e0]] at h0
    exact OB.pre h0 HO.out
  have HAPT : Hid (Apt w18 gF w18.heap.size [⟨A4, n1, c4⟩, ⟨A5, n1, c5⟩, ⟨A6, n2, c6⟩, ⟨A7, n1, c7⟩, ⟨A15, n3, c15⟩, ⟨some ⟨gF, 0, none⟩, N, N + 40⟩]) := Lib.hid (by
    have z2 := HG.out.2
    have z3 := Z3.out
    have z4 := Z4.out
    have z5 := Z5.out
    have z6 := Z6.out
    have z7 := Z7.out
    have z13 := Z13.out
    have z14 := Z14.out
    have z15 := Z15.out
    have z16 := Y18.out.h.2
    have a1 := (Y18.out.h.1.1.1.1.1.1.1.2).apt (by omega)
    have a2 := (Y18.out.h.1.1.1.1.1.1.2).apt (by omega)
    have a3 := (Y18.out.h.1.1.1.1.1.2).apt (by omega)
    have a4 := (Y18.out.h.1.1.1.1.2).apt (by omega)
    have a5 := (Y18.out.h.1.2).apt (by omega)
    have a6 := Apt.oneAt (hi := gF + 1) hgv (fun k hk => by obtain rfl := Option.some.inj hk; exact Nat.lt_succ_self _) (by omega)
    have b1 := a1.append a2 (lo := w3.heap.size) (hi := w5.heap.size) (.inl (by omega)) (by omega) (by omega) (by omega) (by omega)
    have b2 := b1.append a3 (lo := w3.heap.size) (hi := w6.heap.size) (.inl (by omega)) (by omega) (by omega) (by omega) (by omega)
    have b3 := b2.append a4 (lo := w3.heap.size) (hi := w7.heap.size) (.inl (by omega)) (by omega) (by omega) (by omega) (by omega)
    have b4 := b3.append a5 (lo := w3.heap.size) (hi := w18.heap.size) (.inl (by omega)) (by omega) (by omega) (by omega) (by omega)
    exact b4.append a6 (lo := gF) (hi := w18.heap.size) (.inr (by omega)) (by omega) (by omega) (by omega) (by omega))
  have hg8 : gF ≤ w18.heap.size := by have := Y18.out.h.1.1.1.1.1.1.1.1.1.2; omega
  have HBW := Lib.hid (Y18.out.h.1.1.1.1.1.1.1.1.1.1)
  clear hgv
  have HROW : Hid (∀ (j : Nat) (y : Hd), ([⟨A4, n1, c4⟩, ⟨A5, n1, c5⟩, ⟨A6, n2, c6⟩, ⟨A7, n1, c7⟩, ⟨A15, n3, c15⟩, ⟨some ⟨gF, 0, none⟩, N, N + 40⟩] : List Hd)[j]? = some y → ∃ b : Addr, some (⟨w18.heap.size, 0, none⟩ : Addr) = some b ∧ (w18.alloc (.cells #[.slice A4 n1 c4, .slice A5 n1 c5, .slice A6 n2 c6, .slice A7 n1 c7, .slice A15 n3 c15, .slice (some ⟨gF, 0, none⟩) N (N + 40)] 23)).cell? (b.add j) = some y.val ∧ (b.block < gF ∨ w18.heap.size ≤ b.block)) := Lib.hid (rowF w18 _ rfl [⟨A4, n1, c4⟩, ⟨A5, n1, c5⟩, ⟨A6, n2, c6⟩, ⟨A7, n1, c7⟩, ⟨A15, n3, c15⟩, ⟨some ⟨gF, 0, none⟩, N, N + 40⟩] 23 gF w18.heap.size (Nat.le_refl _))
  go_wp2_with (first
    | (go_at_call 13; go_loud ((with_reducible refine (apartN gF w18.heap.size _ [⟨A4, n1, c4⟩, ⟨A5, n1, c5⟩, ⟨A6, n2, c6⟩, ⟨A7, n1, c7⟩, ⟨A15, n3, c15⟩, ⟨some ⟨gF, 0, none⟩, N, N + 40⟩] 6 6 _ (HAPT.out.new (below_alloc1 (Below.refl _ _) (Nat.le_refl _) _) (Nat.le_refl _)) (by rw [asz]; exact Nat.le_succ _) (by rw [asz]; omega) rfl HROW.out (by simp only [List.length_cons, List.length_nil]; omega)).mono ?_); rintro x20 w20 ⟨rfl, hb20⟩; have HB20 : Hid (Below w.heap.size w w20) := Lib.hid ((belowA HBW.out _).trans (below_lower hb20 HG.out.1)); clear hb20))
    | (go_at_call 14; go_loud ((with_reducible refine (scans_calls A2 Q M c2 _ (HQ.out.new HB20.out) HM.out (by rw [← HM.out]; exact hM6)).mono ?_); rintro x21 w21 ⟨rfl, hb21⟩; have HB21 := Lib.hid (below_then HB20.out hb21))))
  go_ret
  exact ⟨rfl, HB21.out⟩
theorem frameKeeps_all (V : Int) (hV : 0 ≤ V ∧ V ≤ 18446744073709551615) (A1 : Option Addr) (P : List UInt8) (N c1 : Nat) (A2 : Option Addr) (Q : List UInt8) (M c2 : Nat) (w : World) (hp : RB w A1 c1 P) (hN : N = P.length) (hN6 : N ≤ 1048576) (hq : RB w A2 c2 Q) (hM : M = Q.length) (hM6 : M ≤ 1048576) :
    Calls Try.prog 3 #[.int .u64 V, .slice A1 N c1, .slice A2 M c2] w fun e w' => e = .returned (.bool true) ∧ Below w.heap.size w w' := by
  obtain ⟨pl, rfl⟩ := Int.eq_ofNat_of_zero_le hV.1
  exact frameKeeps_calls pl (by omega) A1 P N c1 A2 Q M c2 w hp hN hN6 hq hM hM6
end Go.Proofs.Ytlcbjjgmkllceaa
