/- The walks of the reader's Uvar, Raw and Blob. -/
import Derived.Test.YtelecdncdaepnaaReadWalk
namespace Go.Proofs.Ytelecdncdaepnaa
open Go.RowKit
open WireMath (beN numS grpL grpTo uvarS rawS blobS)

set_option maxRecDepth 100000 in
theorem ruvar_calls (base : Nat → Prop) (b : Nat) (P : List UInt8) (at_ e : Nat) (w : World) (hr : Rd w base b P at_ e) (hl : P.length ≤ 9223372036854775807) :
    Calls Try.prog 59 #[.pointer (some ⟨b, 0, none⟩)] w fun e' w' => e' = .returned (.int .u64 (uvarS P at_ e).1) ∧ Rd w' base b P (uvarS P at_ e).2.1 (uvarS P at_ e).2.2 ∧ w.grownBy w' (some b) := by
  have hfa := hr.fault
  by_cases he : e = 0
  · subst he
    have hg := grpLe P at_ hr.le
    have hz := WireMath.grpTo_zero (P.drop at_) 0 0
    have hU : uvarS P at_ 0 = ((grpL (P.drop at_)).1, at_ + (grpL (P.drop at_)).2, if (grpL (P.drop at_)).2 = 0 then 3 else 0) := by unfold WireMath.uvarS; rw [if_neg (by simp)]
    have hcall := fun w' (h : Rd w' base b P at_ 0) => group_calls base b P at_ 0 w' h hl
    replace hz : (grpL (P.drop at_)).2 = 0 → (grpL (P.drop at_)).1 = 0 := hz
    generalize grpL (P.drop at_) = g at *
    have HC := Lib.hid hcall
    have HU := Lib.hid hU
    clear hcall hU
    have h3 := Lib.hid (show (3 : Int) = ((3 : Nat) : Int) from rfl)
    by_cases hn : g.2 = 0
    · have hnb : ((g.2 : Int) == 0) = true := by rw [hn]; rfl
      have HN := Lib.hid hn
      have HZ := Lib.hid (hz hn)
      clear hn hz
      go_enter Try.func59, Try.ntmps59
      go_wp2_with (first | (go_at_call 93; (with_reducible refine (HC.out _ hr).mono ?_); rintro e2 w2 ⟨rfl, hd⟩) | (go_at_call 94; (with_reducible refine (fail_calls base b P at_ 0 3 _ _ (hr.new (hd.below _)) h3.out).mono ?_); rintro e2 w3 ⟨rfl, hr3, hg3⟩; have hp3 := hr3.place; have hf3 := hr3.fz 1))
      go_ret
      have hs := hr3.setPlace (at_ + g.2) hg
      rw [HU.out, HN.out]
      rw [HN.out] at hs
      exact ⟨rfl, hs, grown_trans (grown_trans (grown_drawn hd _) hg3) (setCell_grown _ _ _ _)⟩
    · have hnb : ((g.2 : Int) == 0) = false := by rw [beq_eq_false_iff_ne]; omega
      have hp := hr.place
      have hf := hr.fz 1
      have HN := Lib.hid hn
      clear hn hz
      go_enter Try.func59, Try.ntmps59
      go_wp2_with (go_at_call 93; (with_reducible refine (HC.out _ hr).mono ?_); rintro e2 w2 ⟨rfl, hd⟩; have hr2 := hr.new (hd.below _); have hp2 := hr2.place; have hf2 := hr2.fz 1)
      go_ret
      have hs := hr2.setPlace (at_ + g.2) hg
      rw [HU.out, if_neg HN.out]
      exact ⟨rfl, hs, grown_trans (grown_drawn hd _) (setCell_grown _ _ _ _)⟩
  · have hb : ((e : Int) != 0) = true := by rw [bne_iff_ne]; omega
    have hU : uvarS P at_ e = (0, at_, e) := by unfold WireMath.uvarS; rw [if_pos he]
    have HU := Lib.hid hU
    clear hU he
    go_enter Try.func59, Try.ntmps59
    go_wp2
    go_ret
    rw [HU.out]
    exact ⟨rfl, hr, grown_refl _ _⟩

/-- what a reader's call for bytes leaves -/
structure Got (w w' : World) (base : Nat → Prop) (b : Nat) (P : List UInt8) (v : Value) (r : List UInt8 × Nat × Nat) : Prop where
  own : OB w' w.heap.size 5 v r.1
  rd : Rd w' base b P r.2.1 r.2.2
  grown : w.grownBy w' (some b)

set_option maxRecDepth 100000 in
theorem rraw_calls (base : Nat → Prop) (b : Nat) (P : List UInt8) (at_ e : Nat) (n : Int) (w : World) (hr : Rd w base b P at_ e) (hl : P.length ≤ 140737488355328) (hn : n ≤ 9223372036854775807) :
    Calls Try.prog 84 #[.pointer (some ⟨b, 0, none⟩), .int .i64 n] w fun e' w' => ∃ A' c', e' = .returned (.slice A' (rawS P at_ e n).1.length c') ∧ Got w w' base b P (.slice A' (rawS P at_ e n).1.length c') (rawS P at_ e n) := by
  have hfa := hr.fault
  have h1 := Lib.hid (show (1 : Int) = ((1 : Nat) : Int) from rfl)
  by_cases he : e = 0
  · subst he
    by_cases hneg : n < 0
    · have hU : rawS P at_ 0 n = ([], at_, 1) := by unfold WireMath.rawS; rw [if_neg (by simp), if_pos hneg]
      rw [hU]
      clear hU
      go_enter Try.func84, Try.ntmps84
      go_wp2_with (go_at_call 94; (with_reducible refine (fail_calls base b P at_ 0 1 _ _ hr h1.out).mono ?_); rintro e2 w3 ⟨rfl, hr3, hg3⟩)
      go_ret
      exact ⟨none, 0, rfl, OB.nil _ _ _, hr3, hg3⟩
    · obtain ⟨m, rfl⟩ := Int.eq_ofNat_of_zero_le (by omega : 0 ≤ n)
      by_cases hs : P.length - at_ < m
      · have hU : rawS P at_ 0 m = ([], at_, 3) := by unfold WireMath.rawS; rw [if_neg (by simp), if_neg hneg, if_pos (by omega)]
        rw [hU]
        have HS := Lib.hid hs
        clear hU hs hneg
        go_enter Try.func84, Try.ntmps84
        go_wp2_with (first | (go_at_call 104; (with_reducible refine (take_short base b P at_ m _ rfl _ hr HS.out (by omega)).mono ?_); rintro e2 w2 ⟨rfl, hr2, hg2⟩) | (go_at_call 91; (with_reducible refine (clone_calls none [] 0 0 _ (RB.void _) (by simp) (by simp)).mono ?_); rintro e w3 ⟨A', c', rfl, hn3⟩))
        go_ret
        exact ⟨_, _, rfl, hn3.own.mono hg2.size, hr2.new hn3.below, grown_new hg2 hn3.below⟩
      · have hok : at_ + m ≤ P.length := by have := hr.le; omega
        have hU : rawS P at_ 0 m = ((P.drop at_).take m, at_ + m, 0) := by unfold WireMath.rawS; rw [if_neg (by simp), if_neg hneg, if_neg (by omega)]; simp
        rw [hU]
        have hql : ((P.drop at_).take m).length = m := by simp; omega
        have htk := fun w' (h : Rd w' base b P at_ 0) => take_ok base b P at_ m _ rfl w' h hok (by omega)
        generalize hq : (P.drop at_).take m = q at *
        have HT := Lib.hid htk
        have HQL := Lib.hid hql
        have HOK := Lib.hid hok
        clear hU hs hneg hql htk hok hq
        go_enter Try.func84, Try.ntmps84
        go_wp2_with (first | (go_at_call 104; (with_reducible refine (HT.out _ hr).mono ?_); rintro e2 w2 ⟨A2, c2, rfl, hb2, hr2, hg2⟩) | (go_at_call 91; (with_reducible refine (clone_calls A2 q c2 _ _ hb2 HQL.out.symm (by have := HQL.out; have := HOK.out; omega)).mono ?_); rintro e w3 ⟨A', c', rfl, hn3⟩))
        go_ret
        refine ⟨A', c', (by rw [HQL.out]; rfl), ?_⟩
        have ho := hn3.own
        rw [← HQL.out] at ho
        exact ⟨ho.mono hg2.size, hr2.new hn3.below, grown_new hg2 hn3.below⟩
  · have hb : ((e : Int) != 0) = true := by rw [bne_iff_ne]; omega
    have hU : rawS P at_ e n = ([], at_, e) := by unfold WireMath.rawS; rw [if_pos he]
    rw [hU]
    clear hU he
    go_enter Try.func84, Try.ntmps84
    go_wp2
    go_ret
    exact ⟨none, 0, rfl, OB.nil _ _ _, hr, grown_refl _ _⟩

/-- `n` as an uint64: what a non-negative int is -/
theorem u64_nat (n : Nat) (h : n ≤ 9223372036854775807) : IntKind.u64.wrap ((n : Nat) : Int) = n := IntWalk.u64_in _ (by omega)

set_option maxRecDepth 100000 in
theorem rblob_calls (base : Nat → Prop) (b : Nat) (P : List UInt8) (at_ e : Nat) (n : Int) (w : World) (hr : Rd w base b P at_ e) (hl : P.length ≤ 140737488355328) (hn : n ≤ 9223372036854775807) :
    Calls Try.prog 96 #[.pointer (some ⟨b, 0, none⟩), .int .i64 n] w fun e' w' => ∃ A' c', e' = .returned (.slice A' (blobS P at_ e n).1.length c') ∧ Got w w' base b P (.slice A' (blobS P at_ e n).1.length c') (blobS P at_ e n) := by
  have hfa := hr.fault
  have h1 := Lib.hid (show (1 : Int) = ((1 : Nat) : Int) from rfl)
  have h2 := Lib.hid (show (2 : Int) = ((2 : Nat) : Int) from rfl)
  have h3 := Lib.hid (show (3 : Int) = ((3 : Nat) : Int) from rfl)
  by_cases he : e = 0
  · subst he
    by_cases hneg : n < 0
    · have hU : blobS P at_ 0 n = ([], at_, 1) := by unfold WireMath.blobS; rw [if_neg (by simp), if_pos hneg]
      rw [hU]
      clear hU
      go_enter Try.func96, Try.ntmps96
      go_wp2_with (go_at_call 94; (with_reducible refine (fail_calls base b P at_ 0 1 _ _ hr h1.out).mono ?_); rintro e2 w3 ⟨rfl, hr3, hg3⟩)
      go_ret
      exact ⟨none, 0, rfl, OB.nil _ _ _, hr3, hg3⟩
    · obtain ⟨m, rfl⟩ := Int.eq_ofNat_of_zero_le (by omega : 0 ≤ n)
      have hg := grpLe P at_ hr.le
      have hgl := WireMath.grpL_lt (P.drop at_)
      have hU : blobS P at_ 0 m = if (grpL (P.drop at_)).2 = 0 then ([], at_, 3) else if (m : Int) < (grpL (P.drop at_)).1 then ([], at_, 2) else
        if P.length - at_ - (grpL (P.drop at_)).2 < (grpL (P.drop at_)).1 then ([], at_, 3) else
        ((P.drop (at_ + (grpL (P.drop at_)).2)).take (grpL (P.drop at_)).1, at_ + (grpL (P.drop at_)).2 + (grpL (P.drop at_)).1, 0) := by
        unfold WireMath.blobS; rw [if_neg (by simp), if_neg hneg]
      have hcall := fun w' (h : Rd w' base b P at_ 0) => group_calls base b P at_ 0 w' h (by omega)
      generalize grpL (P.drop at_) = g at *
      have HC := Lib.hid hcall
      clear hcall
      have hwm : IntKind.u64.wrap (m : Int) = m := u64_nat m (by omega)
      by_cases hn : g.2 = 0
      · rw [hU, if_pos hn]
        have hnb : ((g.2 : Int) == 0) = true := by rw [hn]; rfl
        clear hU hn hneg
        go_enter Try.func96, Try.ntmps96
        go_wp2_with (first | (go_at_call 93; (with_reducible refine (HC.out _ hr).mono ?_); rintro e2 w2 ⟨rfl, hd⟩) | (go_at_call 94; (with_reducible refine (fail_calls base b P at_ 0 3 _ _ (hr.new (hd.below _)) h3.out).mono ?_); rintro e2 w3 ⟨rfl, hr3, hg3⟩))
        go_ret
        exact ⟨none, 0, rfl, OB.nil _ _ _, hr3, grown_trans (grown_drawn hd _) hg3⟩
      · have hnb : ((g.2 : Int) == 0) = false := by rw [beq_eq_false_iff_ne]; omega
        rw [if_neg hn] at hU
        by_cases hlong : m < g.1
        · rw [hU, if_pos (by omega)]
          have hlb : decide ((m : Int) < g.1) = true := by rw [decide_eq_true_iff]; omega
          clear hU hn hneg
          go_enter Try.func96, Try.ntmps96
          go_wp2_with (first | (go_at_call 93; (with_reducible refine (HC.out _ hr).mono ?_); rintro e2 w2 ⟨rfl, hd⟩) | (go_at_call 94; (with_reducible refine (fail_calls base b P at_ 0 2 _ _ (hr.new (hd.below _)) h2.out).mono ?_); rintro e2 w3 ⟨rfl, hr3, hg3⟩))
          go_ret
          exact ⟨none, 0, rfl, OB.nil _ _ _, hr3, grown_trans (grown_drawn hd _) hg3⟩
        · rw [if_neg (by omega)] at hU
          have hlb : decide ((m : Int) < g.1) = false := by rw [decide_eq_false_iff_not]; omega
          have hw1 : IntKind.i64.wrap ((P.length : Int) - at_) = (P.length : Int) - at_ := IntWalk.i64_in _ (by omega)
          have hw2 : IntKind.i64.wrap ((P.length : Int) - at_ - g.2) = (P.length : Int) - at_ - g.2 := IntWalk.i64_in _ (by omega)
          have hw3 : IntKind.u64.wrap ((P.length : Int) - at_ - g.2) = (P.length : Int) - at_ - g.2 := IntWalk.u64_in _ (by omega)
          by_cases hs : P.length - at_ - g.2 < g.1
          · rw [hU, if_pos hs]
            have hsb : decide ((P.length : Int) - at_ - g.2 < g.1) = true := by rw [decide_eq_true_iff]; omega
            clear hU hn hneg
            go_enter Try.func96, Try.ntmps96
            go_wp2_with (first | (go_at_call 93; (with_reducible refine (HC.out _ hr).mono ?_); rintro e2 w2 ⟨rfl, hd⟩; have hr2 := hr.new (hd.below _); have hp2 := hr2.place; have hf2 := hr2.fz 1; obtain ⟨A, c, c1, c2, c3⟩ := hr2.s) | (go_at_call 94; (with_reducible refine (fail_calls base b P at_ 0 3 _ _ (hr.new (hd.below _)) h3.out).mono ?_); rintro e2 w3 ⟨rfl, hr3, hg3⟩))
            go_quiet (fail)
            rename Nat => nq0
            clear hw1 hw2 hw3 hsb hlb
            have hd2 : Below w2.heap.size w2 (w2.drewN nq0) := Drawn.below ⟨nq0, rfl⟩ _
            go_wp2_with (go_at_call 94; (with_reducible refine (fail_calls base b P at_ 0 3 _ _ (hr2.new hd2) h3.out).mono ?_); rintro e2 w3 ⟨rfl, hr3, hg3⟩)
            go_ret
            exact ⟨none, 0, rfl, OB.nil _ _ _, hr3, grown_trans (grown_trans (grown_drawn hd _) (grown_of_below hd2 _)) hg3⟩
          · rw [hU, if_neg hs]
            have hsb : decide ((P.length : Int) - at_ - g.2 < g.1) = false := by rw [decide_eq_false_iff_not]; omega
            have hwv : IntKind.i64.wrap (g.1 : Int) = g.1 := IntWalk.i64_in _ (by omega)
            have hok : at_ + g.2 + g.1 ≤ P.length := by omega
            have hql : ((P.drop (at_ + g.2)).take g.1).length = g.1 := by simp; omega
            have htk := fun w' (h : Rd w' base b P (at_ + g.2) 0) => take_ok base b P (at_ + g.2) g.1 _ rfl w' h hok (by omega)
            generalize hq : (P.drop (at_ + g.2)).take g.1 = q at *
            have HT := Lib.hid htk
            have HQL := Lib.hid hql
            have HOK := Lib.hid hok
            have HG := Lib.hid hg
            clear hU hn hneg hql htk hok hq
            go_enter Try.func96, Try.ntmps96
            go_wp2_with (go_at_call 93; (with_reducible refine (HC.out _ hr).mono ?_); rintro e2 w2 ⟨rfl, hd⟩; have hr2 := hr.new (hd.below _); have hp2 := hr2.place; have hf2 := hr2.fz 1; obtain ⟨A, c, c1, c2, c3⟩ := hr2.s)
            go_quiet (fail)
            rename Nat => nq0
            clear hw1 hw2 hw3 hsb hlb
            have hd2 : Below w2.heap.size w2 (w2.drewN nq0) := Drawn.below ⟨nq0, rfl⟩ _
            have HR3 : Hid (Rd ((w2.drewN nq0).setCell ⟨b, 1, none⟩ (.int .i64 ((at_ : Int) + g.2))) base b P (at_ + g.2) 0) := Lib.hid ((hr2.new hd2).setPlace (at_ + g.2) HG.out)
            go_wp2_with (first | (go_at_call 104; (with_reducible refine (HT.out _ HR3.out).mono ?_); rintro e2 w4 ⟨A2, c4, rfl, hb2, hr4, hg4⟩) | (go_at_call 91; (with_reducible refine (clone_calls A2 q c4 _ _ hb2 HQL.out.symm (by have := HQL.out; have := HOK.out; omega)).mono ?_); rintro e w3 ⟨A', c', rfl, hn3⟩))
            go_ret
            refine ⟨A', c', (by rw [HQL.out]; rfl), ?_⟩
            have ho := hn3.own
            rw [← HQL.out] at ho
            have hG := grown_trans (grown_trans (grown_trans (grown_drawn hd (some b)) (grown_of_below hd2 _)) (setCell_grown _ b 1 _)) hg4
            exact ⟨ho.mono hG.size, hr4.new hn3.below, grown_new hG hn3.below⟩
  · have hb : ((e : Int) != 0) = true := by rw [bne_iff_ne]; omega
    have hU : blobS P at_ e n = ([], at_, e) := by unfold WireMath.blobS; rw [if_pos he]
    rw [hU]
    clear hU he
    go_enter Try.func96, Try.ntmps96
    go_wp2
    go_ret
    exact ⟨none, 0, rfl, OB.nil _ _ _, hr, grown_refl _ _⟩
end Go.Proofs.Ytelecdncdaepnaa
