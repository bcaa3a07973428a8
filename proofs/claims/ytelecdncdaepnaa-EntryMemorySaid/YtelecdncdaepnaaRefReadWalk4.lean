/- The reference's reader of layer 1: TakeBlob, Done; its writer: Uvar, Blob. -/
import Derived.Test.YtelecdncdaepnaaRefReadWalk3
import Derived.Test.YtelecdncdaepnaaRefWireWalk
import Derived.Test.YtelecdncdaepnaaFoot
namespace Go.Proofs.Ytelecdncdaepnaa
open Go.RowKit
open WireMath (numS beN rawS blobS uvarS grpL grpTo uvarL uvarF grp lst)

theorem takeUvarN (A : Option Addr) (P : List UInt8) (c at_ : Nat) (T : Int) (hT : T = at_) (w : World) (hp : RB w A c P) (hl : P.length ≤ 140737488355328) (hat : at_ ≤ P.length) (v a2 e2 : Nat) (hU : uvarS P at_ 0 = (v, a2, e2)) (V A2 E2 : Int) (hV : V = v) (hA : A2 = a2) (hE : E2 = e2) :
    Calls Try.prog 68 #[.agg #[.slice A P.length c, .int .i64 T, .int .i64 0]] w fun e' w' => e' = .returned (.tuple #[.int .u64 V, .agg #[.slice A P.length c, .int .i64 A2, .int .i64 E2]]) ∧ Below w.heap.size w w' := by
  subst hV; subst hA; subst hE
  have := takeUvar_calls A P c at_ 0 0 T rfl hT w hp hl hat
  rw [hU] at this
  exact this

set_option maxRecDepth 100000 in
theorem takeBlob_calls (A : Option Addr) (P : List UInt8) (c at_ e : Nat) (n : Int) (E T : Int) (hE : E = e) (hT : T = at_) (w : World) (hp : RB w A c P) (hl : P.length ≤ 140737488355328) (hat : at_ ≤ P.length) (hn : n ≤ 9223372036854775807) :
    Calls Try.prog 99 #[.agg #[.slice A P.length c, .int .i64 T, .int .i64 E], .int .i64 n] w fun e' w' => ∃ A' c', e' = .returned (.tuple #[.slice A' (blobS P at_ e n).1.length c', .agg #[.slice A P.length c, .int .i64 (blobS P at_ e n).2.1, .int .i64 (blobS P at_ e n).2.2]]) ∧ NewB w w' (.slice A' (blobS P at_ e n).1.length c') (blobS P at_ e n).1 := by
  subst hE; subst hT
  have hB0 := two_boxes w (.cells #[.slice A P.length c, .int .i64 at_, .int .i64 e] 105) (.cells #[.slice none 0 0, .int .i64 0, .int .i64 0] 105)
  have HB := Lib.hid hB0
  have HP := Lib.hid (hp.new hB0)
  have HT := Lib.hid (Trio.fresh (w.alloc (.cells #[.slice A P.length c, .int .i64 at_, .int .i64 e] 105)) (w.heap.size + 1) (Array.size_push ..) (.slice none 0 0) (.int .i64 0) (.int .i64 0) 105)
  have HS := Lib.hid (Trio.fresh w w.heap.size rfl (.slice A P.length c) (.int .i64 at_) (.int .i64 e) 105 |>.new (w' := (w.alloc (.cells #[.slice A P.length c, .int .i64 at_, .int .i64 e] 105)).alloc (.cells #[.slice none 0 0, .int .i64 0, .int .i64 0] 105)) (below_alloc1 (Below.refl _ _) (Nat.le_refl _) _))
  clear hB0
  by_cases he : e = 0
  · subst he
    rw [show ((0 : Nat) : Int) = 0 from rfl] at HB HP HT HS
    by_cases hneg : n < 0
    · have hU : blobS P at_ 0 n = ([], at_, 1) := by unfold WireMath.blobS; rw [if_neg (by simp), if_pos hneg]
      rw [hU]
      clear hU
      go_enter Try.func99, Try.ntmps99
      go_wp2_with (go_at_call 97; (with_reducible refine (fault_calls A P.length c _ _ _ _).mono ?_); rintro e1 w1 ⟨rfl, hb1⟩; have T1 := HT.out.new hb1; have z0 := T1.c0; have z1 := T1.c1; have z2 := T1.c2; have f0 := T1.fz 0; have f1 := T1.fz 1; have f2 := T1.fz 2)
      have B1 := HB.out.trans (hb1.mono HB.out.size)
      exact bodyPost_ret (results_rd rfl _ _ (w.heap.size + 1) _ _ _ rfl (T1.put _ _ _)) rfl ⟨none, 0, rfl, OB.nil _ _ _, ((B1.setCell (Nat.le_succ _) _).setCell (Nat.le_succ _) _).setCell (Nat.le_succ _) _⟩
    · obtain ⟨m, rfl⟩ := Int.eq_ofNat_of_zero_le (by omega : 0 ≤ n)
      have hg := grpLe P at_ hat
      have hgl := WireMath.grpL_lt (P.drop at_)
      have hz := WireMath.grpTo_zero (P.drop at_) 0 0
      have hU : blobS P at_ 0 m = if (grpL (P.drop at_)).2 = 0 then ([], at_, 3) else if (m : Int) < (grpL (P.drop at_)).1 then ([], at_, 2) else
        if P.length - at_ - (grpL (P.drop at_)).2 < (grpL (P.drop at_)).1 then ([], at_, 3) else
        ((P.drop (at_ + (grpL (P.drop at_)).2)).take (grpL (P.drop at_)).1, at_ + (grpL (P.drop at_)).2 + (grpL (P.drop at_)).1, 0) := by
        unfold WireMath.blobS; rw [if_neg (by simp), if_neg hneg]
      have hV : uvarS P at_ 0 = ((grpL (P.drop at_)).1, at_ + (grpL (P.drop at_)).2, if (grpL (P.drop at_)).2 = 0 then 3 else 0) := by unfold WireMath.uvarS; rw [if_neg (by simp)]
      replace hz : (grpL (P.drop at_)).2 = 0 → (grpL (P.drop at_)).1 = 0 := hz
      generalize grpL (P.drop at_) = g at *
      have hwm : IntKind.u64.wrap (m : Int) = m := u64_nat m (by omega)
      by_cases hn0 : g.2 = 0
      · rw [hU, if_pos hn0]
        have hV2 : uvarS P at_ 0 = (0, at_, 3) := by rw [hV, if_pos hn0, hz hn0, hn0]; rfl
        have HV := Lib.hid hV2
        clear hU hneg hV hV2 hz hn0
        have h3 := Lib.hid (show (3 : Int) = ((3 : Nat) : Int) from rfl)
        have h0 := Lib.hid (show (0 : Int) = ((0 : Nat) : Int) from rfl)
        go_enter Try.func99, Try.ntmps99
        go_wp2_with (first
          | (go_at_call 68; (with_reducible refine (takeUvarN A P c at_ _ rfl _ HP.out hl hat 0 at_ 3 HV.out 0 at_ 3 h0.out rfl h3.out).mono ?_); rintro e1 w1 ⟨rfl, hb1⟩; have S1 := HS.out.new (hb1.alloc hb1.size (.cells #[.slice A P.length c, .int .i64 at_, .int .i64 3] 105)); have x0 := S1.c0; have x1 := S1.c1; have x2 := S1.c2)
          | (go_at_call 97; (with_reducible refine (fault_calls A P.length c _ _ _ _).mono ?_); rintro e2 w2 ⟨rfl, hb2⟩; have T1 := (HT.out.new (hb1.alloc hb1.size (.cells #[.slice A P.length c, .int .i64 at_, .int .i64 3] 105))).new hb2; have z0 := T1.c0; have z1 := T1.c1; have z2 := T1.c2; have f0 := T1.fz 0; have f1 := T1.fz 1; have f2 := T1.fz 2))
        have B1 := below_then (below_then HB.out (hb1.alloc hb1.size (.cells #[.slice A P.length c, .int .i64 at_, .int .i64 3] 105))) hb2
        exact bodyPost_ret (results_rd rfl _ _ (w.heap.size + 1) _ _ _ rfl (T1.put _ _ _)) rfl ⟨none, 0, rfl, OB.nil _ _ _, ((B1.setCell (Nat.le_succ _) _).setCell (Nat.le_succ _) _).setCell (Nat.le_succ _) _⟩
      · rw [if_neg hn0] at hU hV
        have hx64 : g.1 ≤ 18446744073709551615 := by omega
        obtain ⟨x, y⟩ := g
        simp only at hU hV hg hx64 hn0
        clear hgl hz
        rw [hU]
        have HVU := Lib.hid hV
        clear hV hU hneg hn0
        have h0 := Lib.hid (show (0 : Int) = ((0 : Nat) : Int) from rfl)
        have hyc := Lib.hid (show (at_ : Int) + y = ((at_ + y : Nat) : Int) from rfl)
        have hw1 : IntKind.i64.wrap ((P.length : Int) - ((at_ : Int) + y)) = (P.length : Int) - ((at_ : Int) + y) := IntWalk.i64_in _ (by omega)
        by_cases hlong : m < x
        · rw [if_pos (by omega)]
          clear hw1
          go_enter Try.func99, Try.ntmps99
          go_wp2_with (first
            | (go_at_call 68; (with_reducible refine (takeUvarN A P c at_ _ rfl _ HP.out hl hat x (at_ + y) 0 HVU.out x (at_ + y) 0 rfl hyc.out h0.out).mono ?_); rintro e1 w1 ⟨rfl, hb1⟩; have S1 := HS.out.new (hb1.alloc hb1.size (.cells #[.slice A P.length c, .int .i64 (at_ + y), .int .i64 0] 105)); have x0 := S1.c0; have x1 := S1.c1; have x2 := S1.c2)
            | (go_at_call 97; (with_reducible refine (fault_calls A P.length c _ _ _ _).mono ?_); rintro e2 w2 ⟨rfl, hb2⟩; have T1 := (HT.out.new (hb1.alloc hb1.size (.cells #[.slice A P.length c, .int .i64 (at_ + y), .int .i64 0] 105))).new hb2; have z0 := T1.c0; have z1 := T1.c1; have z2 := T1.c2; have f0 := T1.fz 0; have f1 := T1.fz 1; have f2 := T1.fz 2))
          have B1 := below_then (below_then HB.out (hb1.alloc hb1.size (.cells #[.slice A P.length c, .int .i64 (at_ + y), .int .i64 0] 105))) hb2
          exact bodyPost_ret (results_rd rfl _ _ (w.heap.size + 1) _ _ _ rfl (T1.put _ _ _)) rfl ⟨none, 0, rfl, OB.nil _ _ _, ((B1.setCell (Nat.le_succ _) _).setCell (Nat.le_succ _) _).setCell (Nat.le_succ _) _⟩
        · rw [if_neg (by omega)]
          have hw3 : IntKind.u64.wrap ((P.length : Int) - ((at_ : Int) + y)) = (P.length : Int) - ((at_ : Int) + y) := IntWalk.u64_in _ (by omega)
          by_cases hs : P.length - at_ - y < x
          · rw [if_pos hs]
            have hsb : decide ((P.length : Int) - ((at_ : Int) + y) < x) = true := by rw [decide_eq_true_iff]; omega
            clear hs
            go_enter Try.func99, Try.ntmps99
            go_wp2_with (first
              | (go_at_call 68; (with_reducible refine (takeUvarN A P c at_ _ rfl _ HP.out hl hat x (at_ + y) 0 HVU.out x (at_ + y) 0 rfl hyc.out h0.out).mono ?_); rintro e1 w1 ⟨rfl, hb1⟩; have S1 := HS.out.new (hb1.alloc hb1.size (.cells #[.slice A P.length c, .int .i64 (at_ + y), .int .i64 0] 105)); have x0 := S1.c0; have x1 := S1.c1; have x2 := S1.c2)
              | (go_at_call 97; (with_reducible refine (fault_calls A P.length c _ _ _ _).mono ?_); rintro e2 w2 ⟨rfl, hb2⟩; have T1 := (HT.out.new (hb1.alloc hb1.size (.cells #[.slice A P.length c, .int .i64 (at_ + y), .int .i64 0] 105))).new hb2; have z0 := T1.c0; have z1 := T1.c1; have z2 := T1.c2; have f0 := T1.fz 0; have f1 := T1.fz 1; have f2 := T1.fz 2))
            have B1 := below_then (below_then HB.out (hb1.alloc hb1.size (.cells #[.slice A P.length c, .int .i64 (at_ + y), .int .i64 0] 105))) hb2
            exact bodyPost_ret (results_rd rfl _ _ (w.heap.size + 1) _ _ _ rfl (T1.put _ _ _)) rfl ⟨none, 0, rfl, OB.nil _ _ _, ((B1.setCell (Nat.le_succ _) _).setCell (Nat.le_succ _) _).setCell (Nat.le_succ _) _⟩
          · rw [if_neg hs]
            have hsb : decide ((P.length : Int) - ((at_ : Int) + y) < x) = false := by rw [decide_eq_false_iff_not]; omega
            have hwv : IntKind.i64.wrap (x : Int) = x := IntWalk.i64_in _ (by omega)
            have hraw : rawS P (at_ + y) 0 x = ((P.drop (at_ + y)).take x, at_ + y + x, 0) := by unfold WireMath.rawS; rw [if_neg (by simp), if_neg (by omega), if_neg (by omega)]; simp
            have hcall := fun w' (h : RB w' A c P) => takeRaw_calls A P c (at_ + y) 0 x 0 (at_ + y) rfl hyc.out w' h hl hg (by omega)
            rw [hraw] at hcall
            have HC := Lib.hid hcall
            clear hs hcall hraw
            generalize (P.drop (at_ + y)).take x = q at *
            go_enter Try.func99, Try.ntmps99
            go_wp2_with (first
              | (go_at_call 68; (with_reducible refine (takeUvarN A P c at_ _ rfl _ HP.out hl hat x (at_ + y) 0 HVU.out x (at_ + y) 0 rfl hyc.out h0.out).mono ?_); rintro e1 w1 ⟨rfl, hb1⟩; have S1 := HS.out.new (hb1.alloc hb1.size (.cells #[.slice A P.length c, .int .i64 (at_ + y), .int .i64 0] 105)); have x0 := S1.c0; have x1 := S1.c1; have x2 := S1.c2)
              | (go_at_call 106; (with_reducible refine (HC.out _ ((HP.out.new hb1).alloc _)).mono ?_); rintro e2 w2 ⟨A2, c2, rfl, hn2⟩; have T1 := (HT.out.new (hb1.alloc hb1.size (.cells #[.slice A P.length c, .int .i64 (at_ + y), .int .i64 0] 105))).new hn2.below; have z0 := T1.c0; have z1 := T1.c1; have z2 := T1.c2; have f0 := T1.fz 0; have f1 := T1.fz 1; have f2 := T1.fz 2))
            have B1 := below_then HB.out (hb1.alloc hb1.size (.cells #[.slice A P.length c, .int .i64 (at_ + y), .int .i64 0] 105))
            have hz : ((w.alloc (.cells #[.slice A P.length c, .int .i64 at_, .int .i64 0] 105)).alloc (.cells #[.slice none 0 0, .int .i64 0, .int .i64 0] 105)).heap.size = w.heap.size + 2 := (Array.size_push ..).trans (congrArg (· + 1) (Array.size_push ..))
            have hz2 : w.heap.size + 2 ≤ (w1.alloc (.cells #[.slice A P.length c, .int .i64 (at_ + y), .int .i64 0] 105)).heap.size := by rw [← hz]; exact (hb1.alloc hb1.size _).size
            have ho := hn2.own.mono hz2
            have B2 := below_then B1 hn2.below
            exact bodyPost_ret (results_rd rfl _ _ (w.heap.size + 1) _ _ _ rfl (T1.put _ _ _)) rfl ⟨A2, c2, rfl, (((ho.low (by omega)).low (by omega)).low (by omega)).mono (by omega), ((B2.setCell (Nat.le_succ _) _).setCell (Nat.le_succ _) _).setCell (Nat.le_succ _) _⟩
  · have hb : ((e : Int) != 0) = true := by rw [bne_iff_ne]; omega
    have hU : blobS P at_ e n = ([], at_, e) := by unfold WireMath.blobS; rw [if_pos he]
    rw [hU]
    clear hU he
    go_enter Try.func99, Try.ntmps99
    go_wp2
    go_region
    all_goals go_wp2
    have B1 := two_boxes w (.cells #[.slice A P.length c, .int .i64 at_, .int .i64 e] 105) (.cells #[.slice A P.length c, .int .i64 at_, .int .i64 e] 105)
    exact bodyPost_ret (results_rd rfl _ _ (w.heap.size + 1) _ _ _ rfl (Trio.fresh (w.alloc (.cells #[.slice A P.length c, .int .i64 at_, .int .i64 e] 105)) (w.heap.size + 1) (Array.size_push ..) _ _ _ _).drew) rfl ⟨none, 0, rfl, OB.nil _ _ _, B1.drew⟩
end Go.Proofs.Ytelecdncdaepnaa
