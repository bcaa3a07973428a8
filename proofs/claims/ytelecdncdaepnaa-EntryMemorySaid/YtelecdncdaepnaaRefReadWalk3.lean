/- The reference's reader of layer 1: TakeUvar. -/
import Derived.Test.YtelecdncdaepnaaRefReadWalk2
namespace Go.Proofs.Ytelecdncdaepnaa
open Go.RowKit
open WireMath (numS beN rawS blobS uvarS grpL grpTo)

theorem uvarS_ok (P : List UInt8) (at_ x m : Nat) (h : grpL (P.drop at_) = (x, m + 1)) : uvarS P at_ 0 = (x, at_ + (m + 1), 0) := by
  unfold WireMath.uvarS; rw [if_neg (by simp), h]; simp
theorem uvarS_no (P : List UInt8) (at_ : Nat) (h : grpL (P.drop at_) = (0, 0)) : uvarS P at_ 0 = (0, at_, 3) := by
  unfold WireMath.uvarS; rw [if_neg (by simp), h]; simp

set_option maxRecDepth 100000 in
theorem takeUvar_calls (A : Option Addr) (P : List UInt8) (c at_ e : Nat) (E T : Int) (hE : E = e) (hT : T = at_) (w : World) (hp : RB w A c P) (hl : P.length ≤ 140737488355328) (hat : at_ ≤ P.length) :
    Calls Try.prog 68 #[.agg #[.slice A P.length c, .int .i64 T, .int .i64 E]] w fun e' w' => e' = .returned (.tuple #[.int .u64 (uvarS P at_ e).1, .agg #[.slice A P.length c, .int .i64 (uvarS P at_ e).2.1, .int .i64 (uvarS P at_ e).2.2]]) ∧ Below w.heap.size w w' := by
  subst hE; subst hT
  have hB0 := two_boxes w (.cells #[.slice A P.length c, .int .i64 at_, .int .i64 e] 105) (.cells #[.slice none 0 0, .int .i64 0, .int .i64 0] 105)
  have HB := Lib.hid hB0
  have HP := Lib.hid (hp.new hB0)
  have HT := Lib.hid (Trio.fresh (w.alloc (.cells #[.slice A P.length c, .int .i64 at_, .int .i64 e] 105)) (w.heap.size + 1) (Array.size_push ..) (.slice none 0 0) (.int .i64 0) (.int .i64 0) 105)
  clear hB0
  by_cases he : e = 0
  · subst he
    rw [show ((0 : Nat) : Int) = 0 from rfl] at HB HP HT
    go_enter Try.func68, Try.ntmps68
    go_wp2
    go_loop [4, 5, 6] (fun v u i => ∃ j x : Nat, j ≤ 9 ∧ at_ + j ≤ P.length ∧ i = .int .i64 j ∧ u = .int .u64 ((128 ^ j : Nat) : Int) ∧ v = .int .u64 x ∧ x < 128 ^ j ∧ Hid (grpL (P.drop at_) = grpTo j x (P.drop (at_ + j)))) (fun _ _ i => 10 - (intOf i).toNat)
    case atStart => exact ⟨0, 0, by omega, hat, rfl, rfl, rfl, by simp, Lib.hid rfl⟩
    case round =>
      obtain ⟨j, x, hj, hjl, rfl, rfl, rfl, hx, HG⟩ := hrel
      have hpow : 128 ^ j ≤ 9223372036854775808 := Nat.le_trans (Nat.pow_le_pow_right (by decide) hj) (by decide)
      have hsucc : 128 ^ (j + 1) = 128 ^ j * 128 := Nat.pow_succ ..
      by_cases hend : at_ + j = P.length
      · have hU : uvarS P at_ 0 = (0, at_, 3) := uvarS_no P at_ (by rw [HG.out, hend, List.drop_length]; rfl)
        have HU := Lib.hid hU
        clear hU
        generalize 128 ^ j = U at *
        clear hsucc
        have hb : decide ((P.length : Int) ≤ (at_ : Int) + j) = true := by rw [decide_eq_true_iff]; omega
        clear hend
        go_wp2_with (go_at_call 97; (with_reducible refine (fault_calls A P.length c _ _ _ _).mono ?_); rintro e1 w1 ⟨rfl, hb1⟩; have T1 := HT.out.new hb1; have z0 := T1.c0; have z1 := T1.c1; have z2 := T1.c2; have f0 := T1.fz 0; have f1 := T1.fz 1; have f2 := T1.fz 2)
        have B1 := HB.out.trans (hb1.mono HB.out.size)
        rw [HU.out]
        exact bodyPost_ret (results_rd rfl _ _ (w.heap.size + 1) _ _ _ rfl (T1.put _ _ _)) rfl ⟨rfl, ((B1.setCell (Nat.le_succ _) _).setCell (Nat.le_succ _) _).setCell (Nat.le_succ _) _⟩
      · have hjlt : at_ + j < P.length := by omega
        obtain ⟨a, rfl, hc⟩ := HP.out.at_ (at_ + j) hjlt
        have hg : grpL (P.drop at_) = grpTo j x (P[at_ + j] :: P.drop (at_ + (j + 1))) := by rw [HG.out, List.drop_eq_getElem_cons hjlt]; rfl
        have hu : uB P[at_ + j] = ((P[at_ + j].toNat : Nat) : Int) := rfl
        have hur := P[at_ + j].toNat_lt
        rw [hu] at hc
        rw [WireMath.grpTo] at hg
        have h1 : (P[at_ + j] = 1) ↔ P[at_ + j].toNat = 1 := ⟨fun h => by rw [h]; rfl, fun h => UInt8.toNat_inj.1 h⟩
        have h0 : (P[at_ + j] = 0) ↔ P[at_ + j].toNat = 0 := ⟨fun h => by rw [h]; rfl, fun h => UInt8.toNat_inj.1 h⟩
        simp only [ne_eq, h1, h0] at hg
        clear h1 h0 hu
        generalize P[at_ + j].toNat = u at *
        have i0 : (0 : Int) ≤ (at_ : Int) + j := by omega
        have i1 : (at_ : Int) + j < P.length := by omega
        have hbn : decide ((P.length : Int) ≤ (at_ : Int) + j) = false := by rw [decide_eq_false_iff_not]; omega
        have hbig : x + u % 128 * 128 ^ j < 128 ^ (j + 1) := by
          have h2 : (u % 128 + 1) * 128 ^ j ≤ 128 * 128 ^ j := Nat.mul_le_mul_right _ (by omega)
          rw [Nat.add_mul, Nat.one_mul] at h2
          omega
        have hFault : Hid (grpL (P.drop at_) = (0, 0)) → Hid (uvarS P at_ 0 = (0, at_, 3)) := fun h => Lib.hid (uvarS_no P at_ h.out)
        have hmul0 : 0 ≤ ((u : Int) % 128 * ((128 ^ j : Nat) : Int)) := Int.mul_nonneg (by omega) (by omega)
        have hadd : ((x + u % 128 * 128 ^ j : Nat) : Int) = (x : Int) + (u : Int) % 128 * ((128 ^ j : Nat) : Int) := by
          rw [Int.natCast_add, Int.natCast_mul]; rfl
        have hmul1 : (j = 9 → u = 1) → (x : Int) + (u : Int) % 128 * ((128 ^ j : Nat) : Int) ≤ 18446744073709551615 := by
          intro h9
          rw [← hadd]
          by_cases h : j = 9
          · have h3 := h9 h
            subst h; subst h3
            have : (128 : Nat) ^ 9 = 9223372036854775808 := by decide
            rw [this] at hx ⊢
            omega
          · have h8 : 128 ^ (j + 1) ≤ 9223372036854775808 := Nat.le_trans (Nat.pow_le_pow_right (by decide) (by omega : j + 1 ≤ 9)) (by decide)
            omega
        by_cases hF1 : j = 9 ∧ u ≠ 1
        · have hU := hFault (Lib.hid (by rw [hg, if_pos (.inl hF1)]))
          have f9 : ((j : Int) == 9) = true := by rw [beq_iff_eq]; omega
          have f1 : ((u : Int) != 1) = true := by rw [bne_iff_ne]; omega
          clear hFault hg hbig hadd hmul0 hmul1 hF1 hsucc
          generalize 128 ^ j = U at *
          go_wp2_with (go_at_call 97; (with_reducible refine (fault_calls (some a) P.length c _ _ _ _).mono ?_); rintro e1 w1 ⟨rfl, hb1⟩; have T1 := HT.out.new hb1; have z0 := T1.c0; have z1 := T1.c1; have z2 := T1.c2; have f0 := T1.fz 0; have f1 := T1.fz 1; have f2 := T1.fz 2)
          have B1 := HB.out.trans (hb1.mono HB.out.size)
          rw [hU.out]
          exact bodyPost_ret (results_rd rfl _ _ (w.heap.size + 1) _ _ _ rfl (T1.put _ _ _)) rfl ⟨rfl, ((B1.setCell (Nat.le_succ _) _).setCell (Nat.le_succ _) _).setCell (Nat.le_succ _) _⟩
        · have hm1 := hmul1 (fun h => Classical.byContradiction fun h2 => hF1 ⟨h, h2⟩)
          clear hmul1
          by_cases hF2 : 0 < j ∧ u = 0
          · have hU := hFault (Lib.hid (by rw [hg, if_pos (.inr hF2)]))
            have f9 : ((j : Int) == 9) = false := by rw [beq_eq_false_iff_ne]; omega
            have flt : decide ((u : Int) < 128) = true := by rw [decide_eq_true_iff]; omega
            have f0 : ((u : Int) == 0) = true := by rw [beq_iff_eq]; omega
            have fj : 0 < j := hF2.1
            clear hFault hg hbig hadd hF1 hF2 hsucc
            generalize 128 ^ j = U at *
            go_wp2_with (go_at_call 97; (with_reducible refine (fault_calls (some a) P.length c _ _ _ _).mono ?_); rintro e1 w1 ⟨rfl, hb1⟩; have T1 := HT.out.new hb1; have z0 := T1.c0; have z1 := T1.c1; have z2 := T1.c2; have f0 := T1.fz 0; have f1 := T1.fz 1; have f2 := T1.fz 2)
            have B1 := HB.out.trans (hb1.mono HB.out.size)
            rw [hU.out]
            exact bodyPost_ret (results_rd rfl _ _ (w.heap.size + 1) _ _ _ rfl (T1.put _ _ _)) rfl ⟨rfl, ((B1.setCell (Nat.le_succ _) _).setCell (Nat.le_succ _) _).setCell (Nat.le_succ _) _⟩
          · rw [if_neg (by omega)] at hg
            by_cases hlt : u < 128
            · rw [if_pos hlt] at hg
              have HU := Lib.hid (uvarS_ok P at_ _ j hg)
              have flt : decide ((u : Int) < 128) = true := by rw [decide_eq_true_iff]; omega
              have HA := Lib.hid hadd
              clear hFault hg hbig hadd hsucc
              generalize 128 ^ j = U at *
              have hcase : (((j : Int) == 9) = true ∧ ((u : Int) != 1) = false ∧ ((u : Int) == 0) = false) ∨ (((j : Int) == 9) = false ∧ ((u : Int) == 0) = false) ∨ (((j : Int) == 9) = false ∧ ((u : Int) == 0) = true ∧ ¬ 0 < j) := by
                simp only [beq_iff_eq, beq_eq_false_iff_ne, bne_eq_false_iff_eq]; omega
              clear hF1 hF2
              rcases hcase with ⟨f9, f1, f0⟩ | ⟨f9, f0⟩ | ⟨f9, f0, fj⟩
              all_goals
                go_wp2
                go_region
                all_goals go_wp2
                rw [HU.out]
                have e1 : ((at_ + (j + 1) : Nat) : Int) = (at_ : Int) + ((j : Int) + 1) := by omega
                simp only [HA.out, e1]
                have B1 := two_boxes w (.cells #[.slice (some a) P.length c, .int .i64 ((at_ : Int) + ((j : Int) + 1)), .int .i64 0] 105) (.cells #[.slice (some a) P.length c, .int .i64 ((at_ : Int) + ((j : Int) + 1)), .int .i64 0] 105)
                exact bodyPost_ret (results_rd rfl _ _ (w.heap.size + 1) _ _ _ rfl (Trio.fresh (w.alloc (.cells #[.slice (some a) P.length c, .int .i64 ((at_ : Int) + ((j : Int) + 1)), .int .i64 0] 105)) (w.heap.size + 1) (Array.size_push ..) _ _ _ _).drew) rfl ⟨rfl, B1.drew⟩
            · rw [if_neg hlt] at hg
              have flt : decide ((u : Int) < 128) = false := by rw [decide_eq_false_iff_not]; omega
              have f9 : ((j : Int) == 9) = false := by rw [beq_eq_false_iff_ne]; omega
              have HA := Lib.hid hadd
              have HG2 := Lib.hid hg
              have HX := Lib.hid hbig
              have HS := Lib.hid hsucc
              have hj8 : j ≤ 8 := by omega
              have h8 : 128 ^ (j + 1) ≤ 9223372036854775808 := Nat.le_trans (Nat.pow_le_pow_right (by decide) (by omega : j + 1 ≤ 9)) (by decide)
              have hU7 : 128 ^ j * 128 ≤ 9223372036854775808 := by omega
              clear hFault hg hbig hadd hF1 hF2 hsucc h8
              generalize hU : 128 ^ j = U at *
              generalize hU2 : 128 ^ (j + 1) = U2 at *
              have HU := Lib.hid hU
              have HU2 := Lib.hid hU2
              clear hU hU2
              go_wp2
              go_round
              case rel => exact ⟨j + 1, x + u % 128 * U, by omega, by omega, by go_num, by rw [HU2.out, HS.out]; go_num, by rw [HA.out], by rw [HU2.out]; exact HX.out, HG2⟩
              case measure => simp [intOf]; omega
  · have hb : ((e : Int) != 0) = true := by rw [bne_iff_ne]; omega
    have hU : uvarS P at_ e = (0, at_, e) := by unfold WireMath.uvarS; rw [if_pos he]
    rw [hU]
    clear hU he
    go_enter Try.func68, Try.ntmps68
    go_wp2
    go_region
    all_goals go_wp2
    have B1 := two_boxes w (.cells #[.slice A P.length c, .int .i64 at_, .int .i64 e] 105) (.cells #[.slice A P.length c, .int .i64 at_, .int .i64 e] 105)
    exact bodyPost_ret (results_rd rfl _ _ (w.heap.size + 1) _ _ _ rfl (Trio.fresh (w.alloc (.cells #[.slice A P.length c, .int .i64 at_, .int .i64 e] 105)) (w.heap.size + 1) (Array.size_push ..) _ _ _ _).drew) rfl ⟨rfl, B1.drew⟩
end Go.Proofs.Ytelecdncdaepnaa
