/- The reference's reader of layer 1: TakeRaw, Done. -/
import Derived.Test.YtelecdncdaepnaaRefReadWalk
import Derived.Test.YtelecdncdaepnaaReadWalk2
namespace Go.Proofs.Ytelecdncdaepnaa
open Go.RowKit
open WireMath (numS beN rawS blobS uvarS grpL)

/-- two boxes laid -/
theorem two_boxes (w : World) (u v : Obj) : Below w.heap.size w ((w.alloc u).alloc v) := by
  have h := below_alloc1 (Below.refl w.heap.size w) (Nat.le_refl _) u
  exact below_alloc1 h h.size v
theorem Trio.other {w : World} {b g j : Nat} {x y z u : Value} (h : Trio w b x y z) (hne : b ≠ g) : Trio (w.setCell ⟨g, j, none⟩ u) b x y z := h.keep ((setCell_grown w g j u).block b h.lt (fun e => hne (Option.some.inj e)))
theorem OB.low {w : World} {base e g j : Nat} {v u : Value} {p : List UInt8} (h : OB w base e v p) (hg : g < base) : OB (w.setCell ⟨g, j, none⟩ u) base e v p := ⟨ownsRow_setCell_below h.out hg u⟩
theorem OB.drew {w : World} {base e : Nat} {v : Value} {p : List UInt8} (h : OB w base e v p) : OB w.drew base e v p := h.new (below_drew _ _)
theorem fault_N (A : Option Addr) (n c : Nat) (T E F : Int) (w : World) (f : Int) (hF : F = f) :
    Calls Try.prog 97 #[.agg #[.slice A n c, .int .i64 T, .int .i64 E], .int .i64 F] w fun e' w' => e' = .returned (.agg #[.slice A n c, .int .i64 T, .int .i64 f]) ∧ Below w.heap.size w w' := by
  subst hF; exact fault_calls A n c T E F w

set_option maxRecDepth 100000 in
theorem takeRaw_calls (A : Option Addr) (P : List UInt8) (c at_ e : Nat) (n : Int) (E T : Int) (hE : E = e) (hT : T = at_) (w : World) (hp : RB w A c P) (hl : P.length ≤ 140737488355328) (hat : at_ ≤ P.length) (hn : n ≤ 9223372036854775807) :
    Calls Try.prog 106 #[.agg #[.slice A P.length c, .int .i64 T, .int .i64 E], .int .i64 n] w fun e' w' => ∃ A' c', e' = .returned (.tuple #[.slice A' (rawS P at_ e n).1.length c', .agg #[.slice A P.length c, .int .i64 (rawS P at_ e n).2.1, .int .i64 (rawS P at_ e n).2.2]]) ∧ NewB w w' (.slice A' (rawS P at_ e n).1.length c') (rawS P at_ e n).1 := by
  subst hE; subst hT
  have hB0 := two_boxes w (.cells #[.slice A P.length c, .int .i64 at_, .int .i64 e] 105) (.cells #[.slice none 0 0, .int .i64 0, .int .i64 0] 105)
  have HB := Lib.hid hB0
  have HP := Lib.hid (hp.new hB0)
  have HT := Lib.hid (Trio.fresh (w.alloc (.cells #[.slice A P.length c, .int .i64 at_, .int .i64 e] 105)) (w.heap.size + 1) (Array.size_push ..) (.slice none 0 0) (.int .i64 0) (.int .i64 0) 105)
  clear hB0
  by_cases he : e = 0
  · subst he
    rw [show ((0 : Nat) : Int) = 0 from rfl] at HB HP HT
    by_cases hneg : n < 0
    · have hU : rawS P at_ 0 n = ([], at_, 1) := by unfold WireMath.rawS; rw [if_neg (by simp), if_pos hneg]
      rw [hU]
      clear hU
      go_enter Try.func106, Try.ntmps106
      go_wp2_with (go_at_call 97; (with_reducible refine (fault_calls A P.length c _ _ _ _).mono ?_); rintro e1 w1 ⟨rfl, hb1⟩; have T1 := HT.out.new hb1; have z0 := T1.c0; have z1 := T1.c1; have z2 := T1.c2; have f0 := T1.fz 0; have f1 := T1.fz 1; have f2 := T1.fz 2)
      have B1 := HB.out.trans (hb1.mono HB.out.size)
      exact bodyPost_ret (results_rd rfl _ _ (w.heap.size + 1) _ _ _ rfl (T1.put _ _ _)) rfl ⟨none, 0, rfl, OB.nil _ _ _, ((B1.setCell (Nat.le_succ _) _).setCell (Nat.le_succ _) _).setCell (Nat.le_succ _) _⟩
    · obtain ⟨m, rfl⟩ := Int.eq_ofNat_of_zero_le (by omega : 0 ≤ n)
      by_cases hs : P.length - at_ < m
      · have hU : rawS P at_ 0 m = ([], at_, 3) := by unfold WireMath.rawS; rw [if_neg (by simp), if_neg hneg, if_pos (by omega)]
        rw [hU]
        have hb : decide ((P.length : Int) - at_ < m) = true := by rw [decide_eq_true_iff]; omega
        clear hU
        go_enter Try.func106, Try.ntmps106
        go_wp2_with (go_at_call 97; (with_reducible refine (fault_calls A P.length c _ _ _ _).mono ?_); rintro e1 w1 ⟨rfl, hb1⟩; have T1 := HT.out.new hb1; have z0 := T1.c0; have z1 := T1.c1; have z2 := T1.c2; have f0 := T1.fz 0; have f1 := T1.fz 1; have f2 := T1.fz 2)
        have B1 := HB.out.trans (hb1.mono HB.out.size)
        exact bodyPost_ret (results_rd rfl _ _ (w.heap.size + 1) _ _ _ rfl (T1.put _ _ _)) rfl ⟨none, 0, rfl, OB.nil _ _ _, ((B1.setCell (Nat.le_succ _) _).setCell (Nat.le_succ _) _).setCell (Nat.le_succ _) _⟩
      · have hok : at_ + m ≤ P.length := by omega
        have hU : rawS P at_ 0 m = ((P.drop at_).take m, at_ + m, 0) := by unfold WireMath.rawS; rw [if_neg (by simp), if_neg hneg, if_neg (by omega)]; simp
        rw [hU]
        have hb : decide ((P.length : Int) - at_ < m) = false := by rw [decide_eq_false_iff_not]; omega
        have hcap := hp.len
        have hsl := fun w' : World => run_cut w' A P.length c at_ ((at_ : Int) + m) at_ (at_ + m) rfl (by omega) (by omega) (by omega)
        have hcut := HP.out.cut at_ (at_ + m) (by omega) hok
        rw [Nat.add_sub_cancel_left] at hsl hcut
        have hql : ((P.drop at_).take m).length = m := by simp; omega
        generalize (P.drop at_).take m = q at *
        have HCUT := Lib.hid hcut
        have HQ := Lib.hid hql
        have HS := Lib.hid (Trio.fresh w w.heap.size rfl (.slice A P.length c) (.int .i64 at_) (.int .i64 0) 105 |>.new (w' := (w.alloc (.cells #[.slice A P.length c, .int .i64 at_, .int .i64 0] 105)).alloc (.cells #[.slice none 0 0, .int .i64 0, .int .i64 0] 105)) (below_alloc1 (Below.refl _ _) (Nat.le_refl _) _))
        clear hcut hql hU hs
        go_enter Try.func106, Try.ntmps106
        go_wp2_with (go_at_call 20; (with_reducible refine (twinR (cutA A at_ c) q m (c - at_) _ HCUT.out HQ.out.symm (by have := HQ.out; omega)).mono ?_); rintro e1 w1 ⟨A1, c1, rfl, hn1⟩; have S1 := HS.out.new hn1.below; have z0 := S1.c0; have z1 := S1.c1; have z2 := S1.c2; have f0 := S1.fz 0; have f1 := S1.fz 1; have f2 := S1.fz 2; have T1 := HT.out.new hn1.below; have y0 := T1.c0; have y1 := T1.c1; have y2 := T1.c2; have g0 := T1.fz 0; have g1 := T1.fz 1; have g2 := T1.fz 2)
        go_region
        all_goals go_wp2
        have B1 := HB.out.trans (hn1.below.mono HB.out.size)
        have hz : ((w.alloc (.cells #[.slice A P.length c, .int .i64 at_, .int .i64 0] 105)).alloc (.cells #[.slice none 0 0, .int .i64 0, .int .i64 0] 105)).heap.size = w.heap.size + 2 := (Array.size_push ..).trans (congrArg (· + 1) (Array.size_push ..))
        have ho := hn1.own
        rw [hz, ← HQ.out] at ho
        rw [← HQ.out]
        refine bodyPost_ret (results_rd rfl _ _ (w.heap.size + 1) _ _ _ rfl ((T1.other (by omega)).put _ _ _).drew) rfl ⟨A1, c1, by rw [HQ.out]; rfl, ((((ho.low (by omega)).low (by omega)).low (by omega)).low (by omega)).drew.mono (by omega), ((((B1.setCell (Nat.le_refl _) _).setCell (Nat.le_succ _) _).setCell (Nat.le_succ _) _).setCell (Nat.le_succ _) _).drew⟩
  · have hb : ((e : Int) != 0) = true := by rw [bne_iff_ne]; omega
    have hU : rawS P at_ e n = ([], at_, e) := by unfold WireMath.rawS; rw [if_pos he]
    rw [hU]
    clear hU he
    go_enter Try.func106, Try.ntmps106
    go_wp2
    go_region
    all_goals go_wp2
    have B1 := two_boxes w (.cells #[.slice A P.length c, .int .i64 at_, .int .i64 e] 105) (.cells #[.slice A P.length c, .int .i64 at_, .int .i64 e] 105)
    exact bodyPost_ret (results_rd rfl _ _ (w.heap.size + 1) _ _ _ rfl (Trio.fresh (w.alloc (.cells #[.slice A P.length c, .int .i64 at_, .int .i64 e] 105)) (w.heap.size + 1) (Array.size_push ..) _ _ _ _).drew) rfl ⟨none, 0, rfl, OB.nil _ _ _, B1.drew⟩
end Go.Proofs.Ytelecdncdaepnaa
