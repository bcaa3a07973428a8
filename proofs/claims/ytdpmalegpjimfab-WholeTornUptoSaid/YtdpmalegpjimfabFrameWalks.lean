/- FrameWalks. -/
import Derived.Test.YtdpmalegpjimfabScanWalk
import Derived.Test.YtdpmalegpjimfabFrameLaws
import Derived.Deep.RegionHeld3
namespace Go.Proofs.Ytdpmalegpjimfab
open Go.RowKit

theorem cell_newW {w w' : World} {a : Addr} {v : Value} (hb : Below w.heap.size w w') (h : w.cell? a = some v) : w'.cell? a = some v := (hb.cell (World.block_lt_of_cell? w _ h)).trans h

set_option maxHeartbeats 400000 in
set_option maxRecDepth 100000 in
theorem frameWalks_calls (A : Option Addr) (P : List UInt8) (n c : Nat) (w : World) (hp : RB w A c P) (hn : n = P.length) (hl : P.length ≤ 70368744177664) :
    Calls Try.prog 5 #[.slice A n c] w fun e w' => e = .returned (.bool true) ∧ Below w.heap.size w w' := by
  subst hn
  have h1 := Lib.hid (fun w' A' c' (h : RB w' A' c' P) => scan_calls A' P P.length c' w' h rfl hl)
  have hle := scanF_length P
  have hsF : scanF P = scanTo (P.length + 1) P ((0 : Nat) : Int) := rfl
  generalize scanF P = r at *
  obtain ⟨rl, rn⟩ := r
  simp only at hle
  have HSF := Lib.hid hsF.symm
  clear hsF
  go_enter Try.func5, Try.ntmps5
  go_wp2_with (first
    | (go_at_call 13; (with_reducible refine (fawake_calls _).mono ?_); rintro e0 w0 ⟨rfl, hb0⟩)
    | (go_at_call 15; (with_reducible refine (twinR A P P.length c _ (hp.new hb0) rfl (by omega)).mono ?_); rintro e1 w1 ⟨A1, c1, rfl, hn1⟩)
    | (go_at_call 19; go_loud (with_reducible refine (h1.out _ A1 c1 hn1.own.rb).mono ?_); rintro e2 w2 ⟨A2, c2, fs, rfl, hf2, he2, hb2⟩; have B2 := Lib.hid (below_then (below_then hb0 hn1.below) hb2)))
  have hq2 : frOf fs = rl := he2
  have l2 : rl.length = fs.length := by rw [← hq2]; simp [frOf]
  have HQ2 := Lib.hid hq2
  clear he2 hq2
  rw [l2] at hf2
  rw [l2]
  have hle2 : fs.length * 19 ≤ P.length := by omega
  clear hle l2
  go_loopw [5, 6, 23] (fun v _ iv wr => ∃ (i at_ f : Nat), i ≤ fs.length ∧ iv = .int .i64 i ∧ v = .int .i64 at_ ∧ at_ ≤ P.length ∧ P.length < at_ + f ∧ Hid (scanTo f P at_ = (rl.drop i, rn)) ∧ Below w2.heap.size w2 wr) (fun _ _ i _ => fs.length - (intOf i).toNat)
  case atStart => exact ⟨0, 0, P.length + 1, Nat.zero_le _, rfl, rfl, Nat.zero_le _, by omega, Lib.hid (by rw [HSF.out]; simp), Below.refl _ _⟩
  case round =>
    obtain ⟨i, at_, f, hi, rfl, rfl, hat, hfu, HS, HB⟩ := hrel
    cases f with
    | zero => omega
    | succ f =>
      have hcall := fun w' A' c' (h : RB w' A' c' P) => next_calls A' P P.length c' (at_ : Int) (by omega) w' h rfl (by omega)
      have hs := HS.out
      rw [scanTo] at hs
      have HB1 := Lib.hid (below_then B2.out HB)
      by_cases hlt : i < fs.length
      · obtain ⟨g, hg⟩ : ∃ g, fs[i]? = some g := ⟨_, List.getElem?_eq_getElem hlt⟩
        have hrg : rl[i]? = some (g.place, g.pay) := by rw [← HQ2.out]; simp [frOf, hg]
        have hdrop : rl.drop i = (g.place, g.pay) :: rl.drop (i + 1) := by
          obtain ⟨h3, h4⟩ := List.getElem?_eq_some_iff.1 hrg
          rw [List.drop_eq_getElem_cons h3, h4]
        rw [hdrop] at hs
        by_cases hk : (nextF P at_).kind = 1
        · obtain ⟨a, ea, hp1, hp2, hpl, hnx, hle, _⟩ := next_whole P at_ hk
          obtain rfl : a = at_ := by omega
          rw [if_pos hk] at hs
          simp only [Prod.mk.injEq, List.cons.injEq] at hs
          obtain ⟨⟨hfr, hs1⟩, hs2⟩ := hs
          generalize nextF P (a : Int) = r at *
          obtain ⟨kk, pl, pay, nx⟩ := r
          simp only [Nx.fr, Prod.mk.injEq] at hk hp1 hp2 hpl hnx hle hfr hs1 hs2
          subst hk
          obtain ⟨nx', hnx', hxl⟩ : ∃ nx' : Nat, nx = nx' ∧ nx' = a + pay.length + 18 := ⟨a + pay.length + 18, by omega, rfl⟩
          subst hnx'
          have HN := Lib.hid (show scanTo f P (nx' : Int) = (rl.drop (i + 1), rn) by rw [← hs1, ← hs2])
          have HC := Lib.hid hcall
          have HFG := Lib.hid (show (decide (pl = g.place) && (pay == g.pay)) = true by simp [hfr.1, hfr.2])
          have hgt : ¬ nx' ≤ a := by omega
          have hnl : nx' ≤ P.length := by omega
          have hfu2 : P.length < nx' + f := by omega
          obtain ⟨p1, d1, e1, _, k0, k1⟩ := (hf2.new HB).at_ i g hg
          have ho1 := ((hf2.new HB).own g (List.mem_of_getElem? hg)).rb
          injection e1 with e1a e1b e1c
          subst e1a; subst e1c
          simp only [FrV.val] at k1
          clear hcall hnx hxl hpl hp2 hle hs1 hs2 hfr hdrop hrg hg e1b hp1
          go_wp2_with (first
            | (go_at_call 15; (with_reducible refine (twinR A P P.length c _ (hp.new HB1.out) rfl (by omega)).mono ?_); rintro e3 w3 ⟨A3, c3, rfl, hn3⟩)
            | (go_at_call 18; (with_reducible refine (HC.out _ A3 c3 hn3.own.rb).mono ?_); rintro e4 w4 ⟨A4, c4, rfl, hn4⟩; have N4 := below_then hn3.below hn4.below; have k0 := cell_newW N4 k0; have k1 := cell_newW N4 k1))
          have N5 := below_alloc1 (Below.refl w4.heap.size w4) (Nat.le_refl _) (.cells #[.int .u64 pl, .slice A4 pay.length c4] 33)
          have q5 := Pair.fresh w4 (.int .u64 pl) (.slice A4 pay.length c4) 33
          have k0 := cell_newW N5 k0
          have k1 := cell_newW N5 k1
          have d0 := q5.c0
          have d1 := q5.c1
          have r4 := Lib.hid (hn4.own.rb.new N5)
          have r1 := Lib.hid ((ho1.new N4).new N5)
          go_region_held3 (fun w' => w'.cell? ⟨w4.heap.size, 0, none⟩ = some (.int .u64 pl) ∧ w'.cell? ⟨w4.heap.size, 1, none⟩ = some (.slice A4 pay.length c4) ∧ w'.cell? ⟨p1, i * 2, none⟩ = some (.int .u64 g.place) ∧ w'.cell? ⟨p1, i * 2 + 1, none⟩ = some (.slice g.A g.pay.length g.c)) (go_keep) (first
            | (go_at_call 22; go_loud (with_reducible refine (fsameN pl g.place _ _ A4 g.A pay g.pay _ _ c4 g.c _ (r4.out.new (below_drew _ _)) (r1.out.new (below_drew _ _)) rfl rfl true HFG.out rfl rfl).mono ?_); rintro e5 w5 ⟨rfl, hb5⟩; have hb6 := (below_drew _ _).trans hb5; have k0 := cell_newW hb6 k0; have k1 := cell_newW hb6 k1; have q6 := q5.new hb6; have d0 := q6.c0; have d1 := q6.c1))
          go_wp2
          go_roundw
          case rel => exact ⟨i + 1, nx', f, by omega, by go_num, rfl, hnl, hfu2, HN, below_then (belowA (below_then HB N4) (.cells #[.int .u64 pl, .slice A4 pay.length c4] 33)).drew hb5⟩
          case measure => simp [intOf]; omega
        · rw [if_neg hk] at hs; simp at hs
      · obtain rfl : i = fs.length := by omega
        have hrl : rl.drop fs.length = [] := by
          have : rl.length = fs.length := by rw [← HQ2.out]; simp [frOf]
          rw [← this]; exact List.drop_length
        rw [hrl] at hs
        by_cases hk : (nextF P at_).kind = 1
        · rw [if_pos hk] at hs; simp at hs
        · rw [if_neg hk] at hs
          simp only [Prod.mk.injEq, true_and] at hs
          have hno := next_other P at_ hk
          generalize (if (at_ : Int) = P.length then 0 else 2) = kk at hno
          rw [hno] at hcall hk
          have HC := Lib.hid hcall
          subst hs
          have hkb : ((kk : Int) != 1) = true := by rw [bne_iff_ne]; simp only [noNx] at hk; omega
          clear hcall hk hno hrl
          unfold noNx at HC
          go_wp2_with (first
            | (go_at_call 15; (with_reducible refine (twinR A P P.length c _ (hp.new HB1.out) rfl (by omega)).mono ?_); rintro e3 w3 ⟨A3, c3, rfl, hn3⟩)
            | (go_at_call 18; (with_reducible refine (HC.out _ A3 c3 hn3.own.rb).mono ?_); rintro e4 w4 ⟨A4, c4, rfl, hn4⟩))
          go_ret
          exact ⟨ret_bool (by simp), belowA (below_then (below_then HB1.out hn3.below) hn4.below) _⟩
end Go.Proofs.Ytdpmalegpjimfab
