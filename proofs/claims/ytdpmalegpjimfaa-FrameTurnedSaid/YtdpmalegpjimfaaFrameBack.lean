/- FrameBack. -/
import Derived.Test.YtdpmalegpjimfaaFrameLaws
import Derived.Deep.RegionHeld3
namespace Go.Proofs.Ytdpmalegpjimfaa
open Go.RowKit
open FrameMath (laid)

theorem joinF (A B : Option Addr) (p q r : List UInt8) (n m k c d : Nat) (w : World) (hp : RB w A c p) (hq : RB w B d q) (hn : n = p.length) (hm : m = q.length) (hk : k = p.length + q.length) (hr : p ++ q = r) (hl : p.length + q.length ≤ 281474976710656) :
    Calls Try.prog 19 #[.slice A n c, .slice B m d] w fun e w' => ∃ A' c', e = .returned (.slice A' k c') ∧ NewB w w' (.slice A' k c') r := by
  subst hn; subst hm; subst hr; subst hk
  have := join_bytes_calls A B p q c d w hp hq hl
  simp only [List.length_append] at this
  exact this
theorem fits_yes (A : Option Addr) (n c : Nat) (w : World) (h1 : 1 ≤ n) (h2 : n ≤ 65535) : Calls Try.prog 33 #[.slice A n c] w fun e w' => e = .returned (.bool true) ∧ w = w' := by
  go_enter Try.func33, Try.ntmps33
  go_wp2
  go_ret
  exact ⟨ret_bool (by simp; omega), rfl⟩
theorem fits_long (A : Option Addr) (n c : Nat) (w : World) (h2 : 65535 < n) : Calls Try.prog 33 #[.slice A n c] w fun e w' => e = .returned (.bool false) ∧ w = w' := by
  go_enter Try.func33, Try.ntmps33
  go_wp2
  go_ret
  exact ⟨ret_bool (by simp; omega), rfl⟩
theorem fits_none (A : Option Addr) (n c : Nat) (w : World) (h2 : n = 0) : Calls Try.prog 33 #[.slice A n c] w fun e w' => e = .returned (.bool false) ∧ w = w' := by
  subst h2
  go_enter Try.func33, Try.ntmps33
  go_wp2
  go_ret
  exact ⟨rfl, rfl⟩
/-- a payload that can't be framed -/
theorem made_none (place : Nat) (hpl : place ≤ 18446744073709551615) (A : Option Addr) (p : List UInt8) (n c : Nat) (E : Int) (e : Nat) (w : World) (hp : RB w A c p) (hn : n = p.length) (hl : p.length ≤ 140737488355328) (he : encF place p = ([], e)) (hE : E = e) :
    Calls Try.prog 27 #[.int .u64 place, .slice A n c] w fun e' w' => ∃ A' c', e' = .returned (.tuple #[.slice A' 0 c', .int .i64 E]) ∧ NewB w w' (.slice A' 0 c') [] := by
  subst hE
  have := made_calls place hpl A p n c w hp hn hl
  rw [he] at this
  exact this

set_option maxRecDepth 100000 in
theorem frameBack_calls (place : Nat) (hpl : place ≤ 18446744073709551615) (A B : Option Addr) (p t : List UInt8) (c d : Nat) (w : World) (hp : RB w A c p) (ht : RB w B d t) (hl : p.length ≤ 140737488355328) (hlt : t.length ≤ 140737488355328) :
    Calls Try.prog 9 #[.agg #[.int .u64 place, .slice A p.length c], .slice B t.length d] w fun e w' => e = .returned (.bool true) ∧ Below w.heap.size w w' := by
  have hk1 := Lib.hid (show (1 : Int) = ((1 : Nat) : Int) from rfl)
  have hk2 := Lib.hid (show (2 : Int) = ((2 : Nat) : Int) from rfl)
  have hk3 := Lib.hid (show (3 : Int) = ((3 : Nat) : Int) from rfl)
  have HF := Lib.hid (below_alloc1 (Below.refl w.heap.size w) (Nat.le_refl _) (.cells #[.int .u64 place, .slice A p.length c] 62))
  have HPR := Lib.hid (Pair.fresh w (.int .u64 place) (.slice A p.length c) 62)
  by_cases hfit : 1 ≤ p.length ∧ p.length ≤ 65535
  · obtain ⟨f1, f2⟩ := hfit
    have HX := Lib.hid (next_laid place p t hpl f1 f2)
    have HLL := Lib.hid (FrameMath.laid_length place p)
    generalize hld : laid place p = ld at *
    have HLD := Lib.hid hld
    clear hld
    go_enter Try.func9, Try.ntmps9
    go_wp2_with (first
      | (go_at_call 26; (with_reducible refine (fawake_calls _).mono ?_); rintro e0 w0 ⟨rfl, hb0⟩; have P0 := HPR.out.new hb0; have x0 := P0.c0; have x1 := P0.c1; have B0 := Lib.hid (below_then HF.out hb0).drew; have P0d := P0.new ((Below.refl _ _).drew)))
    go_region_held3 (fun w' => w'.cell? ⟨w.heap.size, 0, none⟩ = some (.int .u64 place) ∧ w'.cell? ⟨w.heap.size, 1, none⟩ = some (.slice A p.length c)) (go_keep) (first
      | (go_at_call 28; (with_reducible refine (twinR A p p.length c _ (hp.new B0.out) rfl hl).mono ?_); rintro e1 w1 ⟨A1, c1, rfl, hn1⟩; have P1 := P0d.new hn1.below; have y0 := P1.c0; have y1 := P1.c1; have B1 := Lib.hid (below_then B0.out hn1.below))
      | (go_at_call 27; (with_reducible refine (made_ok place place rfl hpl A1 p ld p.length (p.length + 18) c1 _ hn1.own.rb rfl f1 f2 rfl HLD.out).mono ?_); rintro e2 w2 ⟨A2, c2, rfl, hn2⟩; have P2 := P1.new hn2.below; have z0 := P2.c0; have z1 := P2.c1; have B2 := Lib.hid (below_then B1.out hn2.below)))
    go_wp2_with (first
      | (go_at_call 33; (with_reducible refine (fits_yes A p.length c _ f1 f2).mono ?_); rintro e9 w9 ⟨rfl, rfl⟩)
      | (go_at_call 19; (with_reducible refine (joinF A2 B ld t (ld ++ t) (p.length + 18) t.length (p.length + 18 + t.length) c2 d _ hn2.own.rb (ht.new B2.out) HLL.out.symm rfl (by rw [HLL.out]) rfl (by rw [HLL.out]; omega)).mono ?_); rintro e3 w3 ⟨A3, c3, rfl, hn3⟩; have P3 := P2.new hn3.below; have B3 := Lib.hid (below_then B2.out hn3.below))
      | (go_at_call 30; (with_reducible refine (nextN A3 (ld ++ t) (p.length + 18 + t.length) c3 0 (by decide) _ hn3.own.rb (by rw [List.length_append, HLL.out]) (by rw [List.length_append, HLL.out]; omega) 1 place p.length 1 place ((p.length : Int) + 18) p HX.out hk1.out rfl rfl).mono ?_); rintro e4 w4 ⟨A4, c4, rfl, hn4⟩; have P4 := P3.new hn4.below; have B4 := Lib.hid (below_then B3.out hn4.below); have P5 := P4.new (below_alloc1 (Below.refl _ w4) (Nat.le_refl _) (.cells #[.int .u64 place, .slice A4 p.length c4] 53)); have v0 := P5.c0; have v1 := P5.c1)
      | (go_at_call 32; (with_reducible refine (fsameN place place place place A4 A p p p.length p.length c4 c _ (hn4.own.rb.alloc _) (hp.new (B4.out.alloc B4.out.size (.cells #[.int .u64 place, .slice A4 p.length c4] 53))) rfl rfl true (by simp) rfl rfl).mono ?_); rintro e5 w5 ⟨rfl, hb5⟩))
    go_ret
    exact ⟨rfl, below_then (B4.out.alloc B4.out.size (.cells #[.int .u64 place, .slice A4 p.length c4] 53)) hb5⟩
  · by_cases hlong : 65535 < p.length
    · have HE := Lib.hid (show encF place p = ([], 2) by unfold encF; rw [if_pos hlong])
      have hz : ((p.length : Int) == 0) = false := by rw [beq_eq_false_iff_ne]; omega
      clear hfit
      go_enter Try.func9, Try.ntmps9
      go_wp2_with (first
        | (go_at_call 26; (with_reducible refine (fawake_calls _).mono ?_); rintro e0 w0 ⟨rfl, hb0⟩; have P0 := HPR.out.new hb0; have x0 := P0.c0; have x1 := P0.c1; have B0 := Lib.hid (below_then HF.out hb0).drew; have P0d := P0.new ((Below.refl _ _).drew)))
      go_region_held3 (fun w' => w'.cell? ⟨w.heap.size, 0, none⟩ = some (.int .u64 place) ∧ w'.cell? ⟨w.heap.size, 1, none⟩ = some (.slice A p.length c)) (go_keep) (first
        | (go_at_call 28; (with_reducible refine (twinR A p p.length c _ (hp.new B0.out) rfl hl).mono ?_); rintro e1 w1 ⟨A1, c1, rfl, hn1⟩; have P1 := P0d.new hn1.below; have y0 := P1.c0; have y1 := P1.c1; have B1 := Lib.hid (below_then B0.out hn1.below))
        | (go_at_call 27; (with_reducible refine (made_none place hpl A1 p p.length c1 2 2 _ hn1.own.rb rfl hl HE.out hk2.out).mono ?_); rintro e2 w2 ⟨A2, c2, rfl, hn2⟩; have P2 := P1.new hn2.below; have z0 := P2.c0; have z1 := P2.c1; have B2 := Lib.hid (below_then B1.out hn2.below)))
      go_wp2_with (go_at_call 33; (with_reducible refine (fits_long A p.length c _ hlong).mono ?_); rintro e9 w9 ⟨rfl, rfl⟩)
      go_ret
      exact ⟨rfl, B2.out⟩
    · have HE := Lib.hid (show encF place p = ([], 3) by unfold encF; rw [if_neg hlong, if_pos (by omega)])
      have HZ := Lib.hid (show p.length = 0 by omega)
      have hz : ((p.length : Int) == 0) = true := by rw [HZ.out]; rfl
      have hz2 : p.length ≤ 0 := by omega
      clear hlong
      clear hfit
      go_enter Try.func9, Try.ntmps9
      go_wp2_with (first
        | (go_at_call 26; (with_reducible refine (fawake_calls _).mono ?_); rintro e0 w0 ⟨rfl, hb0⟩; have P0 := HPR.out.new hb0; have x0 := P0.c0; have x1 := P0.c1; have B0 := Lib.hid (below_then HF.out hb0).drew; have P0d := P0.new ((Below.refl _ _).drew)))
      go_region_held3 (fun w' => w'.cell? ⟨w.heap.size, 0, none⟩ = some (.int .u64 place) ∧ w'.cell? ⟨w.heap.size, 1, none⟩ = some (.slice A p.length c)) (go_keep) (first
        | (go_at_call 28; (with_reducible refine (twinR A p p.length c _ (hp.new B0.out) rfl hl).mono ?_); rintro e1 w1 ⟨A1, c1, rfl, hn1⟩; have P1 := P0d.new hn1.below; have y0 := P1.c0; have y1 := P1.c1; have B1 := Lib.hid (below_then B0.out hn1.below))
        | (go_at_call 27; (with_reducible refine (made_none place hpl A1 p p.length c1 3 3 _ hn1.own.rb rfl hl HE.out hk3.out).mono ?_); rintro e2 w2 ⟨A2, c2, rfl, hn2⟩; have P2 := P1.new hn2.below; have z0 := P2.c0; have z1 := P2.c1; have B2 := Lib.hid (below_then B1.out hn2.below)))
      go_wp2_with (go_at_call 33; (with_reducible refine (fits_none A p.length c _ HZ.out).mono ?_); rintro e9 w9 ⟨rfl, rfl⟩)
      go_ret
      exact ⟨ret_bool (show (!decide (0 < p.length)) = true by rw [HZ.out]; rfl), B2.out⟩
theorem frameBack_row (a : Int) (h0 : 0 ≤ a) (h1 : a ≤ 18446744073709551615) (A B : Option Addr) (p t : List UInt8) (c d : Nat) (w : World) (hp : RB w A c p) (ht : RB w B d t) (hl : p.length ≤ 140737488355328) (hlt : t.length ≤ 140737488355328) :
    Calls Try.prog 9 #[.agg #[.int .u64 a, .slice A p.length c], .slice B t.length d] w fun e w' => e = .returned (.bool true) ∧ Below w.heap.size w w' := by
  obtain ⟨n, rfl⟩ := Int.eq_ofNat_of_zero_le h0
  exact frameBack_calls n (by omega) A B p t c d w hp ht hl hlt
end Go.Proofs.Ytdpmalegpjimfaa
