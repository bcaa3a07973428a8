/- The walk of notarylaw05.EntryEncodes. -/
import Derived.Test.YtelecdncdaepnaaAwake5
namespace Go.Proofs.Ytelecdncdaepnaa
open Go.RowKit
open WireMath (numS beN rawS blobS uvarS grpL uvarL wideL)

theorem encE_len (e : En) : (encE e).1.length ≤ 341 := by
  unfold encE
  split
  · rename_i h
    have h1 := chk_small e h
    have h2 := encL_length e
    show (encL e).length ≤ 341
    omega
  · simp
theorem encE_snd (e : En) : (encE e).2 = chkF e := by
  unfold encE
  split
  · rename_i h; exact h.symm
  · rfl
set_option maxRecDepth 100000 in
theorem one5_calls (e : En) (a : EnA) (n m : Nat) (hn : n = e.K.length) (hm : m = e.V.length) (w : World) (hok : EnOk w e a) (h1 : e.K.length ≤ 140737488355328) (h2 : e.V.length ≤ 140737488355328) :
    Calls Try.prog 14 #[.agg #[.int .u8 e.k, .slice a.KA n a.kc, .slice a.VA m a.vc]] w fun r w' => r = .returned (.bool true) ∧ Below w.heap.size w w' := by
  subst hn; subst hm
  have HB := Lib.hid (below_alloc1 (Below.refl w.heap.size w) (Nat.le_refl _) (.cells #[.int .u8 e.k, .slice a.KA e.K.length a.kc, .slice a.VA e.V.length a.vc] 26))
  have HT := Lib.hid (Trio.fresh w w.heap.size rfl (.int .u8 e.k) (.slice a.KA e.K.length a.kc) (.slice a.VA e.V.length a.vc) 26)
  have HOK := Lib.hid (hok.new HB.out)
  have hk := hok.k
  obtain ⟨r, hr⟩ : ∃ r, r = encE e := ⟨_, rfl⟩
  obtain ⟨c, hc⟩ : ∃ c : Nat, c = r.2 := ⟨_, rfl⟩
  obtain ⟨x, hx⟩ : ∃ x, x = r.1 := ⟨_, rfl⟩
  have HCC := Lib.hid (show ((chkF e : Nat) : Int) = c by rw [← encE_snd, hc, hr])
  have HR1 := Lib.hid (show (encE e).1 = x by rw [hx, hr])
  have HR2 := Lib.hid (show (encE e).2 = c by rw [hc, hr])
  have HE : ∀ (w : World) (A : EnA), EnOk w e A → Calls Try.prog 22 #[.agg #[.int .u8 e.k, .slice A.KA e.K.length A.kc, .slice A.VA e.V.length A.vc]] w fun r w' => ∃ A' c', r = .returned (.tuple #[.slice A' x.length c', .int .i64 c]) ∧ NewB w w' (.slice A' x.length c') x := fun w A h => by
    have := encodeE_calls e A _ _ rfl rfl w h
    rw [HR1.out, HR2.out] at this; exact this
  have HD : ∀ (w : World) (A : EnA), EnOk w e A → Calls Try.prog 44 #[.agg #[.int .u8 e.k, .slice A.KA e.K.length A.kc, .slice A.VA e.V.length A.vc]] w fun r w' => ∃ A' c', r = .returned (.tuple #[.slice A' x.length c', .int .i64 c]) ∧ NewB w w' (.slice A' x.length c') x := fun w A h => by
    have := docEncode_calls e A _ _ rfl rfl w h
    rw [HR1.out, HR2.out] at this; exact this
  have HE := Lib.hid HE
  have HD := Lib.hid HD
  have HXX := Lib.hid (beq_self_eq_true x)
  have hcc : ((c : Int) == c) = true := beq_self_eq_true _
  have x0 := HT.out.c0
  have x1 := HT.out.c1
  have x2 := HT.out.c2
  clear hr hc hx
  go_enter Try.func14, Try.ntmps14
  go_wp2_with (first
    | (go_at_call 23; ((with_reducible refine (twinEntry_calls e a _ _ rfl rfl _ HOK.out h1 h2).mono ?_)); rintro e3 w3 ⟨a3, rfl, hn3⟩; have T3 := HT.out.new hn3.below; have hz3 := T3.lt; have x0 := T3.c0; have x1 := T3.c1; have x2 := T3.c2; have B3 := Lib.hid (below_then HB.out hn3.below); have OK3 := Lib.hid (HOK.out.new hn3.below))
    | (go_at_call 37; go_loud ((with_reducible refine (checkN e _ _ _ _ _ _ _ rfl rfl c HCC.out).mono ?_)); rintro e4 w4 ⟨rfl, hb4⟩; have T4 := T3.new hb4; have hz4 := T4.lt; have x0 := T4.c0; have x1 := T4.c1; have x2 := T4.c2; have B4 := Lib.hid (below_then B3.out hb4); have OK4 := Lib.hid (OK3.out.new hb4))
    | (go_at_call 23; ((with_reducible refine (twinEntry_calls e a _ _ rfl rfl _ OK4.out h1 h2).mono ?_)); rintro e5 w5 ⟨a5, rfl, hn5⟩; have T5 := T4.new hn5.below; have hz5 := T5.lt; have B5 := Lib.hid (below_then B4.out hn5.below); have OK5 := Lib.hid (OK4.out.new hn5.below))
    | (go_at_call 22; go_loud ((with_reducible refine (HE.out _ a5 (hn5.ok hk)).mono ?_)); rintro e6 w6 ⟨A6, c6, rfl, hn6⟩; have T6 := T5.new hn6.below; have hz6 := T6.lt; have x0 := T6.c0; have x1 := T6.c1; have x2 := T6.c2; have B6 := Lib.hid (below_then B5.out hn6.below); have OK6 := Lib.hid (OK5.out.new hn6.below))
    | (go_at_call 44; go_loud ((with_reducible refine (HD.out _ a OK6.out).mono ?_)); rintro e7 w7 ⟨A7, c7, rfl, hn7⟩; have B7 := Lib.hid (below_then B6.out hn7.below))
    | (go_at_call 19; go_loud ((with_reducible refine (sameR A6 A7 x x _ _ c6 c7 _ (hn6.own.rb.new hn7.below) hn7.own.rb rfl rfl true HXX.out).mono ?_)); rintro e8 w8 ⟨rfl, hd8⟩))
  go_ret
  exact ⟨rfl, below_then B7.out (hd8.below _)⟩
set_option maxRecDepth 100000 in
theorem entryEncodes_calls (A : Option Addr) (es : List EnX) (n c : Nat) (w : World) (h : Ents w A es) (hn : n = es.length) (hl : n ≤ 9223372036854775807) (hs : ∀ x ∈ es, x.1.K.length ≤ 140737488351232 ∧ x.1.V.length ≤ 140737488351232) :
    Calls Try.prog 3 #[.slice A n c] w fun r w' => r = .returned (.bool true) ∧ Below w.heap.size w w' := by
  have HN := Lib.hid hn
  clear hn
  go_enter Try.func3, Try.ntmps3
  go_wp2_with (go_at_call 13; (with_reducible refine (awake5_calls _).mono ?_); rintro e1 w1 ⟨rfl, hb1⟩)
  go_loopw [4, 9] (fun _ iv wr => ∃ j : Nat, j ≤ n ∧ iv = .int .i64 j ∧ Below w.heap.size w wr) (fun _ iv _ => n - (intOf iv).toNat)
  case atStart => exact ⟨0, Nat.zero_le _, rfl, hb1⟩
  case round =>
    obtain ⟨j, hj, rfl, HBB⟩ := hrel
    by_cases hlt : j < n
    · obtain ⟨a, o, x, rfl, ho, hmem, hok, k0, k1, k2⟩ := (h.new HBB).at_ j (by rw [← HN.out]; exact hlt)
      obtain ⟨s1, s2⟩ := hs _ hmem
      have HB5 := Lib.hid (belowA HBB (.cells #[.int .u8 o.k, .slice x.KA o.K.length x.kc, .slice x.VA o.V.length x.vc] 26))
      clear ho
      go_wp2_with (go_at_call 14; (with_reducible refine (one5_calls o x _ _ rfl rfl _ (hok.new (below_alloc1 (Below.refl _ _) (Nat.le_refl _) _)) (Nat.le_trans s1 (by decide)) (Nat.le_trans s2 (by decide))).mono ?_); rintro e5 w5 ⟨rfl, hb5⟩)
      go_roundw
      case rel => exact ⟨j + 1, by omega, by go_num, below_then HB5.out hb5⟩
      case measure => simp [intOf]; omega
    · obtain rfl : j = n := by omega
      clear hlt
      go_wp2
      go_ret
      exact ⟨rfl, HBB⟩
end Go.Proofs.Ytelecdncdaepnaa
