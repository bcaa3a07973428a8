/- Layer 5: the document's DocDecodeRoot. -/
import Derived.Test.YtelecdncdaepnaaRootTake
namespace Go.Proofs.Ytelecdncdaepnaa
open Go.RowKit
open WireMath (numS beN rawS blobS uvarS grpL uvarL wideL)

theorem takeRootE (k : Nat) (hk : k ≤ 32) (A : Option Addr) (P : List UInt8) (c : Nat) (w : World) (hp : RB w A c P) (hl : P.length ≤ 140737488355328) (v a1 e1 : Nat) (p : List UInt8) (a2 e2 : Nat) (q : List UInt8) (a3 e3 : Nat) (hS : RtS P k v a1 e1 p a2 e2 q a3 e3) :
    Calls Try.prog 85 #[.int .i64 k, .agg #[.slice A P.length c, .int .i64 0, .int .i64 0]] w fun r w' => r = .returned (.tuple #[.agg (rtL ⟨v, padR p, padR q⟩).toArray, .agg #[.slice A P.length c, .int .i64 a3, .int .i64 e3]]) ∧ Below w.heap.size w w' := takeRoot_calls k hk A P c w hp hl v a1 e1 p a2 e2 q a3 e3 hS
set_option maxHeartbeats 1000000 in
set_option maxRecDepth 100000 in
theorem docDecodeRoot_ok (k : Nat) (hk0 : 1 ≤ k) (hk : k ≤ 32) (A : Option Addr) (P : List UInt8) (n c : Nat) (w : World) (hp : RB w A c P) (hn : n = P.length) (hl : P.length ≤ 140737488355328) (v a1 e1 : Nat) (p : List UInt8) (a2 e2 : Nat) (q : List UInt8) (a3 e3 : Nat) (hS : RtS P k v a1 e1 p a2 e2 q a3 e3) (d : Nat) (hd : doneE P a3 e3 = d) (hd3 : d = 0 ∨ d = 3) (X : Rt) (E : Int) (hX : X = if d = 0 then ⟨v, padR p, padR q⟩ else zeroR) (hE : E = d) :
    Calls Try.prog 36 #[.int .i64 k, .slice A n c] w fun e w' => e = .returned (.tuple #[.agg (rtL X).toArray, .int .i64 E]) ∧ Below w.heap.size w w' := by
  subst hn
  have HW := Lib.hid (show decide (1 ≤ (k : Int) ∧ (k : Int) ≤ 32) = true from decide_eq_true (by omega))
  have hpl : p.length ≤ 32 := by have := raw_len P a1 e1 k; rw [hS.s2] at this; simp only at this; omega
  have hql : q.length ≤ 32 := by have := raw_len P a2 e2 k; rw [hS.s3] at this; simp only at this; omega
  have hat1 : a1 ≤ P.length := by have := num_le P 0 0 8 (Nat.zero_le _); rw [hS.s1] at this; exact this
  have hat2 : a2 ≤ P.length := by have := raw_le P a1 e1 k hat1; rw [hS.s2] at this; exact this
  have hat3 : a3 ≤ P.length := by have := raw_le P a2 e2 k hat2; rw [hS.s3] at this; exact this
  have HOK := Lib.hid (show RtOk ⟨v, padR p, padR q⟩ from ⟨numS_top P v a1 e1 hS.s1, padR_length p hpl, padR_length q hql⟩)
  have HS := Lib.hid hS
  have HD := Lib.hid hd
  have HX := Lib.hid hX
  have HE := Lib.hid hE
  have R0 := Lib.hid (Row.fresh w w.heap.size rfl 63 (rtL zeroR) _ zeroCellsR)
  have B0 := Lib.hid (below_alloc1 (Below.refl w.heap.size w) (Nat.le_refl _) (.cells Try.zeroCells63 63))
  have nw : ∀ (w : World) (o : Obj), Below w.heap.size w (w.alloc o) := fun w o => below_alloc1 (Below.refl _ _) (Nat.le_refl _) o
  clear hS hd hX hE
  rcases hd3 with rfl | rfl
  · have HX := Lib.hid (HX.out.trans (if_pos rfl))
    go_enter Try.func36, Try.ntmps36
    go_wp2_with (first
      | (go_at_call 80; (with_reducible refine (docWideN _ _ true HW.out).mono ?_); rintro e1 w1 ⟨rfl, rfl⟩)
      | (go_at_call 85; (with_reducible refine (takeRootE k hk A P c _ (hp.new B0.out) hl v a1 e1 p a2 e2 q a3 e3 HS.out).mono ?_); rintro s1 w1 ⟨rfl, hb1⟩; have R01 := Lib.hid (((R0.out.new hb1).alloc (.cells Try.zeroCells63 63)).alloc (.cells #[.slice none 0 0, .int .i64 0, .int .i64 0] 105)); have B1 := Lib.hid (belowA (belowA (below_then B0.out hb1) (.cells Try.zeroCells63 63)) (.cells #[.slice none 0 0, .int .i64 0, .int .i64 0] 105)); have R6 := Lib.hid ((Row.fresh w1 w1.heap.size rfl 63 (rtL zeroR) _ zeroCellsR).alloc (.cells #[.slice none 0 0, .int .i64 0, .int .i64 0] 105)); have T7 := Lib.hid (Trio.fresh (w1.alloc (.cells Try.zeroCells63 63)) (w1.heap.size + 1) (szA _ _) (.slice none 0 0) (.int .i64 0) (.int .i64 0) 105))
      | (refine wp_op_is (.store 63 (.tmp 6) (.tmp 18)) rfl ?_; refine wp_store_part rfl 63 _ _ rfl w1.heap.size 0 _ rfl rfl _ _ (by exact R6.out.out) (sizeR _ HOK.out) (Nat.le_of_eq (by rw [List.size_toArray, List.size_toArray, rtL_length _ HOK.out, rtL_length _ zeroR_ok])) (rtL_one _) ?_; have hz : w.heap.size < w1.heap.size := by { have h1 := hb1.size; simp only [szA] at h1; omega }; have G2 := row_grown ((w1.alloc (.cells Try.zeroCells63 63)).alloc (.cells #[.slice none 0 0, .int .i64 0, .int .i64 0] 105)) w1.heap.size (splice (rtL zeroR).toArray.toList 0 (rtL ⟨v, padR p, padR q⟩).toArray.toList).toArray; have R62 := Lib.hid (R6.out.put 0 (rtL ⟨v, padR p, padR q⟩).toArray.toList (rtL ⟨v, padR p, padR q⟩) (splice_all _ _ ((rtL_length _ zeroR_ok).trans (rtL_length _ HOK.out).symm))); have R02 := Lib.hid (R01.out.grown G2 (by omega)); have T72 := Lib.hid (T7.out.grown G2 (by omega)); have B2 := Lib.hid (grown_below B1.out G2 B1.out.size (by omega)); have xa0 := T72.out.c0; have xa1 := T72.out.c1; have xa2 := T72.out.c2; have xb0 := T72.out.fz 0; have xb1 := T72.out.fz 1; have xb2 := T72.out.fz 2; have T73 := Lib.hid (T72.out.put (.slice A P.length c) (.int .i64 a3) (.int .i64 e3)); have xc0 := T73.out.c0; have xc1 := T73.out.c1; have xc2 := T73.out.c2; have G3 := fun W => grown3 W (w1.heap.size + 1) (.slice A P.length c) (.int .i64 a3) (.int .i64 e3); have R63 := Lib.hid (R62.out.grown (G3 _) (by omega)); have R03 := Lib.hid (R02.out.grown (G3 _) (by omega)); have B3 := Lib.hid (grown_below B2.out (G3 _) B2.out.size (by omega)))
      | (go_at_call 72; (with_reducible refine (rdoneN A P P.length c a3 e3 _ rfl hat3 0 HD.out).mono ?_); rintro s4 w4 ⟨rfl, hb4⟩; have R64 := Lib.hid (R63.out.new hb4); have R04 := Lib.hid (R03.out.new hb4); have B4 := Lib.hid (below_then B3.out hb4))
      | (refine wp_op_is (.load 63 (.tmp 6)) rfl ?_; refine wp_load_part rfl 63 _ rfl _ rfl (rtL ⟨v, padR p, padR q⟩).toArray (R64.out.part [] [] (rtL ⟨v, padR p, padR q⟩) (by simp) 0 rfl _ rfl) _ Try.underlying63 rfl (sizeR _ HOK.out) ?_)
      | (refine wp_op_is (.store 63 (.tmp 4) (.tmp 26)) rfl ?_; refine wp_store_part rfl 63 _ _ rfl w.heap.size 0 _ rfl rfl _ _ (by exact R04.out.out) (sizeR _ HOK.out) (Nat.le_of_eq (by rw [List.size_toArray, List.size_toArray, rtL_length _ HOK.out, rtL_length _ zeroR_ok])) (rtL_one _) ?_))
    rw [splice_all _ _ ((rtL_length _ zeroR_ok).trans (rtL_length _ HOK.out).symm)]
    exact bodyPost_ret (results_rt rfl _ _ w.heap.size 63 ⟨v, padR p, padR q⟩ rfl ⟨⟨setRow_heap _ _ _ _ _ _ R04.out.out⟩, HOK.out⟩) rfl ⟨by rw [HX.out, HE.out]; rfl, below_setRow B4.out (by omega) _⟩
  · have HX := Lib.hid (HX.out.trans (if_neg (by omega)))
    go_enter Try.func36, Try.ntmps36
    go_wp2_with (first
      | (go_at_call 80; (with_reducible refine (docWideN _ _ true HW.out).mono ?_); rintro e1 w1 ⟨rfl, rfl⟩)
      | (go_at_call 85; (with_reducible refine (takeRootE k hk A P c _ (hp.new B0.out) hl v a1 e1 p a2 e2 q a3 e3 HS.out).mono ?_); rintro s1 w1 ⟨rfl, hb1⟩; have R01 := Lib.hid (((R0.out.new hb1).alloc (.cells Try.zeroCells63 63)).alloc (.cells #[.slice none 0 0, .int .i64 0, .int .i64 0] 105)); have B1 := Lib.hid (belowA (belowA (below_then B0.out hb1) (.cells Try.zeroCells63 63)) (.cells #[.slice none 0 0, .int .i64 0, .int .i64 0] 105)); have R6 := Lib.hid ((Row.fresh w1 w1.heap.size rfl 63 (rtL zeroR) _ zeroCellsR).alloc (.cells #[.slice none 0 0, .int .i64 0, .int .i64 0] 105)); have T7 := Lib.hid (Trio.fresh (w1.alloc (.cells Try.zeroCells63 63)) (w1.heap.size + 1) (szA _ _) (.slice none 0 0) (.int .i64 0) (.int .i64 0) 105))
      | (refine wp_op_is (.store 63 (.tmp 6) (.tmp 18)) rfl ?_; refine wp_store_part rfl 63 _ _ rfl w1.heap.size 0 _ rfl rfl _ _ (by exact R6.out.out) (sizeR _ HOK.out) (Nat.le_of_eq (by rw [List.size_toArray, List.size_toArray, rtL_length _ HOK.out, rtL_length _ zeroR_ok])) (rtL_one _) ?_; have hz : w.heap.size < w1.heap.size := by { have h1 := hb1.size; simp only [szA] at h1; omega }; have G2 := row_grown ((w1.alloc (.cells Try.zeroCells63 63)).alloc (.cells #[.slice none 0 0, .int .i64 0, .int .i64 0] 105)) w1.heap.size (splice (rtL zeroR).toArray.toList 0 (rtL ⟨v, padR p, padR q⟩).toArray.toList).toArray; have R62 := Lib.hid (R6.out.put 0 (rtL ⟨v, padR p, padR q⟩).toArray.toList (rtL ⟨v, padR p, padR q⟩) (splice_all _ _ ((rtL_length _ zeroR_ok).trans (rtL_length _ HOK.out).symm))); have R02 := Lib.hid (R01.out.grown G2 (by omega)); have T72 := Lib.hid (T7.out.grown G2 (by omega)); have B2 := Lib.hid (grown_below B1.out G2 B1.out.size (by omega)); have xa0 := T72.out.c0; have xa1 := T72.out.c1; have xa2 := T72.out.c2; have xb0 := T72.out.fz 0; have xb1 := T72.out.fz 1; have xb2 := T72.out.fz 2; have T73 := Lib.hid (T72.out.put (.slice A P.length c) (.int .i64 a3) (.int .i64 e3)); have xc0 := T73.out.c0; have xc1 := T73.out.c1; have xc2 := T73.out.c2; have G3 := fun W => grown3 W (w1.heap.size + 1) (.slice A P.length c) (.int .i64 a3) (.int .i64 e3); have R63 := Lib.hid (R62.out.grown (G3 _) (by omega)); have R03 := Lib.hid (R02.out.grown (G3 _) (by omega)); have B3 := Lib.hid (grown_below B2.out (G3 _) B2.out.size (by omega)))
      | (go_at_call 72; (with_reducible refine (rdoneN A P P.length c a3 e3 _ rfl hat3 3 HD.out).mono ?_); rintro s4 w4 ⟨rfl, hb4⟩; have R64 := Lib.hid (R63.out.new hb4); have R04 := Lib.hid (R03.out.new hb4); have B4 := Lib.hid (below_then B3.out hb4))
      | (refine wp_op_is (.store 63 (.tmp 4) (.tmp 24)) rfl ?_; refine wp_store_part rfl 63 _ _ rfl w.heap.size 0 Try.zeroCells63 rfl rfl _ _ (by exact R04.out.out) (by rw [zeroCellsR]; exact sizeR _ zeroR_ok) (by rw [zeroCellsR, List.size_toArray, rtL_length _ zeroR_ok]; omega) (by rw [zeroCellsR]; exact rtL_one _) ?_))
    rw [zeroCellsR, splice_all _ _ rfl]
    exact bodyPost_ret (results_rt rfl _ _ w.heap.size 63 zeroR rfl ⟨⟨setRow_heap _ _ _ _ _ _ R04.out.out⟩, zeroR_ok⟩) rfl ⟨by rw [HX.out, HE.out]; rfl, below_setRow B4.out (by omega) _⟩
set_option maxRecDepth 100000 in
theorem docDecodeRoot_wide (m : Int) (hw : wideF m = 1) (A : Option Addr) (n c : Nat) (w : World) :
    Calls Try.prog 36 #[.int .i64 m, .slice A n c] w fun e w' => e = .returned (.tuple #[.agg (rtL zeroR).toArray, .int .i64 1]) ∧ Below w.heap.size w w' := by
  have HW := Lib.hid (show decide (1 ≤ m ∧ m ≤ 32) = false from decide_eq_false (by unfold wideF at hw; split at hw <;> omega))
  have R0 := Lib.hid (Row.fresh w w.heap.size rfl 63 (rtL zeroR) _ zeroCellsR)
  have B0 := Lib.hid (below_alloc1 (Below.refl w.heap.size w) (Nat.le_refl _) (.cells Try.zeroCells63 63))
  clear hw
  go_enter Try.func36, Try.ntmps36
  go_wp2_with (first
    | (go_at_call 80; (with_reducible refine (docWideN _ _ false HW.out).mono ?_); rintro e1 w1 ⟨rfl, rfl⟩)
    | (refine wp_op_is (.store 63 (.tmp 4) (.tmp 12)) rfl ?_; refine wp_store_part rfl 63 _ _ rfl w.heap.size 0 Try.zeroCells63 rfl rfl _ _ R0.out.out (by rw [zeroCellsR]; exact sizeR _ zeroR_ok) (by rw [zeroCellsR, List.size_toArray, rtL_length _ zeroR_ok]; omega) (by rw [zeroCellsR]; exact rtL_one _) ?_))
  rw [zeroCellsR, splice_all _ _ rfl]
  exact bodyPost_ret (results_rt rfl _ _ w.heap.size 63 zeroR rfl ⟨⟨setRow_heap _ _ _ _ _ _ R0.out.out⟩, zeroR_ok⟩) rfl ⟨rfl, below_setRow B0.out (by omega) _⟩
/-- the document's DocDecodeRoot -/
theorem docDecodeRoot_calls (m : Int) (A : Option Addr) (P : List UInt8) (n c : Nat) (w : World) (hp : RB w A c P) (hn : n = P.length) (hl : P.length ≤ 140737488355328) (e : Nat) (X : Rt) (hX : decR m P = (e, X)) :
    Calls Try.prog 36 #[.int .i64 m, .slice A n c] w fun r w' => r = .returned (.tuple #[.agg (rtL X).toArray, .int .i64 e]) ∧ Below w.heap.size w w' := by
  unfold decR at hX
  by_cases hw : wideF m = 0
  · rw [if_neg (by omega)] at hX
    have hk : 1 ≤ m ∧ m ≤ 32 := by unfold wideF at hw; split at hw <;> omega
    obtain ⟨k, rfl⟩ := Int.eq_ofNat_of_zero_le (show 0 ≤ m by omega)
    rw [Int.toNat_natCast] at hX
    by_cases h : P.length = 8 + 2 * k
    · rw [if_pos h] at hX
      injection hX with h1 h2
      subst h1 h2
      exact docDecodeRoot_ok k (by omega) (by omega) A P n c w hp hn hl _ _ _ _ _ _ _ _ _ (rtS_yes P k h) 0 (by unfold doneE; rw [if_pos (.inr (by omega))]) (.inl rfl) _ _ rfl rfl
    · rw [if_neg h] at hX
      injection hX with h1 h2
      subst h1 h2
      obtain ⟨v, a1, e1, p, a2, e2, q, a3, e3, hS⟩ := rtS_of P k
      exact docDecodeRoot_ok k (by omega) (by omega) A P n c w hp hn hl _ _ _ _ _ _ _ _ _ hS 3 (rtS_no P k _ _ _ _ _ _ _ _ _ (by omega) hS h) (.inr rfl) _ _ rfl rfl
  · have h1 : wideF m = 1 := by unfold wideF at hw ⊢; split at hw <;> simp_all
    rw [if_pos hw] at hX
    injection hX with h2 h3
    subst h2 h3
    exact docDecodeRoot_wide m h1 A n c w
/-- the document's DocEncodeRoot answers as EncodeRoot -/
theorem decR_ok (m : Int) (P : List UInt8) : RtOk (decR m P).2 := by
  unfold decR
  split
  · exact zeroR_ok
  · split
    · rename_i h1 h2
      have hk : 1 ≤ m ∧ m ≤ 32 := by unfold wideF at h1; split at h1 <;> omega
      refine ⟨?_, padR_length _ (by rw [List.length_take]; omega), padR_length _ (by rw [List.length_take]; omega)⟩
      have h9 := WireMath.beN_lt (P.take 8) 8 (List.length_take_le _ _)
      show beN (P.take 8) ≤ _
      omega
    · exact zeroR_ok
end Go.Proofs.Ytelecdncdaepnaa
