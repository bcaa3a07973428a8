/- The walk of notarylaw05.EntryBack. -/
import Derived.Test.YtelecdncdaepnaaEntryRoots
import Derived.Test.YtelecdncdaepnaaEntryDecodes
import Derived.Test.YtelecdncdaepnaaEntryMath2
import Derived.Test.YtelecdncdaepnaaRootMath
namespace Go.Proofs.Ytelecdncdaepnaa
open Go.RowKit
open WireMath (numS beN rawS blobS uvarS grpL uvarL wideL)

theorem encEN (e : En) (a : EnA) (n m : Nat) (hn : n = e.K.length) (hm : m = e.V.length) (w : World) (hok : EnOk w e a) (q : List UInt8) (g : Nat) (hq : encE e = (q, g)) :
    Calls Try.prog 22 #[.agg #[.int .u8 e.k, .slice a.KA n a.kc, .slice a.VA m a.vc]] w fun r w' => ∃ A' c', r = .returned (.tuple #[.slice A' q.length c', .int .i64 g]) ∧ NewB w w' (.slice A' q.length c') q := by
  have := encodeE_calls e a n m hn hm w hok
  rw [hq] at this; exact this
theorem decEN (A : Option Addr) (P : List UInt8) (n c : Nat) (w : World) (hp : RB w A c P) (hn : n = P.length) (hl : P.length ≤ 140737488355328) (f : Nat) (v : En) (hv : decF P = (f, v)) :
    Calls Try.prog 24 #[.slice A n c] w fun r w' => ∃ a : EnA, r = .returned (.tuple #[.agg #[.int .u8 v.k, .slice a.KA v.K.length a.kc, .slice a.VA v.V.length a.vc], .int .i64 f]) ∧ NewE w w' v a := by
  have := decodeE_calls A P n c w hp hn hl
  rw [hv] at this; exact this
theorem decBN (A : Option Addr) (P : List UInt8) (n c : Nat) (w : World) (hp : RB w A c P) (hn : n = P.length) (hl : P.length ≤ 140737488355328) (e f : Nat) (l : List En) (ht : decB P = ⟨e, f, l⟩) :
    Calls Try.prog 21 #[.slice A n c] w fun r w' => ∃ A' c', r = .returned (.tuple #[.agg #[.int .u64 f, .slice A' l.length c'], .int .i64 e]) ∧ BatAt w w' A' l.length l := decodeB_calls A P n c w hp hn hl _ ht
set_option maxHeartbeats 8000000 in
set_option maxRecDepth 100000 in
theorem entryBack_calls (A : Option Addr) (P : List UInt8) (n c : Nat) (m : Int) (w : World) (hp : RB w A c P) (hn : n = P.length) (hl : P.length ≤ 140737488351232) :
    Calls Try.prog 10 #[.slice A n c, .int .i64 m] w fun r w' => r = .returned (.bool true) ∧ Below w.heap.size w w' := by
  subst hn
  have hl1 : P.length ≤ 140737488355328 := by omega
  have hk := decF_k P
  obtain ⟨f, v, hv⟩ : ∃ f v, decF P = (f, v) := ⟨_, _, rfl⟩
  rw [hv] at hk
  obtain ⟨q, g, hq⟩ : ∃ q g, encE v = (q, g) := ⟨_, _, rfl⟩
  have hA : f = 0 → g = 0 ∧ P = q := by
    rintro rfl
    have := decF_back P v hv
    rw [hq] at this
    injection this with h1 h2
    exact ⟨h2, h1.symm⟩
  obtain ⟨te, tf, tl, ht⟩ : ∃ te tf tl, decB P = ⟨te, tf, tl⟩ := ⟨_, _, _, rfl⟩
  have htf : tf ≤ 18446744073709551615 := by have := decB_f P; rw [ht] at this; exact this
  have htl : tl.length ≤ 9223372036854775807 := by have := Bat.len P; rw [ht] at this; simp only at this; omega
  obtain ⟨bq, bg, hb⟩ : ∃ bq bg, encBF tf tl = (bq, bg) := ⟨_, _, rfl⟩
  have hB : te = 0 → bg = 0 ∧ P = bq := by
    rintro rfl
    have := decB_back P tf tl ht
    rw [hb] at this
    injection this with h1 h2
    exact ⟨h2, h1.symm⟩
  obtain ⟨de, X, hX⟩ : ∃ de X, decR m P = (de, X) := ⟨_, _, rfl⟩
  have hXo : RtOk X := by have := decR_ok m P; rw [hX] at this; exact this
  obtain ⟨rq, rg, hr⟩ : ∃ rq rg, encR m X = (rq, rg) := ⟨_, _, rfl⟩
  have hC : de = 0 → rg = 0 ∧ P = rq := by
    rintro rfl
    have := decR_back m P X hX
    rw [hr] at this
    injection this with h1 h2
    exact ⟨h2, h1.symm⟩
  have HV := Lib.hid hv
  have HQ := Lib.hid hq
  have HT := Lib.hid ht
  have HBQ := Lib.hid hb
  have HX := Lib.hid hX
  have HXO := Lib.hid hXo
  have HR := Lib.hid hr
  have HTF := Lib.hid htf
  have HTL := Lib.hid htl
  have HPP := Lib.hid (show (P == P) = true from beq_self_eq_true _)
  clear hv hq ht hb hX hXo hr htf htl
  have hA2 : (f = 0 ∧ g = 0 ∧ P = q) ∨ ((f : Int) == 0) = false := by
    by_cases h : f = 0
    · exact .inl ⟨h, hA h⟩
    · exact .inr (by rw [beq_eq_false_iff_ne]; omega)
  have hB2 : (te = 0 ∧ bg = 0 ∧ P = bq) ∨ ((te : Int) == 0) = false := by
    by_cases h : te = 0
    · exact .inl ⟨h, hB h⟩
    · exact .inr (by rw [beq_eq_false_iff_ne]; omega)
  have hC2 : (de = 0 ∧ rg = 0 ∧ P = rq) ∨ ((de : Int) != 0) = true := by
    by_cases h : de = 0
    · exact .inl ⟨h, hC h⟩
    · exact .inr (by rw [bne_iff_ne]; omega)
  clear hA hB hC
  rcases hA2 with ⟨rfl, rfl, rfl⟩ | hA2 <;> rcases hB2 with ⟨rfl, rfl, rfl⟩ | hB2 <;> rcases hC2 with ⟨rfl, rfl, rfl⟩ | hC2
  all_goals
    go_enter Try.func10, Try.ntmps10
    go_wp2_with (first
      | (go_at_call 13; (with_reducible refine (awake5_calls _).mono ?_); rintro r0 w0 ⟨rfl, hb0⟩; have st0 := trivial)
      | (go_at_call 20; have st := st0; clear st st0; (with_reducible refine (twinR A P _ c _ (hp.new hb0) rfl hl1).mono ?_); rintro r1 w1 ⟨A1, c1, rfl, hn1⟩; have B1 := Lib.hid (below_then hb0 hn1.below))
      | (go_at_call 24; (with_reducible refine (decEN A1 P _ c1 _ hn1.own.rb rfl hl1 _ v HV.out).mono ?_); rintro r2 w2 ⟨a2, rfl, hn2⟩; have B2 := Lib.hid (belowA (below_then B1.out hn2.below) (.cells #[.int .u8 v.k, .slice a2.KA v.K.length a2.kc, .slice a2.VA v.V.length a2.vc] 26)); have O2 := Lib.hid ((hn2.ok hk).new (below_alloc1 (Below.refl _ _) (Nat.le_refl _) (.cells #[.int .u8 v.k, .slice a2.KA v.K.length a2.kc, .slice a2.VA v.V.length a2.vc] 26))))
      | (go_at_call 22; (with_reducible refine (encEN v a2 _ _ rfl rfl _ O2.out _ _ HQ.out).mono ?_); rintro r3 w3 ⟨A3, c3, rfl, hn3⟩; have B3 := Lib.hid (below_then B2.out hn3.below); have st3 := trivial; have B4 := B3)
      | (go_at_call 19; have st := st3; (with_reducible refine (sameR A A3 P P _ _ c c3 _ (hp.new B3.out) hn3.own.rb rfl rfl true HPP.out).mono ?_); rintro r4 w4 ⟨rfl, hd4⟩; clear st; have B4 := Lib.hid (below_then B3.out (hd4.below _)))
      | (go_at_call 20; have st := st3; clear st st3; (with_reducible refine (twinR A P _ c _ (hp.new B4.out) rfl hl1).mono ?_); rintro r5 w5 ⟨A5, c5, rfl, hn5⟩; have B5 := Lib.hid (below_then B4.out hn5.below))
      | (go_at_call 21; (with_reducible refine (decBN A5 P _ c5 _ hn5.own.rb rfl hl1 _ tf tl HT.out).mono ?_); rintro r6 w6 ⟨A6, c6, rfl, hn6⟩; obtain ⟨⟨es6, he6, hl6, ho6⟩, hb6⟩ := hn6; have HL6 := Lib.hid hl6; clear hl6; have B6 := Lib.hid (belowA (below_then B5.out hb6) (.cells #[.int .u64 tf, .slice A6 tl.length c6] 34)); have O6 := Lib.hid (ho6.new (below_alloc1 (Below.refl _ _) (Nat.le_refl _) (.cells #[.int .u64 tf, .slice A6 tl.length c6] 34))); have HBE := HBQ; rw [← he6] at HBE; clear he6 ho6)
      | (go_at_call 16; (with_reducible refine (encB_calls tf _ rfl HTF.out A6 _ c6 es6 _ O6.out HL6.out HTL.out _ _ HBE.out).mono ?_); rintro r7 w7 ⟨A7, c7, rfl, hn7⟩; have B7 := Lib.hid (below_then B6.out hn7.below); have st7 := trivial; have B8 := B7)
      | (go_at_call 19; have st := st7; (with_reducible refine (sameR A A7 P P _ _ c c7 _ (hp.new B7.out) hn7.own.rb rfl rfl true HPP.out).mono ?_); rintro r8 w8 ⟨rfl, hd8⟩; clear st; have B8 := Lib.hid (below_then B7.out (hd8.below _)))
      | (go_at_call 20; have st := st7; clear st st7; (with_reducible refine (twinR A P _ c _ (hp.new B8.out) rfl hl1).mono ?_); rintro r9 w9 ⟨A9, c9, rfl, hn9⟩; have B9 := Lib.hid (below_then B8.out hn9.below))
      | (go_at_call 35; (with_reducible refine (decodeRoot_calls m A9 P _ c9 _ hn9.own.rb rfl hl1 _ X HX.out).mono ?_); rintro r10 wa ⟨rfl, hba⟩; have Ba := Lib.hid (belowA (below_then B9.out hba) (.cells Try.zeroCells63 63)); have Ra := Lib.hid (Row.fresh wa wa.heap.size rfl 63 (rtL zeroR) _ zeroCellsR); have hza : w.heap.size ≤ wa.heap.size := (below_then B9.out hba).size)
      | (refine wp_op_is (.store 63 (.tmp 10) (.tmp 64)) rfl ?_; refine wp_store_part rfl 63 _ _ rfl wa.heap.size 0 _ rfl rfl _ _ (by exact Ra.out.out) (sizeR _ HXO.out) (Nat.le_of_eq (by rw [List.size_toArray, List.size_toArray, rtL_length _ HXO.out, rtL_length _ zeroR_ok])) (rtL_one _) ?_; have Gb := row_grown (wa.alloc (.cells Try.zeroCells63 63)) wa.heap.size (splice (rtL zeroR).toArray.toList 0 (rtL X).toArray.toList).toArray; have Rb := Lib.hid (Ra.out.put 0 (rtL X).toArray.toList (rtL X) (splice_all _ _ ((rtL_length _ zeroR_ok).trans (rtL_length _ HXO.out).symm))); have Bb := Lib.hid (grown_below Ba.out Gb Ba.out.size hza))
      | (refine wp_op_is (.load 63 (.tmp 10)) rfl ?_; refine wp_load_part rfl 63 _ rfl _ rfl (rtL X).toArray (Rb.out.part [] [] (rtL X) (by simp) 0 rfl _ rfl) _ Try.underlying63 rfl (sizeR _ HXO.out) ?_)
      | (go_at_call 33; (with_reducible refine (encodeRootN m X HXO.out _ _ _ HR.out _ rfl).mono ?_); rintro r11 wb ⟨Ac, cc, rfl, hnc⟩; have Bc := Lib.hid (below_then Bb.out hnc.below); have Bd := Bc)
      | (go_at_call 19; (with_reducible refine (sameR A Ac P P _ _ c cc _ (hp.new Bc.out) hnc.own.rb rfl rfl true HPP.out).mono ?_); rintro r12 wd ⟨rfl, hdd⟩; have Bd := Lib.hid (below_then Bc.out (hdd.below _))))
    go_ret
    exact ⟨rfl, Bd.out⟩
end Go.Proofs.Ytelecdncdaepnaa
