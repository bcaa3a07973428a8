/- More statements of the check sum: pieces, joins that nest. -/
import Derived.Test.YtfkbdchpncadoaaCrcLaws
namespace Go.Proofs.Ytfkbdchpncadoaa
open Go.RowKit
open CrcMath (W)
attribute [local go_sem] bits_xor_uI

theorem update_nil (c : W) (w : World) : Calls Try.prog 13 #[.int .u32 (uI c), .slice none 0 0] w fun e w' => e = .returned (.int .u32 (uI c)) ∧ w = w' :=
  updateR c none [] 0 0 w (RB.void w) rfl c (CrcMath.upd_nil c)

theorem crcSplits_calls (c : W) (A : Option Addr) (p : List UInt8) (cp : Nat) (B : Option Addr) (q : List UInt8) (cq : Nat) (w : World) (hp : RB w A cp p) (hq : RB w B cq q) (hl : p.length + q.length ≤ 281474976710656) :
    Calls Try.prog 5 #[.int .u32 (uI c), .slice A p.length cp, .slice B q.length cq] w fun e w' => e = .returned (.bool true) ∧ Below w.heap.size w w' := by
  have e1 : CrcMath.upd c ((p ++ q).map bW) = CrcMath.upd (CrcMath.upd c (p.map bW)) (q.map bW) := by rw [map_bW_append, CrcMath.upd_append]
  have E1 := Lib.hid e1
  clear e1
  go_enter Try.func5, Try.ntmps5
  go_wp2_with (first | (go_at_call 12; (with_reducible refine (awake_calls _).mono ?_); rintro e w1 ⟨rfl, HB⟩; replace hp := hp.new HB; replace hq := hq.new HB) | (go_at_call 13; (with_reducible refine (update_nil c _).mono ?_); rintro e w' ⟨rfl, rfl⟩) | (go_at_call 13; (with_reducible refine (updateR c A p _ _ _ hp rfl _ rfl).mono ?_); rintro e w' ⟨rfl, rfl⟩) | (go_at_call 13; (with_reducible refine (updateR _ B q _ _ _ hq rfl _ rfl).mono ?_); rintro e w' ⟨rfl, rfl⟩) | (go_at_call 20; (with_reducible refine (join_bytes_calls A B p q _ _ _ hp hq hl).mono ?_); rintro e w2 ⟨A', c', rfl, hn2⟩; replace HB := below_new HB hn2.below) | (go_at_call 13; (with_reducible refine (updateR c A' (p ++ q) _ _ _ hn2.own.reads (by simp) _ E1.out).mono ?_); rintro e w' ⟨rfl, rfl⟩))
  go_ret
  exact ⟨rfl, HB⟩

theorem crcGlues_calls (A : Option Addr) (p : List UInt8) (cp : Nat) (B : Option Addr) (q : List UInt8) (cq : Nat) (c : W) (w : World) (hp : RB w A cp p) (hq : RB w B cq q) (hl : p.length + q.length ≤ 281474976710656) :
    Calls Try.prog 6 #[.slice A p.length cp, .slice B q.length cq, .int .u32 (uI c)] w fun e w' => e = .returned (.bool true) ∧ Below w.heap.size w w' := by
  have e1 : CrcMath.joinN (CrcMath.sum (p.map bW)) (CrcMath.sum (q.map bW)) (q.length : Int).toNat = CrcMath.sum ((p ++ q).map bW) := by
    have h1 := CrcMath.joinN_upd (CrcMath.sum (p.map bW)) (q.map bW)
    rw [List.length_map] at h1
    rw [Int.toNat_natCast, h1, map_bW_append]
    exact (CrcMath.upd_append 0 _ _).symm
  have e2 : CrcMath.joinN c (CrcMath.sum (q.map bW)) (q.length : Int).toNat = CrcMath.upd c (q.map bW) := by
    have h1 := CrcMath.joinN_upd c (q.map bW)
    rw [List.length_map] at h1
    rw [Int.toNat_natCast, h1]
  have hs := hq.small
  generalize hP : CrcMath.sum (p.map bW) = sp at e1
  generalize hQ : CrcMath.sum (q.map bW) = sq at e1 e2
  generalize hPQ : CrcMath.sum ((p ++ q).map bW) = spq at e1
  have E1 := Lib.hid e1
  have E2 := Lib.hid e2
  have HP := Lib.hid hP
  have HQ := Lib.hid hQ
  have HPQ := Lib.hid hPQ
  clear e1 e2 hP hQ hPQ
  go_enter Try.func6, Try.ntmps6
  go_wp2_with (first | (go_at_call 12; (with_reducible refine (awake_calls _).mono ?_); rintro e w1 ⟨rfl, HB⟩; replace hp := hp.new HB; replace hq := hq.new HB) | (go_at_call 20; (with_reducible refine (join_bytes_calls A B p q _ _ _ hp hq hl).mono ?_); rintro e w2 ⟨A', c', rfl, hn2⟩; replace HB := below_new HB hn2.below; replace hp := hp.new hn2.below; replace hq := hq.new hn2.below; have hpq := hn2.own.reads) | (go_at_call 16; (with_reducible refine (sumR A' (p ++ q) _ c' _ hpq (by simp) _ HPQ.out).mono ?_); rintro e w' ⟨rfl, rfl⟩) | (go_at_call 16; (with_reducible refine (sumR A p _ cp _ hp rfl _ HP.out).mono ?_); rintro e w' ⟨rfl, rfl⟩) | (go_at_call 16; (with_reducible refine (sumR B q _ cq _ hq rfl _ HQ.out).mono ?_); rintro e w' ⟨rfl, rfl⟩) | (go_at_call 18; (with_reducible refine (joinR sp sq q.length (by omega) (by omega) _ _ E1.out).mono ?_); rintro e w3 ⟨rfl, hb3⟩; replace HB := below_new HB hb3; replace hp := hp.new hb3; replace hq := hq.new hb3; replace hpq := hpq.new hb3) | (go_at_call 18; (with_reducible refine (joinR c sq q.length (by omega) (by omega) _ _ E2.out).mono ?_); rintro e w3 ⟨rfl, hb3⟩; replace HB := below_new HB hb3; replace hp := hp.new hb3; replace hq := hq.new hb3; replace hpq := hpq.new hb3) | (go_at_call 13; (with_reducible refine (updateR c B q _ cq _ hq rfl _ rfl).mono ?_); rintro e w' ⟨rfl, rfl⟩))
  go_ret
  exact ⟨rfl, HB⟩

theorem joinN_zero (a b : W) : CrcMath.joinN a b 0 = a ^^^ b := rfl

theorem crcNests_calls (a b c : W) (m n : Int) (m0 : -9223372036854775808 ≤ m) (m1 : m ≤ 9223372036854775807) (n0 : -9223372036854775808 ≤ n) (n1 : n ≤ 9223372036854775807) (w : World) :
    Calls Try.prog 9 #[.int .u32 (uI a), .int .u32 (uI b), .int .u32 (uI c), .int .i64 m, .int .i64 n] w fun e w' => e = .returned (.bool true) ∧ Below w.heap.size w w' := by
  by_cases hneg : m < 0 ∨ n < 0
  · have hmin : ∀ x : Int, (x = m ∨ x = n) → x < 0 → CrcMath.joinN a b x.toNat = a ^^^ b := by
      intro x _ hx
      rw [show x.toNat = 0 by omega, joinN_zero]
    by_cases hmn : m ≤ n
    · have hm : m < 0 := by omega
      have HM := Lib.hid (hmin m (.inl rfl) hm)
      clear hneg hmin
      go_enter Try.func9, Try.ntmps9
      go_wp2_with (first | (go_at_call 12; (with_reducible refine (awake_calls _).mono ?_); rintro e w1 ⟨rfl, HB⟩) | (go_at_call 18; (with_reducible refine (joinR a b m (by omega) (by omega) _ _ HM.out).mono ?_); rintro e w3 ⟨rfl, hb3⟩; replace HB := below_new HB hb3))
      go_ret
      exact ⟨rfl, HB⟩
    · have hn : n < 0 := by omega
      have HM := Lib.hid (hmin n (.inr rfl) hn)
      clear hneg hmin
      by_cases hm : m < 0
      · go_enter Try.func9, Try.ntmps9
        go_wp2_with (first | (go_at_call 12; (with_reducible refine (awake_calls _).mono ?_); rintro e w1 ⟨rfl, HB⟩) | (go_at_call 18; (with_reducible refine (joinR a b n (by omega) (by omega) _ _ HM.out).mono ?_); rintro e w3 ⟨rfl, hb3⟩; replace HB := below_new HB hb3))
        go_ret
        exact ⟨rfl, HB⟩
      · go_enter Try.func9, Try.ntmps9
        go_wp2_with (first | (go_at_call 12; (with_reducible refine (awake_calls _).mono ?_); rintro e w1 ⟨rfl, HB⟩) | (go_at_call 18; (with_reducible refine (joinR a b n (by omega) (by omega) _ _ HM.out).mono ?_); rintro e w3 ⟨rfl, hb3⟩; replace HB := below_new HB hb3))
        go_ret
        exact ⟨rfl, HB⟩
  · have hm : 0 ≤ m := by omega
    have hn : 0 ≤ n := by omega
    clear hneg
    by_cases hbig : 2305843009213693952 < m ∨ 2305843009213693952 < n
    · by_cases hb1 : 2305843009213693952 < m
      · go_enter Try.func9, Try.ntmps9
        clear hbig
        go_wp2_with (go_at_call 12; (with_reducible refine (awake_calls _).mono ?_); rintro e w1 ⟨rfl, HB⟩)
        go_ret
        exact ⟨rfl, HB⟩
      · have hb2 : 2305843009213693952 < n := by omega
        clear hbig
        go_enter Try.func9, Try.ntmps9
        go_wp2_with (go_at_call 12; (with_reducible refine (awake_calls _).mono ?_); rintro e w1 ⟨rfl, HB⟩)
        go_ret
        exact ⟨rfl, HB⟩
    · have hm2 : m ≤ 2305843009213693952 := by omega
      have hn2 : n ≤ 2305843009213693952 := by omega
      clear hbig
      have e1 : CrcMath.joinN a (CrcMath.joinN b c n.toNat) (m + n).toNat = CrcMath.joinN (CrcMath.joinN a b m.toNat) c n.toNat := by
        rw [show (m + n).toNat = m.toNat + n.toNat by omega, CrcMath.joinN_nest]
      generalize hx : CrcMath.joinN b c n.toNat = x at e1
      generalize hy : CrcMath.joinN a b m.toNat = y at e1
      have E1 := Lib.hid e1
      have HX := Lib.hid hx
      have HY := Lib.hid hy
      clear e1 hx hy
      go_enter Try.func9, Try.ntmps9
      go_wp2_with (first | (go_at_call 12; (with_reducible refine (awake_calls _).mono ?_); rintro e w1 ⟨rfl, HB⟩) | (go_at_call 18; (with_reducible refine (joinR a b m (by omega) (by omega) _ _ HY.out).mono ?_); rintro e w3 ⟨rfl, hb3⟩; replace HB := below_new HB hb3) | (go_at_call 18; (with_reducible refine (joinR b c n (by omega) (by omega) _ _ HX.out).mono ?_); rintro e w3 ⟨rfl, hb3⟩; replace HB := below_new HB hb3) | (go_at_call 18; (with_reducible refine (joinR y c n (by omega) (by omega) _ _ rfl).mono ?_); rintro e w3 ⟨rfl, hb3⟩; replace HB := below_new HB hb3) | (go_at_call 18; (with_reducible refine (joinR a x (m + n) (by omega) (by omega) _ _ E1.out).mono ?_); rintro e w3 ⟨rfl, hb3⟩; replace HB := below_new HB hb3))
      go_ret
      exact ⟨rfl, HB⟩
end Go.Proofs.Ytfkbdchpncadoaa
