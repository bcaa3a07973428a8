/- The walk of notarylaw05.EntryDecodes. -/
import Derived.Test.YtelecdncdaepnaaAwake5
import Derived.Test.YtelecdncdaepnaaDocDecodeBatch3
import Derived.Test.YtelecdncdaepnaaLists
namespace Go.Proofs.Ytelecdncdaepnaa
open Go.RowKit
open WireMath (numS beN rawS blobS uvarS grpL uvarL wideL)

theorem Bat.small (P : List UInt8) : (decB P).f ≤ 18446744073709551615 := by
  unfold decB
  have := uvarS_lt P 0 0
  split
  · simp [batNo]
  · split
    · simp [batNo]
    · split
      · simp [batNo]
      · split
        · simp [batNo]
        · unfold batF
          split
          · simp [batNo]
          · split
            · simp [batNo]
            · exact this
theorem entsS_len (P : List UInt8) : ∀ n at_, (entsS P n at_).l.length ≤ n
  | 0, _ => by simp [entsS]
  | n + 1, at_ => by
    unfold entsS
    split
    · simp
    · have := entsS_len P n (entS P at_).at_
      simp only [List.length_cons]; omega
theorem Bat.len (P : List UInt8) : (decB P).l.length ≤ 64 := by
  unfold decB
  split
  · simp [batNo]
  · split
    · simp [batNo]
    · split
      · simp [batNo]
      · split
        · simp [batNo]
        · unfold batF
          split
          · simp [batNo]
          · split
            · simp [batNo]
            · rename_i h _ _ _
              have := entsS_len P (uvarS P (uvarS P 0 0).2.1 0).1 (uvarS P (uvarS P 0 0).2.1 0).2.1
              simp only; omega
theorem decF_k (P : List UInt8) : (decF P).2.k ≤ 255 := by
  rw [decF_take]
  split
  · show 0 ≤ 255; omega
  · exact takeR_k P 0 0
set_option maxHeartbeats 1000000 in
set_option maxRecDepth 100000 in
theorem decodes5_calls (A : Option Addr) (P : List UInt8) (n c : Nat) (w : World) (hp : RB w A c P) (hn : n = P.length) (hl : P.length ≤ 140737488351232) :
    Calls Try.prog 15 #[.slice A n c] w fun r w' => r = .returned (.bool true) ∧ Below w.heap.size w w' := by
  subst hn
  have hl1 : P.length ≤ 140737488355328 := by omega
  have hk := decF_k P
  obtain ⟨e, v, hv⟩ : ∃ e v, decF P = (e, v) := ⟨_, _, rfl⟩
  rw [hv] at hk
  obtain ⟨t, ht⟩ : ∃ t, decB P = t := ⟨_, rfl⟩
  have HT := Lib.hid ht
  have HLN : Hid (t.l.length ≤ 9223372036854775807) := Lib.hid (by have := Bat.len P; rw [ht] at this; omega)
  have hee : ((e : Int) == e) = true := beq_self_eq_true _
  have htt : ((t.e : Int) == t.e) = true := beq_self_eq_true _
  have HD1 : ∀ (w : World) (A : Option Addr) (c : Nat), RB w A c P → Calls Try.prog 24 #[.slice A P.length c] w fun r w' => ∃ a : EnA, r = .returned (.tuple #[.agg #[.int .u8 v.k, .slice a.KA v.K.length a.kc, .slice a.VA v.V.length a.vc], .int .i64 e]) ∧ NewE w w' v a := fun w A c h => by
    have := decodeE_calls A P _ c w h rfl hl1; rw [hv] at this; exact this
  have HD2 : ∀ (w : World) (A : Option Addr) (c : Nat), RB w A c P → Calls Try.prog 45 #[.slice A P.length c] w fun r w' => ∃ a : EnA, r = .returned (.tuple #[.agg #[.int .u8 v.k, .slice a.KA v.K.length a.kc, .slice a.VA v.V.length a.vc], .int .i64 e]) ∧ NewE w w' v a := fun w A c h => by
    have := docDecode_calls A P _ c w h rfl hl1; rw [hv] at this; exact this
  have HD1 := Lib.hid HD1
  have HD2 := Lib.hid HD2
  clear hv ht
  go_enter Try.func15, Try.ntmps15
  go_wp2_with (first
    | (go_at_call 20; (with_reducible refine (twinR A P _ c _ hp rfl hl1).mono ?_); rintro r1 w1 ⟨A1, c1, rfl, hn1⟩; have B1 := Lib.hid hn1.below; have tk1 := trivial)
    | (go_at_call 24; (with_reducible refine (HD1.out _ A1 c1 hn1.own.rb).mono ?_); rintro r2 w2 ⟨a2, rfl, hn2⟩; have B2 := Lib.hid (belowA (below_then B1.out hn2.below) (.cells #[.int .u8 v.k, .slice a2.KA v.K.length a2.kc, .slice a2.VA v.V.length a2.vc] 26)); have E2 := Trio.fresh w2 w2.heap.size rfl (.int .u8 v.k) (.slice a2.KA v.K.length a2.kc) (.slice a2.VA v.V.length a2.vc) 26; have O2 := Lib.hid ((hn2.ok hk).new (below_alloc1 (Below.refl _ _) (Nat.le_refl _) (.cells #[.int .u8 v.k, .slice a2.KA v.K.length a2.kc, .slice a2.VA v.V.length a2.vc] 26))))
    | (go_at_call 45; (with_reducible refine (HD2.out _ A c (hp.new B2.out)).mono ?_); rintro r3 w3 ⟨a3, rfl, hn3⟩; have B3 := Lib.hid (belowA (below_then B2.out hn3.below) (.cells #[.int .u8 v.k, .slice a3.KA v.K.length a3.kc, .slice a3.VA v.V.length a3.vc] 26)); have E3 := (E2.new hn3.below).new (below_alloc1 (Below.refl _ _) (Nat.le_refl _) (.cells #[.int .u8 v.k, .slice a3.KA v.K.length a3.kc, .slice a3.VA v.V.length a3.vc] 26)); have O3 := Lib.hid ((O2.out.new hn3.below).new (below_alloc1 (Below.refl _ _) (Nat.le_refl _) (.cells #[.int .u8 v.k, .slice a3.KA v.K.length a3.kc, .slice a3.VA v.V.length a3.vc] 26))); have G3 := Trio.fresh w3 w3.heap.size rfl (.int .u8 v.k) (.slice a3.KA v.K.length a3.kc) (.slice a3.VA v.V.length a3.vc) 26; have Q3 := Lib.hid ((hn3.ok hk).new (below_alloc1 (Below.refl _ _) (Nat.le_refl _) (.cells #[.int .u8 v.k, .slice a3.KA v.K.length a3.kc, .slice a3.VA v.V.length a3.vc] 26))))
    | (go_at_call 20; (with_reducible refine (twinR A P _ c _ (hp.new B3.out) rfl hl1).mono ?_); rintro r4 w4 ⟨A4, c4, rfl, hn4⟩; have B4 := Lib.hid (below_then B3.out hn4.below); have E4 := E3.new hn4.below; have O4 := Lib.hid (O3.out.new hn4.below); have G4 := G3.new hn4.below; have Q4 := Lib.hid (Q3.out.new hn4.below))
    | (go_at_call 21; (with_reducible refine (decodeB_calls A4 P _ c4 _ hn4.own.rb rfl hl1 t HT.out).mono ?_); rintro r5 w5 ⟨A5, c5, rfl, hn5⟩; obtain ⟨⟨es5, he5, hl5, ho5⟩, hb5⟩ := hn5; have HL5 := Lib.hid hl5; clear hl5; have B5 := Lib.hid (belowA (below_then B4.out hb5) (.cells #[.int .u64 t.f, .slice A5 t.l.length c5] 34)); have n5 := below_alloc1 (Below.refl w5.heap.size w5) (Nat.le_refl _) (.cells #[.int .u64 t.f, .slice A5 t.l.length c5] 34); have E5 := (E4.new hb5).new n5; have O5 := Lib.hid ((O4.out.new hb5).new n5); have G5 := (G4.new hb5).new n5; have Q5 := Lib.hid ((Q4.out.new hb5).new n5); have D5 := Duo.fresh w5 w5.heap.size rfl (.int .u64 t.f) (.slice A5 t.l.length c5) 34; have P5 := Lib.hid (ho5.new n5))
    | (go_at_call 29; (with_reducible refine (docDecodeB_calls A P _ c _ (hp.new B5.out) rfl hl1 t HT.out).mono ?_); rintro r6 w6 ⟨A6, c6, rfl, hn6⟩; obtain ⟨⟨es6, he6, hl6, ho6⟩, hb6⟩ := hn6; have HL6 := Lib.hid hl6; clear hl6; have B6 := Lib.hid (belowA (below_then B5.out hb6) (.cells #[.int .u64 t.f, .slice A6 t.l.length c6] 34)); have n6 := below_alloc1 (Below.refl w6.heap.size w6) (Nat.le_refl _) (.cells #[.int .u64 t.f, .slice A6 t.l.length c6] 34); have E6 := (E5.new hb6).new n6; have O6 := Lib.hid ((O5.out.new hb6).new n6); have G6 := (G5.new hb6).new n6; have Q6 := Lib.hid ((Q5.out.new hb6).new n6); have D6 := (D5.new hb6).new n6; have P6 := Lib.hid ((P5.out.new hb6).new n6); have F6 := Duo.fresh w6 w6.heap.size rfl (.int .u64 t.f) (.slice A6 t.l.length c6) 34; have R6 := Lib.hid (ho6.new n6); have x0 := E6.c0; have x1 := E6.c1; have x2 := E6.c2; have y0 := G6.c0; have y1 := G6.c1; have y2 := G6.c2; have z1 := E6.lt; have z2 := G6.lt; have z3 := D6.lt)
    | (go_at_call 27; go_loud (with_reducible refine (sameE_calls v a2 a3 _ _ _ _ rfl rfl rfl rfl _ O6.out Q6.out).mono ?_); rintro r7 w7 ⟨rfl, hb7⟩; have B7 := Lib.hid (below_then B6.out hb7); have D7 := D6.new hb7; have F7 := F6.new hb7; have u0 := D7.c0; have u1 := D7.c1; have v0 := F7.c0; have v1 := F7.c1; have P7 := Lib.hid (P6.out.new hb7); have R7 := Lib.hid (R6.out.new hb7))
    | (go_at_call 26; go_loud (with_reducible refine (sameB_calls t.f A5 A6 es5 es6 _ _ c5 c6 HL5.out HL5.out _ P7.out R7.out (he5.trans he6.symm) HLN.out).mono ?_); rintro r8 w8 ⟨rfl, hb8⟩))
  go_ret
  exact ⟨rfl, below_then B7.out hb8⟩
set_option maxRecDepth 100000 in
theorem entryDecodes_calls (A : Option Addr) (l : List LsV) (n c : Nat) (w : World) (h : Lsts w A l) (hn : n = l.length) (hl : n ≤ 9223372036854775807) (hs : ∀ o ∈ l, o.P.length ≤ 140737488351232) :
    Calls Try.prog 4 #[.slice A n c] w fun r w' => r = .returned (.bool true) ∧ Below w.heap.size w w' := by
  have HN := Lib.hid hn
  clear hn
  go_enter Try.func4, Try.ntmps4
  go_wp2_with (go_at_call 13; (with_reducible refine (awake5_calls _).mono ?_); rintro e1 w1 ⟨rfl, hb1⟩)
  go_loopw [4, 9] (fun _ iv wr => ∃ j : Nat, j ≤ n ∧ iv = .int .i64 j ∧ Below w.heap.size w wr) (fun _ iv _ => n - (intOf iv).toNat)
  case atStart => exact ⟨0, Nat.zero_le _, rfl, hb1⟩
  case round =>
    obtain ⟨j, hj, rfl, HBB⟩ := hrel
    by_cases hlt : j < n
    · obtain ⟨a, o, rfl, ho, hmem, hok, k0⟩ := (h.new HBB).at_ j (by rw [← HN.out]; exact hlt)
      have s1 := hs _ hmem
      clear ho
      go_wp2_with (go_at_call 15; (with_reducible refine (decodes5_calls o.A o.P _ o.c _ hok rfl s1).mono ?_); rintro e5 w5 ⟨rfl, hb5⟩)
      go_roundw
      case rel => exact ⟨j + 1, by omega, by go_num, below_then HBB hb5⟩
      case measure => simp [intOf]; omega
    · obtain rfl : j = n := by omega
      clear hlt
      go_wp2
      go_ret
      exact ⟨rfl, HBB⟩
end Go.Proofs.Ytelecdncdaepnaa
