/- The walk of notarylaw05.EntryWhole. -/
import Derived.Test.YtelecdncdaepnaaEntryBatches
import Derived.Test.YtelecdncdaepnaaEntryMath2
import Derived.Test.YtelecdncdaepnaaEntryEncodes
import Derived.Test.YtelecdncdaepnaaWireCut
namespace Go.Proofs.Ytelecdncdaepnaa
open Go.RowKit
open WireMath (numS beN rawS blobS uvarS grpL uvarL wideL)

theorem add0E (a : Addr) : a.add 0 = a := by cases a; simp [Addr.add]
set_option maxHeartbeats 1000000 in
set_option maxRecDepth 100000 in
theorem entryWhole_calls (V : Int) (hV0 : 0 ≤ V) (hV1 : V ≤ 18446744073709551615) (A : Option Addr) (es : List EnX) (n c : Nat) (M : UInt8) (w : World) (h : Ents w A es) (hn : n = es.length) (hl : n * 56 ≤ 140737488351232) (hs0 : ∀ x ∈ es, x.1.K.length ≤ 140737488351232 ∧ x.1.V.length ≤ 140737488351232) :
    Calls Try.prog 6 #[.agg #[.int .u64 V, .slice A n c], .int .u8 (uB M)] w fun r w' => r = .returned (.bool true) ∧ Below w.heap.size w w' := by
  obtain ⟨f, rfl⟩ := Int.eq_ofNat_of_zero_le hV0
  have hs : SmallEs es := fun x hx => by have := hs0 x hx; omega
  have hf : f ≤ 18446744073709551615 := by omega
  have HB := Lib.hid (below_alloc1 (Below.refl w.heap.size w) (Nat.le_refl _) (.cells #[.int .u64 f, .slice A n c] 34))
  have HT := Lib.hid (Duo.fresh w w.heap.size rfl (.int .u64 f) (.slice A n c) 34)
  have HN := Lib.hid hn
  have hl5 : n * 56 ≤ 140737488355328 := by omega
  have hl6 : n ≤ 9223372036854775807 := by omega
  obtain ⟨q, eE, hq⟩ : ∃ q eE, encBF f (ensOf es) = (q, eE) := ⟨_, _, rfl⟩
  have HQ := Lib.hid hq
  have hql : q.length ≤ 22000 := by have := encBF_len f (ensOf es); rw [hq] at this; exact this
  clear hn hq hs0 hl
  by_cases hz : eE = 0
  · have hb : ((eE : Int) != 0) = false := by rw [bne_eq_false_iff_eq]; omega
    have HZ := Lib.hid hz
    clear hz
    go_enter Try.func6, Try.ntmps6
    go_wp2_with (first
      | (go_at_call 13; (with_reducible refine (awake5_calls _).mono ?_); rintro e1 w1 ⟨rfl, hb1⟩; have B1 := Lib.hid (below_then HB.out hb1); have T1 := HT.out.new hb1; have hz1 := T1.lt; have x0 := T1.c0; have x1 := T1.c1)
      | (go_at_call 17; go_loud ((with_reducible refine (twinB_calls f A es n c _ (h.new B1.out) HN.out hl5 hs).mono ?_)); rintro e2 w2 ⟨A2, c2, ds, rfl, hl2, hd2, hb2⟩; have B2 := Lib.hid (below_then B1.out hb2); have T2 := T1.new hb2; have HQ2 := Lib.hid (show encBF f (ensOf ds) = (q, eE) by rw [hd2]; exact HQ.out))
      | (go_at_call 16; go_loud ((with_reducible refine (encB_calls f _ rfl hf A2 n c2 ds _ hl2.reads hl2.len hl6 q eE HQ2.out).mono ?_)); rintro e3 w3 ⟨A3, c3, rfl, hn3⟩; have B3 := Lib.hid (below_then B2.out hn3.below); have T3 := T2.new hn3.below; have R3 := hn3.own.rb))
    clear hn3 HQ2 T1 T2 x0 x1
    go_loopw [7, 8, 9, 10] (fun iv _ _ _ wr => ∃ i : Nat, i ≤ q.length + 1 ∧ iv = .int .i64 i ∧ Below w3.heap.size w3 wr) (fun iv _ _ _ _ => q.length + 1 - (intOf iv).toNat)
    case atStart => exact ⟨0, Nat.zero_le _, rfl, Below.refl _ _⟩
    case round =>
      obtain ⟨i, hi, rfl, HBI⟩ := hrel
      have RI := R3.new HBI
      by_cases hlt : i < q.length
      · have hcut := fun w' : World => run_cut_h w' A3 q.length c3 i i rfl (Nat.le_trans (Nat.le_of_lt hlt) RI.len)
        obtain ⟨t, ht⟩ : ∃ t, decB (q.take i) = t := ⟨_, rfl⟩
        have HTD := Lib.hid ht
        have hne : ((t.e : Int) == 0) = false := by rw [beq_eq_false_iff_ne]; have := decB_cut f (ensOf es) q (by rw [HQ.out, HZ.out]) i hlt; rw [ht] at this; omega
        have HI := Lib.hid (show i = (q.take i).length by rw [List.length_take]; omega)
        have hik : ((i : Int) == (q.length : Int)) = false := by rw [beq_eq_false_iff_ne]; omega
        clear ht
        go_wp2_with (first
          | (go_at_call 20; go_loud (with_reducible refine (twinR A3 (q.take i) i c3 _ (RI.take i) HI.out (by rw [← HI.out]; omega)).mono ?_); rintro e4 w4 ⟨A4, c4, rfl, hn4⟩; have B4 := Lib.hid (below_then HBI hn4.below); have R4 := hn4.own.rb)
          | (go_at_call 21; go_loud (with_reducible refine (decodeB_calls A4 (q.take i) i c4 _ R4 HI.out (by rw [← HI.out]; omega) t HTD.out).mono ?_); rintro e5 w5 ⟨A5, c5, rfl, hn5⟩; have B5 := Lib.hid (below_then B4.out hn5.below)))
        go_roundw
        case rel => exact ⟨i + 1, by omega, by go_num, belowA B5.out _⟩
        case measure => simp [intOf]; omega
      · by_cases heq : i = q.length
        · subst heq
          obtain ⟨t, ht⟩ : ∃ t, decB (q ++ [M]) = t := ⟨_, rfl⟩
          have HTD := Lib.hid ht
          have hne : ((t.e : Int) == 0) = false := by rw [beq_eq_false_iff_ne]; have := decB_more f (ensOf es) q (by rw [HQ.out, HZ.out]) M; rw [ht] at this; omega
          have hcut := fun w' : World => run_cut_h w' A3 q.length c3 q.length q.length rfl RI.len
          clear ht
          have HQL : Hid (q.length = (q.take q.length).length) := Lib.hid (by simp)
          have HQT := Lib.hid (List.take_length (l := q))
          go_wp2_with (first
            | (go_at_call 20; go_loud (with_reducible refine (twinR A3 q q.length c3 _ RI rfl (by omega)).mono ?_); rintro e4 w4 ⟨A4, c4, rfl, hn4⟩; have B4 := Lib.hid (below_then HBI hn4.below); have O4 := Lib.hid (hn4.own.alloc (.cells #[.int .u8 (uB M)] 5)); have X4 := Lib.hid (RB.oneAt w4 5 M (uB M) rfl w4.heap.size rfl); have L4 := Lib.hid O4.out.out.lt)
            | (refine wp_appendB bt rfl (.tmp 40) (.tmp 42) rfl wr.heap.size (.slice A4 q.length c4) q rfl O4.out (some ⟨w4.heap.size, 0, Option.none⟩) [M] 1 1 rfl rfl X4.out (by simp; omega) (Nat.le_trans hn4.below.size (by rw [asz]; omega)) fun v7 w7 ho7 hg7 _ => ?_; have B7 := Lib.hid ((belowA B4.out (.cells #[.int .u8 (uB M)] 5)).grown hg7 (belowA B4.out (.cells #[.int .u8 (uB M)] 5)).size (fun k e9 => Nat.le_trans HBI.size (L4.out k e9).1)); obtain ⟨A7, c7, rfl, hr7⟩ := ho7.form; have R7 := Lib.hid hr7; have HL7 := Lib.hid (show (q ++ [M]).length = q.length + 1 by simp))
            | (go_at_call 21; go_loud (with_reducible refine (decodeB_calls A7 (q ++ [M]) _ c7 _ R7.out (by first | rfl | exact HL7.out.symm) (by rw [HL7.out]; omega) t HTD.out).mono ?_); rintro e5 w5 ⟨A5, c5, rfl, hn5⟩; have B5 := Lib.hid (below_then B7.out hn5.below)))
          go_roundw
          case rel => exact ⟨q.length + 1, by omega, by go_num, belowA B5.out _⟩
          case measure => simp [intOf]
        · obtain ⟨-, hn0, -, -, hck⟩ := encBF_ok f (ensOf es) q (by rw [HQ.out, HZ.out])
          have hn1 : 0 < es.length := by simp [ensOf] at hn0; cases es with | nil => exact absurd rfl hn0 | cons _ _ => simp
          have hn2 : 0 < n := by rw [HN.out]; exact hn1
          have BR := Lib.hid (below_then B3.out HBI)
          obtain ⟨a, o, x, rfl, ho, hmem, hok, k0, k1, k2⟩ := (h.new BR.out).at_ 0 hn1
          rw [Nat.zero_mul, add0E] at k0
          rw [Nat.zero_mul, add0E] at k1 k2
          have hco : chkF o = 0 := hck o (by unfold ensOf; rw [List.mem_map]; exact ⟨(o, x), hmem, rfl⟩)
          obtain ⟨s1, s2⟩ := hs _ hmem
          obtain ⟨p0, hp0⟩ : ∃ p0, p0 = encL o := ⟨_, rfl⟩
          have HEO := Lib.hid (show encE o = (p0, 0) by unfold encE; rw [if_pos hco, hp0])
          have hpl0 : p0.length ≤ 341 := by have := encE_len o; rw [HEO.out] at this; exact this
          have HE := Lib.hid (show ∀ (w : World) (A : EnA), EnOk w o A → Calls Try.prog 22 #[.agg #[.int .u8 o.k, .slice A.KA o.K.length A.kc, .slice A.VA o.V.length A.vc]] w fun r w' => ∃ A' c', r = .returned (.tuple #[.slice A' p0.length c', .int .i64 0]) ∧ NewB w w' (.slice A' p0.length c') p0 from fun w A h => by
            have := encodeE_calls o A _ _ rfl rfl w h
            rw [HEO.out] at this; exact this)
          have hko := hok.k
          have T9 := T3.new HBI
          have d0 := T9.c0
          have d1 := T9.c1
          have hz9 := T9.lt
          clear hn0 hck ho hco hp0 hn1
          go_wp2_with (first
            | (go_at_call 23; go_loud ((with_reducible refine (twinEntry_calls o x _ _ rfl rfl _ (hok.new (below_alloc1 (Below.refl _ _) (Nat.le_refl _) _)) s1 s2).mono ?_)); rintro e4 w4 ⟨a4, rfl, hn4⟩; have B4 := Lib.hid (below_then (belowA BR.out (.cells #[.int .u8 o.k, .slice x.KA o.K.length x.kc, .slice x.VA o.V.length x.vc] 26)) hn4.below))
            | (go_at_call 22; go_loud ((with_reducible refine (HE.out _ a4 (hn4.ok hko)).mono ?_)); rintro e5 w5 ⟨A5, c5, rfl, hn5⟩; have B5 := Lib.hid (below_then B4.out hn5.below); have R5 := hn5.own.rb))

          clear hn5 hn4
          obtain ⟨wo, hwo⟩ : ∃ wo : World, wo = wr := ⟨_, rfl⟩
          subst hwo
          go_loopw [12, 13, 14, 15] (fun iv _ _ _ wr => ∃ i : Nat, i ≤ p0.length + 1 ∧ iv = .int .i64 i ∧ Below w5.heap.size w5 wr) (fun iv _ _ _ _ => p0.length + 1 - (intOf iv).toNat)
          case atStart => exact ⟨0, Nat.zero_le _, rfl, Below.refl _ _⟩
          case round =>
            obtain ⟨i2, hi2, rfl, HBJ⟩ := hrel
            have RJ := R5.new HBJ
            by_cases hlt2 : i2 < p0.length
            · have hcut2 := fun w' : World => run_cut_h w' A5 p0.length c5 i2 i2 rfl (Nat.le_trans (Nat.le_of_lt hlt2) RJ.len)
              obtain ⟨ev, tv, ht⟩ : ∃ ev tv, decF (p0.take i2) = (ev, tv) := ⟨_, _, rfl⟩
              have hne : ((ev : Int) == 0) = false := by rw [beq_eq_false_iff_ne]; have := decF_cut o p0 HEO.out i2 hlt2; rw [ht] at this; simp only at this; omega
              have HI := Lib.hid (show i2 = (p0.take i2).length by rw [List.length_take]; omega)
              have hik : ((i2 : Int) == (p0.length : Int)) = false := by rw [beq_eq_false_iff_ne]; omega
              have HD := Lib.hid (show ∀ (w : World) (A : Option Addr) (c : Nat), RB w A c (p0.take i2) → Calls Try.prog 24 #[.slice A i2 c] w fun r w' => ∃ a : EnA, r = .returned (.tuple #[.agg #[.int .u8 tv.k, .slice a.KA tv.K.length a.kc, .slice a.VA tv.V.length a.vc], .int .i64 ev]) ∧ NewE w w' tv a from fun w A c h => by
                have := decodeE_calls A (p0.take i2) i2 c w h HI.out (by rw [← HI.out]; omega); rw [ht] at this; exact this)
              clear ht
              go_wp2_with (first
                | (go_at_call 20; go_loud (with_reducible refine (twinR A5 (p0.take i2) i2 c5 _ (RJ.take i2) HI.out (by rw [← HI.out]; omega)).mono ?_); rintro e6 w6 ⟨A6, c6, rfl, hn6⟩; have B6 := Lib.hid (below_then HBJ hn6.below); have R6 := hn6.own.rb)
                | (go_at_call 24; go_loud (with_reducible refine (HD.out _ A6 c6 R6).mono ?_); rintro e7 w7 ⟨a7, rfl, hn7⟩; have B7 := Lib.hid (below_then B6.out hn7.below)))
              go_roundw
              case rel => exact ⟨i2 + 1, by omega, by go_num, belowA B7.out _⟩
              case measure => simp [intOf]; omega
            · by_cases heq2 : i2 = p0.length
              · subst heq2
                have hcut2 := fun w' : World => run_cut_h w' A5 p0.length c5 p0.length p0.length rfl RJ.len
                obtain ⟨ev, tv, ht⟩ : ∃ ev tv, decF (p0 ++ [M]) = (ev, tv) := ⟨_, _, rfl⟩
                have hne : ((ev : Int) == 0) = false := by rw [beq_eq_false_iff_ne]; have := decF_more o p0 HEO.out M; rw [ht] at this; simp only at this; omega
                have HL7 := Lib.hid (show (p0 ++ [M]).length = p0.length + 1 by simp)
                have HD := Lib.hid (show ∀ (w : World) (A : Option Addr) (N c : Nat), N = (p0 ++ [M]).length → RB w A c (p0 ++ [M]) → Calls Try.prog 24 #[.slice A N c] w fun r w' => ∃ a : EnA, r = .returned (.tuple #[.agg #[.int .u8 tv.k, .slice a.KA tv.K.length a.kc, .slice a.VA tv.V.length a.vc], .int .i64 ev]) ∧ NewE w w' tv a from fun w A N c hN h => by
                  have := decodeE_calls A (p0 ++ [M]) N c w h hN (by rw [HL7.out]; omega); rw [ht] at this; exact this)
                clear ht
                go_wp2_with (first
                  | (go_at_call 20; go_loud (with_reducible refine (twinR A5 p0 p0.length c5 _ RJ rfl (by omega)).mono ?_); rintro e6 w6 ⟨A6, c6, rfl, hn6⟩; have B6 := Lib.hid (below_then HBJ hn6.below); have O6 := Lib.hid (hn6.own.alloc (.cells #[.int .u8 (uB M)] 5)); have X6 := Lib.hid (RB.oneAt w6 5 M (uB M) rfl w6.heap.size rfl); have L6 := Lib.hid O6.out.out.lt)
                  | (refine wp_appendB bt rfl (.tmp 77) (.tmp 79) rfl wr.heap.size (.slice A6 p0.length c6) p0 rfl O6.out (some ⟨w6.heap.size, 0, Option.none⟩) [M] 1 1 rfl rfl X6.out (by simp; omega) (Nat.le_trans hn6.below.size (by rw [asz]; omega)) fun v8 w8 ho8 hg8 _ => ?_; have B8 := Lib.hid ((belowA B6.out (.cells #[.int .u8 (uB M)] 5)).grown hg8 (belowA B6.out (.cells #[.int .u8 (uB M)] 5)).size (fun k e9 => Nat.le_trans HBJ.size (L6.out k e9).1)); obtain ⟨A8, c8, rfl, hr8⟩ := ho8.form; have R8 := Lib.hid hr8)
                  | (go_at_call 24; go_loud (with_reducible refine (HD.out _ A8 _ c8 (by first | rfl | exact HL7.out.symm) R8.out).mono ?_); rintro e9 w9 ⟨a9, rfl, hn9⟩; have B9 := Lib.hid (below_then B8.out hn9.below)))
                go_roundw
                case rel => exact ⟨p0.length + 1, by omega, by go_num, belowA B9.out _⟩
                case measure => simp [intOf]
              · go_wp2
                go_ret
                exact ⟨rfl, below_then B5.out HBJ⟩
  · have hb : ((eE : Int) != 0) = true := by rw [bne_iff_ne]; omega
    clear hz
    go_enter Try.func6, Try.ntmps6
    go_wp2_with (first
      | (go_at_call 13; (with_reducible refine (awake5_calls _).mono ?_); rintro e1 w1 ⟨rfl, hb1⟩; have B1 := Lib.hid (below_then HB.out hb1); have T1 := HT.out.new hb1; have x0 := T1.c0; have x1 := T1.c1)
      | (go_at_call 17; go_loud ((with_reducible refine (twinB_calls f A es n c _ (h.new B1.out) HN.out hl5 hs).mono ?_)); rintro e2 w2 ⟨A2, c2, ds, rfl, hl2, hd2, hb2⟩; have B2 := Lib.hid (below_then B1.out hb2); have HQ2 := Lib.hid (show encBF f (ensOf ds) = (q, eE) by rw [hd2]; exact HQ.out))
      | (go_at_call 16; go_loud ((with_reducible refine (encB_calls f _ rfl hf A2 n c2 ds _ hl2.reads hl2.len hl6 q eE HQ2.out).mono ?_)); rintro e3 w3 ⟨A3, c3, rfl, hn3⟩; have B3 := Lib.hid (below_then B2.out hn3.below)))
    go_ret
    exact ⟨rfl, B3.out⟩
end Go.Proofs.Ytelecdncdaepnaa
