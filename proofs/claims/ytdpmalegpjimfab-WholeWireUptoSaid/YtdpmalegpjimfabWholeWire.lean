/- WholeWire. -/
import Derived.Test.YtdpmalegpjimfabThings
import Derived.Test.YtdpmalegpjimfabWireCut
import Derived.Test.YtdpmalegpjimfabFrameLaws
namespace Go.Proofs.Ytdpmalegpjimfab
open Go.RowKit
open WireMath (numS beN rawS blobS uvarS grpL uvarL wideL)

theorem takeS_fault (P : List UInt8) (at_ e : Nat) (k n : Int) (h : e ≠ 0) : (takeS P at_ e k n).e = e := by
  unfold takeS WireMath.numS WireMath.uvarS WireMath.rawS WireMath.blobS
  simp only [ne_eq, h, not_false_eq_true, ↓reduceIte]
  repeat' split
  all_goals rfl
theorem ru16NW (base : Nat → Prop) (b : Nat) (P : List UInt8) (at_ e : Nat) (v : Int) (a2 e2 : Nat) (hv : v = (numS P at_ e 2).1) (ha : (numS P at_ e 2).2.1 = a2) (he : (numS P at_ e 2).2.2 = e2) (w : World) (hr : Rd w base b P at_ e) (hl : P.length ≤ 9223372036854775807) :
    Calls Try.prog 47 #[.pointer (some ⟨b, 0, none⟩)] w fun e' w' => e' = .returned (.int .u16 v) ∧ Rd w' base b P a2 e2 ∧ w.grownBy w' (some b) := by
  subst hv; subst ha; subst he; exact ru16_calls base b P at_ e w hr hl

set_option maxHeartbeats 1000000 in
set_option maxRecDepth 100000 in
theorem wholeWire_calls (A : Option Addr) (l : List ThV) (n c : Nat) (cut : Int) (hcut : 0 ≤ cut ∧ cut ≤ 65535) (w : World) (h : Ths w A l) (hn : n = l.length) (hs : bulkT l ≤ 1048576) :
    Calls Try.prog 12 #[.slice A n c, .int .u16 cut] w fun e w' => e = .returned (.bool true) ∧ Below w.heap.size w w' := by
  subst hn
  obtain ⟨cut, rfl⟩ := Int.eq_ofNat_of_zero_le hcut.1
  have hlen := Nat.le_trans (bulkT_len l) hs
  have hLL := laidT_le l
  have hX : wideL 258 2 = [1, 2] := by decide
  have HX := Lib.hid (show ([] : List UInt8) ++ wideL 258 2 = [1, 2] by rw [hX]; rfl)
  have H258 := Lib.hid (show (258 : Int) = ((258 : Nat) : Int) from rfl)
  have H0 := Lib.hid (show (0 : Int) = ((0 : Nat) : Int) from rfl)
  have HT0 := Lib.hid (show [1, 2] = ([1, 2] : List UInt8) ++ laidT (l.take 0) by simp [laidT])
  have e1 : uB 1 = 1 := rfl
  have e2 : uB 2 = 2 := rfl
  obtain ⟨T, hT⟩ : ∃ T : List UInt8, T = [1, 2] ++ laidT l := ⟨_, rfl⟩
  have hTl : T.length = 2 + (laidT l).length := by rw [hT]; simp; omega
  have HT := Lib.hid hT
  have HTL := Lib.hid hTl
  have htl3 : T.length ≤ 3145730 := by omega
  have htl2 : 2 ≤ T.length := by omega
  have hnum : numS T 0 0 2 = (258, 2, 0) := by
    unfold WireMath.numS
    rw [if_neg (by simp), if_neg (by omega), hT]
    rfl
  have HN1 := Lib.hid (show (258 : Int) = ((numS T 0 0 2).1 : Nat) by rw [hnum]; rfl)
  have HN2 := Lib.hid (show (numS T 0 0 2).2.1 = 2 by rw [hnum])
  have HN3 := Lib.hid (show (numS T 0 0 2).2.2 = 0 by rw [hnum])
  have HWr := Lib.hid (WrF.fresh w w.heap.size rfl 53)
  have HB0 := Lib.hid (below_alloc1 (Below.refl w.heap.size w) (Nat.le_refl _) (.cells #[.slice none 0 0] 53))
  clear hX hT hTl hnum
  go_enter Try.func12, Try.ntmps12
  go_wp2_with (first
    | (go_at_call 45; go_loud (with_reducible refine (u16F HWr.out [1, 2] 258 258 H258.out HX.out (by omega) (by decide)).mono ?_); rintro e3 w3 ⟨G3, rfl, hw3, hs3⟩; have B3 := Lib.hid (HB0.out.trans (hs3.below (Nat.le_trans (Nat.le_refl _) HB0.out.size) (fun k hk => Nat.le_of_eq hk.symm))); have G3L := Lib.hid (hs3.lo (fun k hk => Nat.le_of_eq (Eq.symm hk)) HB0.out.size))
    | (go_at_call 27; go_loud (with_reducible refine (bytesF hw3 2 rfl (by decide)).mono ?_); rintro e4 w4 ⟨A4, c4, rfl, hn4⟩; obtain ⟨a4, rfl, hc4⟩ := hn4.own.rb.at_ 0 (by decide); clear hc4; have p0 := hn4.own.rb.pick 0 _ rfl; have p1 := hn4.own.rb.pickN 1 (by decide) _ rfl; rw [e1, addr0] at p0; rw [e2] at p1; have B4 := Lib.hid (below_then B3.out hn4.below); have hw4 := hw3.new hn4.below))
  have hw4 : WrF w4 G3 w.heap.size ([1, 2] ++ laidT (l.take 0)) := by rw [← HT0.out]; exact hw4
  clear p0 p1
  go_loopw [7] (fun i wr => ∃ (j : Nat) (G : Nat → Prop), j ≤ l.length ∧ i = .int .i64 j ∧ WrF wr G w.heap.size ([1, 2] ++ laidT (l.take j)) ∧ (∀ k, G k → w.heap.size ≤ k) ∧ Below w.heap.size w wr) (fun i _ => l.length - (intOf i).toNat)
  case atStart => exact ⟨0, G3, Nat.zero_le _, rfl, hw4, G3L.out, B4.out⟩
  case round =>
    obtain ⟨j, G, hj, rfl, HW, HG, HB⟩ := hrel
    by_cases hlt : j < l.length
    · obtain ⟨a, o, rfl, ho, hmem, hok, k0, k1, k2⟩ := (h.new HB).at_ j hlt
      have hb1 := bulkT_take l j
      have hb2 := laidT_le (l.take j)
      have hb3 := bulkT_mem hmem
      have HQ := Lib.hid (show ([1, 2] ++ laidT (l.take j)) ++ laidL (kindT o.k) o.v o.P = [1, 2] ++ laidT (l.take (j + 1)) by rw [laidT_snoc l j o ho, List.append_assoc])
      have HL : Hid (([1, 2] ++ laidT (l.take j)).length + o.P.length + 10 ≤ 140737488355328) := Lib.hid (by simp only [List.length_append, List.length_cons, List.length_nil]; omega)
      have HFree : Hid (Free G o.A o.P) := Lib.hid (Free.of_old (h.ok o hmem).P.old HG)
      have hk0 := hok.k.1
      clear hb1 hb2 hb3 ho
      go_wp2_with (go_at_call 46; go_loud (with_reducible refine (toplay_calls HW o.k hk0 o.v o.A o.P o.P.length o.c _ HQ.out rfl hok.v hok.P HFree.out HL.out).mono ?_); rintro e5 w5 ⟨G5, rfl, hw5, hs5⟩)
      go_roundw
      case rel => exact ⟨j + 1, G5, by omega, by go_num, hw5, hs5.lo HG HB.size, HB.trans (hs5.below HB.size HG)⟩
      case measure => simp [intOf]; omega
    · obtain rfl : j = l.length := by omega
      rw [List.take_length, ← HT.out] at HW
      clear hlt hw4 hn4 hw3 hs3
      go_wp2_with (first
        | (go_at_call 27; go_loud (with_reducible refine (bytesF HW T.length rfl (by omega)).mono ?_); rintro e6 w6 ⟨A6, c6, rfl, hn6⟩; have hw6 := HW.new hn6.below; have B6 := Lib.hid (below_then HB hn6.below))
        | (go_at_call 26; go_loud (with_reducible refine (lenF hw6 T.length rfl).mono ?_); rintro e7 w7 ⟨rfl, rfl⟩)
        | (go_at_call 40; go_loud (with_reducible refine (newReader_own A6 T c6 T.length _ hn6.own.rb rfl (by omega)).mono ?_); rintro e8 w8 ⟨b8, F8, rfl, hr8, hf8, hb8⟩; have B8 := Lib.hid (below_then B6.out hb8))
        | (go_at_call 47; go_loud (with_reducible refine (ru16NW F8 b8 T 0 0 258 2 0 HN1.out HN2.out HN3.out _ hr8 (by omega)).mono ?_); rintro e9 w9 ⟨rfl, hr9, hg9⟩; have F8L : Hid (∀ k, F8 k → w.heap.size ≤ k) := Lib.hid (fun k hk => Nat.le_trans B6.out.size (hf8.lo k hk)); have S9 := Lib.hid (Step.of_grown hg9 hr8.lo); have B9 := Lib.hid (B8.out.trans (S9.out.below B8.out.size F8L.out))))
      have R9 : RB w9 A6 c6 T := (hn6.own.rb.new hb8).step S9.out (fun a ha hp hk => by have h1 := hf8.lo _ hk; have h2 := hn6.own.rb.old.out a ha hp; omega)
      have hFree : Free F8 A6 T := fun a ha hp hk => by have h1 := hf8.lo _ hk; have h2 := hn6.own.rb.old.out a ha hp; omega
      have HFree := Lib.hid hFree
      have hr9' : Rd w9 F8 b8 T ([1, 2] ++ laidT (l.take 0)).length 0 := by rw [← HT0.out]; exact hr9
      clear hFree
      go_loopw [10] (fun i wr => ∃ j : Nat, j ≤ l.length ∧ i = .int .i64 j ∧ Rd wr F8 b8 T ([1, 2] ++ laidT (l.take j)).length 0 ∧ RB wr A6 c6 T ∧ Below w.heap.size w wr) (fun i _ => l.length - (intOf i).toNat)
      case atStart => exact ⟨0, Nat.zero_le _, rfl, hr9', R9, B9.out⟩
      case round =>
        obtain ⟨j, hj, rfl, HR, HRB, HB⟩ := hrel
        by_cases hlt : j < l.length
        · obtain ⟨a, o, rfl, ho, hmem, hok, k0, k1, k2⟩ := (h.new HB).at_ j hlt
          have hb3 := bulkT_mem hmem
          have hk := kindT_range o.k hok.k.1
          have htk := take_laid T ([1, 2] ++ laidT (l.take j)).length (kindT o.k) o.v o.P.length o.P (laidT (l.drop (j + 1))) hk.1 hk.2 hok.v (by rw [HT.out]; exact drop_laidT _ l j o ho) (fun _ => rfl) (fun _ => Int.le_refl _) (by omega)
          have HTK := Lib.hid htk
          have HNX := Lib.hid (show ([1, 2] ++ laidT (l.take j)).length + (laidL (kindT o.k) o.v o.P).length = ([1, 2] ++ laidT (l.take (j + 1))).length by rw [laidT_snoc l j o ho, ← List.append_assoc]; exact List.length_append.symm)
          have HF2 : Hid (Free F8 o.A o.P) := Lib.hid (Free.of_old (h.ok o hmem).P.old F8L.out)
          have hk0 := hok.k.1
          have hpl : o.P.length ≤ 9223372036854775807 := by omega
          clear htk ho hk hb3
          go_wp2_with (go_at_call 48; go_loud (with_reducible refine (toptook_calls F8 b8 T _ 0 o.k hk0 o.v o.A o.P o.P.length o.c _ HR (by omega) hok.P HF2.out rfl hpl _ HTK.out).mono ?_); rintro e10 w10 ⟨r10, rfl, ht10⟩; obtain rfl : r10 = true := ht10.yes rfl)
          go_roundw
          case rel => exact ⟨j + 1, by omega, by go_num, by rw [← HNX.out]; exact ht10.rd, HRB.step ht10.step HFree.out, HB.trans (ht10.step.below HB.size F8L.out)⟩
          case measure => simp [intOf]; omega
        · obtain rfl : j = l.length := by omega
          rw [List.take_length, ← HT.out] at HR
          have HD := Lib.hid (show (0 : Int) = (doneE T T.length 0 : Nat) by unfold doneE; rw [if_pos (.inr rfl)]; rfl)
          clear hlt hr9' hr9 R9
          have hm1 : (0 : Int) ≤ (cut : Int) % (T.length : Int) := Int.emod_nonneg _ (by omega)
          have hm3 : cut % T.length < T.length := Nat.mod_lt _ (by omega)
          have hm2 : (cut : Int) % (T.length : Int) ≤ (c6 : Int) := by
            have := HRB.len
            have e : (cut : Int) % (T.length : Int) = ((cut % T.length : Nat) : Int) := by simp
            rw [e]; omega
          have HM := Lib.hid (show (T.take (cut % T.length)).length = cut % T.length by rw [List.length_take]; omega)
          have HMX := Lib.hid hm3
          clear hm3
          obtain ⟨M, hM⟩ : ∃ M, M = T.take (cut % T.length) := ⟨_, rfl⟩
          have HM2 := Lib.hid hM
          have HML := Lib.hid (show cut % T.length = M.length by rw [hM, HM.out])
          clear hM
          go_wp2_with (first
            | (go_at_call 24; go_loud (with_reducible refine (doneN F8 b8 T T.length 0 0 HD.out _ HR).mono ?_); rintro e11 w11 ⟨rfl, hd11⟩; have hr11 := HR.new (hd11.below _); have hrb11 := HRB.new (hd11.below _); have B11 := Lib.hid (HB.trans (hd11.below _)))
            | (go_at_call 25; go_loud (with_reducible refine (atN F8 b8 T T.length 0 T.length rfl _ hr11).mono ?_); rintro e12 w12 ⟨rfl, rfl⟩)
            | (go_at_call 40; go_loud (with_reducible refine (newReader_own A6 M c6 _ _ (by rw [HM2.out]; exact hrb11.take _) HML.out (by rw [← HML.out]; have := HMX.out; omega)).mono ?_); rintro e13 w13 ⟨b13, F13, rfl, hr13, hf13, hb13⟩; have B13 := Lib.hid (below_then B11.out hb13))
            | (go_at_call 47; go_loud (with_reducible refine (ru16NW F13 b13 M 0 0 _ _ _ rfl rfl rfl _ hr13 (by rw [← HML.out]; have := HMX.out; omega)).mono ?_); rintro e14 w14 ⟨rfl, hr14, hg14⟩; have F13L : Hid (∀ k, F13 k → w.heap.size ≤ k) := Lib.hid (fun k hk => Nat.le_trans B11.out.size (hf13.lo k hk)); have B14 := Lib.hid (B13.out.trans ((Step.of_grown hg14 hr13.lo).below B13.out.size F13L.out))))
          have HML3 : Hid (M.length ≤ 140737488355328) := Lib.hid (by rw [← HML.out]; have := HMX.out; omega)
          have hfirst : (numS M 0 0 2).2.2 ≠ 0 ∨ ((numS M 0 0 2).2.2 = 0 ∧ (numS M 0 0 2).2.1 = ([1, 2] ++ laidT (l.take 0)).length ∧ (numS M 0 0 2).2.1 ≤ M.length) := by
            rw [← HT0.out]
            unfold WireMath.numS
            rw [if_neg (by simp)]
            by_cases h2 : M.length - 0 < 2
            · rw [if_pos h2]; exact .inl (by simp)
            · rw [if_neg h2]; exact .inr ⟨rfl, rfl, by simp; omega⟩
          generalize hx1 : (numS M 0 0 2).2.1 = a14 at hr14 hfirst
          generalize hx2 : (numS M 0 0 2).2.2 = e14 at hr14 hfirst
          clear hx1 hx2 hm1 hm2 hrb11 hr11 HR HRB hr8 hf8 hg9 hr13
          have HFI := Lib.hid hfirst
          clear hfirst
          go_loopw [13] (fun i wr => ∃ (j at_ e : Nat), j ≤ l.length ∧ i = .int .i64 j ∧ Rd wr F13 b13 M at_ e ∧ Hid (e ≠ 0 ∨ (e = 0 ∧ at_ = ([1, 2] ++ laidT (l.take j)).length ∧ at_ ≤ M.length)) ∧ Below w.heap.size w wr) (fun i _ => l.length - (intOf i).toNat)
          case atStart => exact ⟨0, a14, e14, Nat.zero_le _, rfl, hr14, HFI, B14.out⟩
          case round =>
            obtain ⟨j, at_, e, hj, rfl, HR, HE, HB⟩ := hrel
            by_cases hlt : j < l.length
            · obtain ⟨a, o, rfl, ho, hmem, hok, k0, k1, k2⟩ := (h.new HB).at_ j hlt
              have hb3 := bulkT_mem hmem
              have hk := kindT_range o.k hok.k.1
              have HF2 : Hid (Free F13 o.A o.P) := Lib.hid (Free.of_old (h.ok o hmem).P.old F13L.out)
              have hk0 := hok.k.1
              have hpl : o.P.length ≤ 9223372036854775807 := by omega
              generalize hte : takeS M at_ e (kindT o.k) o.P.length = t
              have HTE := Lib.hid hte
              have HNX : Hid (t.e ≠ 0 ∨ (t.e = 0 ∧ t.at_ = ([1, 2] ++ laidT (l.take (j + 1))).length ∧ t.at_ ≤ M.length)) := Lib.hid (by
                by_cases he : e = 0
                · rcases HE.out with h1 | ⟨_, h2, h3⟩
                  · exact absurd he h1
                  · subst he
                    subst h2
                    rw [HM2.out] at hte
                    have h4 := take_less T (cut % T.length) ([1, 2] ++ laidT (l.take j)).length (kindT o.k) o.v o.P (laidT (l.drop (j + 1))) hk.1 hk.2 hok.v (by omega) (by rw [HT.out]; exact drop_laidT _ l j o ho) (by rw [HML.out]; exact h3) t hte
                    rcases h4 with h4 | ⟨h4, h5, h6⟩
                    · exact .inl h4
                    · refine .inr ⟨h4, ?_, by rw [← HML.out]; exact h6⟩
                      rw [h5, laidT_snoc l j o ho, ← List.append_assoc]; exact List.length_append.symm
                · have := takeS_fault M at_ e (kindT o.k) o.P.length he
                  rw [hte] at this
                  exact .inl (by rw [this]; exact he))
              clear ho hk hb3 hte
              go_wp2_with (go_at_call 48; go_loud (with_reducible refine (toptook_calls F13 b13 M at_ e o.k hk0 o.v o.A o.P o.P.length o.c _ HR HML3.out hok.P HF2.out rfl hpl t HTE.out).mono ?_); rintro e15 w15 ⟨r15, rfl, ht15⟩)
              go_roundw
              case rel => exact ⟨j + 1, t.at_, t.e, by omega, by go_num, ht15.rd, HNX, HB.trans (ht15.step.below HB.size F13L.out)⟩
              case measure => simp [intOf]; omega
            · obtain rfl : j = l.length := by omega
              have hne : e ≠ 0 := by
                rcases HE.out with h1 | ⟨_, h2, h3⟩
                · exact h1
                · rw [List.take_length, ← HT.out] at h2
                  have h4 := HMX.out
                  have h5 := HML.out
                  omega
              have hb : ((e : Int) != 0) = true := by rw [bne_iff_ne]; omega
              clear hne hlt
              go_wp2_with (go_at_call 30; go_loud (with_reducible refine (errN F13 b13 M at_ e e rfl _ HR).mono ?_); rintro e16 w16 ⟨rfl, rfl⟩)
              go_ret
              exact ⟨rfl, HB⟩
end Go.Proofs.Ytdpmalegpjimfab
