/- The walk of notarylaw05.EntryThere. -/
import Derived.Test.YtelecdncdaepnaaEntryMore
import Derived.Test.YtelecdncdaepnaaTwinBatch
namespace Go.Proofs.Ytelecdncdaepnaa
open Go.RowKit
open WireMath (numS beN rawS blobS uvarS grpL uvarL wideL)

set_option maxHeartbeats 8000000 in
set_option maxRecDepth 100000 in
theorem entryThere_calls (V : Int) (hV0 : 0 ≤ V) (hV1 : V ≤ 18446744073709551615) (A : Option Addr) (es : List EnX) (n c : Nat) (m : Int) (r : Rt) (hr : RtOk r) (w : World) (h : Ents w A es) (hn : n = es.length) (hl : n * 56 ≤ 140737488351232) (hs0 : ∀ x ∈ es, x.1.K.length ≤ 140737488351232 ∧ x.1.V.length ≤ 140737488351232) :
    Calls Try.prog 9 #[.agg #[.int .u64 V, .slice A n c], .int .i64 m, .agg (rtL r).toArray] w fun e w' => e = .returned (.bool true) ∧ Below w.heap.size w w' := by
  obtain ⟨f, rfl⟩ := Int.eq_ofNat_of_zero_le hV0
  obtain ⟨L, hL⟩ : ∃ L, L = rtL r := ⟨_, rfl⟩
  rw [← hL]
  have hc : L.length = 65 := by rw [hL]; exact rtL_length r hr
  have hs : SmallEs es := fun x hx => by have := hs0 x hx; omega
  have hf : f ≤ 18446744073709551615 := by omega
  have hl5 : n * 56 ≤ 140737488355328 := by omega
  have hl6 : n ≤ 9223372036854775807 := by omega
  obtain ⟨wa, hwa⟩ : ∃ wa : World, wa = (w.alloc (.cells #[.int .u64 f, .slice A n c] 34)).alloc (.cells L.toArray 63) := ⟨_, rfl⟩
  have HZ := Lib.hid (show wa.heap.size = w.heap.size + 1 + 1 by rw [hwa]; exact asz2 _ _ _)
  have HB := Lib.hid (show Below w.heap.size w wa by rw [hwa]; exact alloc2 _ _ _)
  have HT := Lib.hid (show Duo wa w.heap.size (.int .u64 f) (.slice A n c) by rw [hwa]; exact (Duo.fresh w w.heap.size rfl (.int .u64 f) (.slice A n c) 34).new (below_alloc1 (Below.refl _ _) (Nat.le_refl _) (.cells L.toArray 63)))
  have HR := Lib.hid (show RtAt wa (w.heap.size + 1) 63 r by rw [hwa]; exact RtAt.fresh (w.alloc (.cells #[.int .u64 f, .slice A n c] 34)) (w.heap.size + 1) (szA _ _).symm 63 r hr L.toArray (by rw [hL]))
  have HWA := Lib.hid hwa
  have HN := Lib.hid hn
  have HOK := Lib.hid hr
  obtain ⟨q, e, hq⟩ : ∃ q e, encBF f (ensOf es) = (q, e) := ⟨_, _, rfl⟩
  have hql : q.length ≤ 22000 := by have := encBF_len2 f (ensOf es); rw [hq] at this; exact this
  obtain ⟨te, tf, tl, ht⟩ : ∃ te tf tl, decB q = ⟨te, tf, tl⟩ := ⟨_, _, _, rfl⟩
  obtain ⟨rq, rg, hrq⟩ : ∃ rq rg, encR m r = (rq, rg) := ⟨_, _, rfl⟩
  have hrl : rq.length ≤ 72 := by have := encR_len m r; rw [hrq] at this; exact this
  obtain ⟨de, X, hX⟩ : ∃ de X, decR m rq = (de, X) := ⟨_, _, rfl⟩
  have hXo : RtOk X := by have := decR_ok2 m rq; rw [hX] at this; exact this
  have HQ := Lib.hid hq
  have HTQ := Lib.hid ht
  have HRQ := Lib.hid hrq
  have HX := Lib.hid hX
  have HXO := Lib.hid hXo
  have hA2 : (e = 0 ∧ te = 0 ∧ tf = f ∧ tl = ensOf es) ∨ ((e : Int) == 0) = false := by
    by_cases h : e = 0
    · subst h
      have := decB_laid f (ensOf es) q hq
      rw [ht] at this
      injection this with h1 h2 h3
      exact .inl ⟨rfl, h1, h2, h3⟩
    · exact .inr (by rw [beq_eq_false_iff_ne]; omega)
  have hC2 : (rg = 0 ∧ de = 0 ∧ X = r ∧ 1 ≤ m ∧ m ≤ 32 ∧ (rq.length : Int) = 8 + 2 * m) ∨ ((rg : Int) != 0) = true := by
    by_cases h : rg = 0
    · subst h
      obtain ⟨h1, h2⟩ := decR_laid m r hr rq hrq
      rw [hX] at h1
      injection h1 with h3 h4
      have hw : wideF m = 0 := by
        unfold encR at hrq
        split at hrq
        · injection hrq with _ h9; exact absurd h9 (by decide)
        · omega
      have := wide0 m hw
      exact .inl ⟨rfl, h3, h4, this.1, this.2, by omega⟩
    · exact .inr (by rw [bne_iff_ne]; omega)
  have HC2 := Lib.hid hC2
  have HEL := Lib.hid (show (ensOf es).length = es.length by simp [ensOf])
  have HE := fun w => run_equalRR2 w r hr
  clear hL hq ht hrq hX hXo hwa hr hs0 hl hn hC2
  rcases hA2 with ⟨rfl, rfl, rfl, rfl⟩ | hA2
  all_goals
    go_enter Try.func9, Try.ntmps9
    go_wp2_with (first
      | (go_at_call 13; rw [← HWA.out]; (with_reducible refine (awake5_calls _).mono ?_); rintro r0 w0 ⟨rfl, hb0⟩; have B0 := Lib.hid hb0; have T0 := HT.out.new hb0; have hz0 := T0.lt; have x0 := T0.c0; have x1 := T0.c1)
      | (go_at_call 17; (with_reducible refine (twinB_calls _ A es n c _ (h.new (below_then HB.out B0.out)) HN.out hl5 hs).mono ?_); rintro r1 w1 ⟨A1, c1, ds, rfl, hl1, hd1, hb1⟩; have B1 := Lib.hid (below_then B0.out hb1); have T1 := T0.new hb1; have HQ1 := HQ; rw [← hd1] at HQ1)
      | (go_at_call 16; (with_reducible refine (encB_calls _ _ rfl hf A1 n c1 ds _ hl1.reads hl1.len hl6 q _ HQ1.out).mono ?_); rintro r2 w2 ⟨A2, c2, rfl, hn2⟩; have B2 := Lib.hid (below_then B1.out hn2.below); have T2 := T1.new hn2.below)
      | (go_at_call 21; (with_reducible refine (decBN2 A2 q _ c2 _ hn2.own.rb rfl (by omega) _ _ _ HTQ.out).mono ?_); rintro r3 w3 ⟨A3, c3, rfl, hn3⟩; obtain ⟨⟨es3, he3, hl3, ho3⟩, hb3⟩ := hn3; have HL3 := Lib.hid hl3; have HE3 := Lib.hid he3; clear hl3 he3; have nb3 := fun X => below_alloc1 (Below.refl w3.heap.size w3) (Nat.le_refl _) (.cells X 34); have U3 := fun x y => Duo.fresh w3 w3.heap.size rfl x y 34; have B3 := Lib.hid (below_then B2.out hb3); have O3 := Lib.hid (fun X => ho3.new (nb3 X)); have T3 := T2.new hb3; have hz3 := T3.lt; have y0 := T3.c0; have y1 := T3.c1; clear ho3; have B4 := Lib.hid (fun X => below_then B3.out (nb3 X)); have st := trivial)
      | (go_at_call 26; (with_reducible refine (sameB_calls _ A A3 es es3 _ _ c c3 HN.out HEL.out _ (h.new (below_then HB.out (B4.out _))) (O3.out _) HE3.out.symm hl6).mono ?_); rintro r4 w4 ⟨rfl, hb4⟩; have B5 := Lib.hid (below_then (B4.out _) hb4); have T5 := (T3.new (nb3 _)).new hb4; have y0 := T5.c0; have y1 := T5.c1; have hz5 := T5.lt))
    go_loopw [12, 13, 14, 15, 16, 49] (fun _ _ _ _ _ iv wr => ∃ j : Nat, j ≤ n ∧ iv = .int .i64 j ∧ Below wa.heap.size wa wr) (fun _ _ _ _ _ iv _ => n - (intOf iv).toNat)
    case atStart => exact ⟨0, Nat.zero_le _, rfl, by first | exact B5.out | exact B4.out _⟩
    case round =>
      obtain ⟨j, hj, rfl, HBI⟩ := hrel
      by_cases hlt : j < n
      · obtain ⟨a, o, x, rfl, ho, hmem, hok, k0, k1, k2⟩ := (h.new (below_then HB.out HBI)).at_ j (by rw [← HN.out]; exact hlt)
        have s1 := hs _ hmem
        have hko := hok.k
        clear ho
        obtain ⟨pe, ge, hpe⟩ : ∃ pe ge, encE o = (pe, ge) := ⟨_, _, rfl⟩
        have hpl : pe.length ≤ 341 := by have := encE_len2 o; rw [hpe] at this; exact this
        have hge := encE_err o pe ge hpe
        obtain ⟨fe, yv, hyv⟩ : ∃ fe yv, decF pe = (fe, yv) := ⟨_, _, rfl⟩
        have hyk : yv.k ≤ 255 := by have := decF_k2 pe; rw [hyv] at this; exact this
        have hG : (ge = 0 ∧ fe = 0 ∧ yv = o) ∨ ((ge : Int) == 0) = false := by
          by_cases h0 : ge = 0
          · subst h0
            have := decF_laid o pe hpe
            rw [hyv] at this
            injection this with h1 h2
            exact .inl ⟨rfl, h1, h2⟩
          · exact .inr (by rw [beq_eq_false_iff_ne]; omega)
        have hgg : ((ge : Int) != ge) = false := by simp
        have HPE := Lib.hid hpe
        have HYV := Lib.hid hyv
        have HCK := Lib.hid (show ((chkF o : Nat) : Int) = (ge : Int) by rw [hge])
        have EX := Lib.hid (Trio.fresh wr wr.heap.size rfl (.int .u8 o.k) (.slice x.KA o.K.length x.kc) (.slice x.VA o.V.length x.vc) 26)
        have OX := Lib.hid (hok.new (below_alloc1 (Below.refl wr.heap.size wr) (Nat.le_refl _) (.cells #[.int .u8 o.k, .slice x.KA o.K.length x.kc, .slice x.VA o.V.length x.vc] 26)))
        have BX := Lib.hid (belowA HBI (.cells #[.int .u8 o.k, .slice x.KA o.K.length x.kc, .slice x.VA o.V.length x.vc] 26))
        have mk0 : Nat := 0
        clear hpe hyv hge
        rcases hG with ⟨rfl, rfl, rfl⟩ | hG
        all_goals
          go_wp2_with (first
            | (go_at_call 23; have mk := mk0; clear mk mk0; (with_reducible refine (twinEntry_calls _ x _ _ rfl rfl _ OX.out s1.1 s1.2).mono ?_); rintro r6 w6 ⟨a6, rfl, hn6⟩; have E6 := EX.out.new hn6.below; have O6 := Lib.hid (OX.out.new hn6.below); have B6 := Lib.hid (below_then BX.out hn6.below); have N6 := Lib.hid (hn6.ok hko))
            | (go_at_call 22; (with_reducible refine (encEN2 _ a6 _ _ rfl rfl _ N6.out pe _ HPE.out).mono ?_); rintro r7 w7 ⟨A7, c7, rfl, hn7⟩; have E7 := E6.new hn7.below; have O7 := Lib.hid (O6.out.new hn7.below); have B7 := Lib.hid (below_then B6.out hn7.below))
            | (go_at_call 24; (with_reducible refine (decEN2 A7 pe _ c7 _ hn7.own.rb rfl (by omega) _ _ HYV.out).mono ?_); rintro r8 w8 ⟨a8, rfl, hn8⟩; have E8 := E7.new hn8.below; have hz8 := E8.lt; have z0 := E8.c0; have z1 := E8.c1; have z2 := E8.c2; have nb8 := fun X => below_alloc1 (Below.refl w8.heap.size w8) (Nat.le_refl _) (.cells X 26); have O8 := Lib.hid (O7.out.new hn8.below); have N8 := Lib.hid (hn8.ok hyk); have B8 := Lib.hid (below_then B7.out hn8.below); have B9 := Lib.hid (fun X => below_then B8.out (nb8 X)))
            | (go_at_call 27; (with_reducible refine (sameE_calls _ x a8 _ _ _ _ rfl rfl rfl rfl _ (O8.out.new (nb8 _)) (N8.out.new (nb8 _))).mono ?_); rintro r9 w9 ⟨rfl, hb9⟩; have E9 := (E8.new (nb8 _)).new hb9; have z0 := E9.c0; have z1 := E9.c1; have z2 := E9.c2; have hz9 := E9.lt; have BS := Lib.hid (below_then (B9.out _) hb9); have OS := Lib.hid ((O8.out.new (nb8 _)).new hb9))
            | (go_at_call 23; (with_reducible refine (twinEntry_calls _ x _ _ rfl rfl _ (by first | exact OS.out | exact O8.out.new (nb8 _)) s1.1 s1.2).mono ?_); rintro r10 wb ⟨ab, rfl, hnb⟩; have BT := Lib.hid (below_then (by first | exact BS.out | exact B9.out _) hnb.below))
            | (go_at_call 37; (with_reducible refine (checkN _ ab.KA ab.VA _ _ ab.kc ab.vc _ rfl rfl _ HCK.out).mono ?_); rintro r11 wc ⟨rfl, hbc⟩; have BC := Lib.hid (below_then BT.out hbc)))
          go_roundw
          case rel => exact ⟨j + 1, by omega, by go_num, BC.out⟩
          case measure => simp [intOf]; omega
      · obtain rfl : j = n := by omega
        have RT := Lib.hid (HR.out.keep HBI (by rw [HZ.out]; omega))
        have hcases := HC2.out
        clear hlt y0 y1
        rcases hcases with ⟨rfl, rfl, rfl, hm1, hm2, hlen⟩ | hC
        all_goals
          first
            | (obtain ⟨k, rfl⟩ := Int.eq_ofNat_of_zero_le (show 0 ≤ m by omega); have hk : k ≤ 32 := by omega; have hlen2 : ((rq.length : Int) == 8 + 2 * (k : Int)) = true := by { rw [beq_iff_eq]; exact hlen }; clear hlen hm1 hm2)
            | skip
          go_wp2_with (first
            | (refine wp_op_is (.load 63 (.tmp 5)) rfl ?_; refine wp_load_part rfl 63 _ rfl _ rfl (rtL _).toArray RT.out.all _ Try.underlying63 rfl (sizeR _ HOK.out) ?_)
            | (go_at_call 33; (with_reducible refine (encodeRootN2 _ _ HOK.out _ rq _ HRQ.out _ rfl).mono ?_); rintro r20 wd ⟨Ad, cd, rfl, hnd⟩; have RD := Lib.hid (RT.out.new hnd.below); have BD := Lib.hid (below_then HBI hnd.below))
            | (go_at_call 35; (with_reducible refine (decodeRoot_calls _ Ad rq _ cd _ hnd.own.rb rfl (by omega) _ X HX.out).mono ?_); rintro r21 wf ⟨rfl, hbf⟩; have RF := Lib.hid ((RD.out.new hbf).new (below_alloc1 (Below.refl _ _) (Nat.le_refl _) (.cells Try.zeroCells63 63))); have BF := Lib.hid (belowA (below_then BD.out hbf) (.cells Try.zeroCells63 63)); have QF := Lib.hid (Row.fresh wf wf.heap.size rfl 63 (rtL zeroR) _ zeroCellsR); have hzf : w.heap.size + 1 < wf.heap.size := by { have h1 := (RD.out.new hbf).row.lt; exact h1 }; have hzg : wa.heap.size ≤ wf.heap.size := (below_then BD.out hbf).size)
            | (refine wp_op_is (.store 63 (.tmp 19) (.tmp 94)) rfl ?_; refine wp_store_part rfl 63 _ _ rfl wf.heap.size 0 _ rfl rfl _ _ (by exact QF.out.out) (sizeR _ HXO.out) (Nat.le_of_eq (by rw [List.size_toArray, List.size_toArray, rtL_length _ HXO.out, rtL_length _ zeroR_ok])) (rtL_one _) ?_; have GG := row_grown (wf.alloc (.cells Try.zeroCells63 63)) wf.heap.size (splice (rtL zeroR).toArray.toList 0 (rtL X).toArray.toList).toArray; have QG := Lib.hid (QF.out.put 0 (rtL X).toArray.toList (rtL X) (splice_all _ _ ((rtL_length _ zeroR_ok).trans (rtL_length _ HXO.out).symm))); have RG := Lib.hid (RF.out.row.grown GG (by omega)); have BG := Lib.hid (grown_below BF.out GG BF.out.size hzg))
            | (refine wp_op_is (.load 63 (.tmp 19)) rfl ?_; refine wp_load_partW (by rfl) 63 _ rfl _ rfl (rtL X).toArray (QG.out.part [] [] (rtL X) (by simp) 0 rfl _ rfl) _ Try.underlying63 rfl (sizeR _ HXO.out) ?_)
            | (refine wp_op_is (.load 63 (.tmp 5)) rfl ?_; refine wp_load_partW (by rfl) 63 _ rfl _ rfl (rtL _).toArray (RG.out.part [] [] (rtL _) (by simp) 0 rfl _ rfl) _ Try.underlying63 rfl (sizeR _ HOK.out) ?_))
          go_ret
          exact ⟨rfl, below_then HB.out BG.out⟩
end Go.Proofs.Ytelecdncdaepnaa
