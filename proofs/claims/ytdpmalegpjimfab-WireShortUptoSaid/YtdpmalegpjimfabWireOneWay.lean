/- WireOneWay. -/
import Derived.Test.YtdpmalegpjimfabWireAsk
namespace Go.Proofs.Ytdpmalegpjimfab
open Go.RowKit

theorem run_cut_h (w : World) (A : Option Addr) (n c : Nat) (H : Int) (h : Nat) (hH : H = h) (h2 : h ≤ c) :
    (Instr.slice 23 (.slice A n c) none (some (.int .i64 H)) none).run Try.prog w = .ok (.slice A h c) w := by
  subst hH
  have hs : (sizeOf (Try.prog.elem 23)).run Try.prog w = .ok 1 w := by kernel_rfl
  rw [run_slice_h w 23 A n c (by kernel_rfl) .i64 h (by omega) (by omega), hs]
  have e : (if c = 0 then A else Option.map (fun x : Addr => x.add 0) A) = A := by
    split
    · rfl
    · cases A with
      | none => rfl
      | some a => rfl
  simp only [Result.andThen, sliced, Int.toNat_natCast, Nat.zero_mul, Nat.sub_zero]
  rw [e]
/-- a fault leaves the place -/
theorem take_stays (W : List UInt8) (at_ : Nat) (k n : Int) (t : Took) (ht : takeS W at_ 0 k n = t) (he : t.e ≠ 0) : t.at_ = at_ := by
  subst ht
  unfold takeS at he ⊢
  split
  · rename_i h
    rw [if_pos h] at he
    unfold WireMath.numS at he ⊢
    rw [if_neg (by simp)] at he ⊢
    split
    · rfl
    · rename_i h2; rw [if_neg h2] at he; exact absurd rfl he
  · rename_i h
    rw [if_neg h] at he
    split
    · rename_i h5
      rw [if_pos h5] at he
      unfold WireMath.uvarS at he ⊢
      rw [if_neg (by simp)] at he ⊢
      simp only at he ⊢
      by_cases hg : (WireMath.grpL (W.drop at_)).2 = 0
      · rw [hg]; rfl
      · rw [if_neg hg] at he; exact absurd rfl he
    · rename_i h5
      rw [if_neg h5] at he
      split
      · rename_i h6
        rw [if_pos h6] at he
        unfold WireMath.rawS at he ⊢
        rw [if_neg (by simp)] at he ⊢
        repeat' split
        all_goals first
          | rfl
          | (simp_all)
      · rename_i h6
        rw [if_neg h6] at he
        split
        · rename_i h7
          rw [if_pos h7] at he
          unfold WireMath.blobS at he ⊢
          rw [if_neg (by simp)] at he ⊢
          repeat' split
          all_goals first
            | rfl
            | (simp_all)
        · rfl

set_option maxHeartbeats 400000 in
set_option maxRecDepth 100000 in
theorem wireOneWay_calls (A0 : Option Addr) (W : List UInt8) (n0 c0 : Nat) (A : Option Addr) (l : List OpV) (n c : Nat) (w : World) (hp : RB w A0 c0 W) (hn0 : n0 = W.length) (hW1 : W.length ≤ 140737488351232) (h : Ops w A l) (hn : n = l.length) (hlen : l.length ≤ 9223372036854775807) :
    Calls Try.prog 10 #[.slice A0 n0 c0, .slice A n c] w fun e w' => e = .returned (.bool true) ∧ Below w.heap.size w w' := by
  subst hn; subst hn0
  have hW2 : W.length ≤ 140737488355328 := by omega
  go_enter Try.func10, Try.ntmps10
  go_wp2_with (first
    | (go_at_call 23; (with_reducible refine (awake_calls _).mono ?_); rintro e0 w0 ⟨rfl, hb0⟩)
    | (go_at_call 15; (with_reducible refine (twinR A0 W W.length c0 _ (hp.new hb0) rfl hW2).mono ?_); rintro e1 w1 ⟨A1, c1, rfl, hn1⟩)
    | (go_at_call 40; (with_reducible refine (newReader_own A1 W c1 _ _ hn1.own.rb rfl hW2).mono ?_); rintro e2 w2 ⟨b, F, rfl, hr2, hf2, hb2⟩))
  have hB2 := below_then (below_then hb0 hn1.below) hb2
  have hFlo : ∀ k, F k → w.heap.size ≤ k := fun k hk => by have := hf2.lo k hk; have := (below_then hb0 hn1.below).size; omega
  have hB3 := belowA hB2 (.cells #[.slice none 0 0] 53)
  have hW0 := WrF.fresh w2 w2.heap.size rfl 53
  have hr3 := hr2.new (below_alloc1 (Below.refl w2.heap.size w2) (Nat.le_refl _) (.cells #[.slice none 0 0] 53))
  have hd0 : Disj F (· = w2.heap.size) := fun k hk e => by have := hf2.hi k hk; have e : k = w2.heap.size := e; omega
  go_loopw [20] (fun i wr => ∃ (j at_ : Nat) (G : Nat → Prop), j ≤ l.length ∧ i = .int .i64 j ∧ at_ ≤ W.length ∧ Rd wr F b W at_ 0 ∧ WrF wr G w2.heap.size (W.take at_) ∧ Disj F G ∧ (∀ k, G k → w.heap.size ≤ k) ∧ Below w.heap.size w wr ∧ w2.heap.size ≤ wr.heap.size) (fun i _ => l.length - (intOf i).toNat)
  case atStart => exact ⟨0, 0, _, Nat.zero_le _, rfl, Nat.zero_le _, hr3, hW0, hd0, fun k hk => by have e : k = w2.heap.size := hk; rw [e]; exact hB2.size, hB3, (below_alloc1 (Below.refl w2.heap.size w2) (Nat.le_refl _) _).size⟩
  case round =>
    obtain ⟨j, at_, G, hj, rfl, hat, HRd, HWr, HD, HGlo, HB, hwr⟩ := hrel
    have h0 := Lib.hid (show (0 : Int) = ((0 : Nat) : Int) from rfl)
    have htl : (W.take at_).length = at_ := by rw [List.length_take]; omega
    have HTL := Lib.hid (show (at_ : Int) = ((W.take at_).length : Nat) by rw [htl])
    clear htl
    by_cases hlt : j < l.length
    · obtain ⟨a, o, rfl, ho, hmem, hok, k0, k1, k2, k3⟩ := (h.new HB).at_ j hlt
      have HX := Lib.hid (below_alloc1 (Below.refl wr.heap.size wr) (Nat.le_refl _) (.cells #[.int .i64 o.k, .int .u64 o.v, .int .i64 o.n, .slice o.A o.P.length o.c] 60))
      by_cases hk : 1 ≤ o.k ∧ o.k ≤ 7
      · obtain ⟨hk1, hk7⟩ := hk
        have b1 : ¬ o.k < 1 := by omega
        have b7 : ¬ 7 < o.k := by omega
        have hn2 := hok.n.2
        generalize hte : takeS W at_ 0 o.k o.n = t
        have HTE := Lib.hid hte
        have HQ := Lib.hid (Quad.fresh wr wr.heap.size rfl (.int .i64 o.k) (.int .u64 o.v) (.int .i64 o.n) (.slice o.A o.P.length o.c) 60)
        have HNF : Hid (¬ F wr.heap.size) := Lib.hid (fun e => by have := hf2.hi _ e; omega)
        by_cases he : t.e = 0
        · obtain ⟨t1, t2, t3, t4, t5⟩ := take_back W at_ o.k o.n t hk1 hk7 hat hn2 hte he
          obtain ⟨tv, tq, ta, te⟩ := t
          simp only at t1 t2 t3 t4 t5 he
          subst he
          have hnew : W.take at_ ++ laidL o.k tv tq = W.take ta := by
            rw [t3, ← List.take_add]; congr 1; omega
          have hln : (W.take ta).length = ta := by rw [List.length_take]; omega
          have HLN := Lib.hid (show ta = (W.take ta).length from hln.symm)
          have HNW := Lib.hid hnew
          have hlw : (W.take at_).length + tq.length + 10 ≤ 140737488355328 := by rw [List.length_take]; omega
          have hcap := hp.len
          have hcut := fun w' : World => run_cut_h w' A0 W.length c0 ta ta rfl (by omega)
          clear hnew hln hte t3 ho
          go_wp2_with (first
            | (go_at_call 29; go_loud (with_reducible refine (wtake_calls F b W at_ 0 o.k o.v o.n o.A o.P.length o.c _ (HRd.new HX.out) hW2 hn2 ⟨tv, tq, ta, 0⟩ HTE.out tv rfl tq.length rfl).mono ?_); rintro e6 w6 ⟨A6, c6, rfl, ht6⟩; have q6 := HQ.out.step ht6.step HNF.out; have d0 := q6.c0; have d1 := q6.c1; have d2 := q6.c2; have d3 := q6.c3; have HW6 := (HWr.new HX.out).step ht6.step HD.symm; have B6 := Lib.hid ((below_then HB HX.out).trans (ht6.step.below (Nat.le_trans HB.size HX.out.size) hFlo)))
            | (go_at_call 30; go_loud (with_reducible refine (errN F b W ta 0 0 h0.out _ ht6.rd).mono ?_); rintro e8 w8 ⟨rfl, rfl⟩)
            | (go_at_call 28; go_loud (with_reducible refine (wlay_calls HW6 o.k tv 0 A6 tq tq.length c6 (W.take ta) HNW.out rfl t4 ht6.own.rb (Free.of_new ht6.own.lo (fun k hk => Nat.lt_of_lt_of_le (HWr.lt k hk) HX.out.size)) hlw).mono ?_); rintro e9 w9 ⟨G9, rfl, hw9, hs9⟩; have hr9 := ht6.rd.step hs9 HD; have B9 := Lib.hid (B6.out.trans (hs9.below B6.out.size HGlo)))
            | (go_at_call 25; go_loud (with_reducible refine (at_calls F b W ta 0 _ hr9).mono ?_); rintro e10 w10 ⟨rfl, rfl⟩)
            | (go_at_call 27; go_loud (with_reducible refine (bytesF hw9 ta HLN.out (by have := HLN.out; omega)).mono ?_); rintro e11 w11 ⟨A11, c11, rfl, hn11⟩; have hr11 := hr9.new hn11.below; have B11 := Lib.hid (below_then B9.out hn11.below))
            | (go_at_call 25; go_loud (with_reducible refine (at_calls F b W ta 0 _ hr11).mono ?_); rintro e12 w12 ⟨rfl, rfl⟩)
            | (go_at_call 32; go_loud (with_reducible refine (sameR A11 A0 (W.take ta) (W.take ta) ta ta c11 c0 _ hn11.own.rb ((hp.new B11.out).take ta) HLN.out HLN.out true (by simp)).mono ?_); rintro e13 w13 ⟨rfl, hd13⟩))
          go_roundw
          case rel =>
            have N := below_then hn11.below (hd13.below _)
            have S6 := Nat.le_trans (Nat.le_trans hwr HX.out.size) ht6.step.size
            exact ⟨j + 1, ta, G9, by omega, by go_num, t2, hr9.new N, hw9.new N, (HD.step hs9 (fun k hk => by have := hf2.hi k hk; omega)), hs9.lo HGlo B6.out.size, B11.out.trans (hd13.below _), Nat.le_trans (Nat.le_trans S6 hs9.size) N.size⟩
          case measure => simp [intOf]; omega
        · have hst := take_stays W at_ o.k o.n t hte he
          obtain ⟨tv, tq, ta, te⟩ := t
          simp only at hst he
          subst hst
          have hb : ((te : Int) != 0) = true := by rw [bne_iff_ne]; omega
          clear hte he ho
          go_wp2_with (first
            | (go_at_call 29; go_loud (with_reducible refine (wtake_calls F b W ta 0 o.k o.v o.n o.A o.P.length o.c _ (HRd.new HX.out) hW2 hn2 ⟨tv, tq, ta, te⟩ HTE.out tv rfl tq.length rfl).mono ?_); rintro e6 w6 ⟨A6, c6, rfl, ht6⟩; have HW6 := (HWr.new HX.out).step ht6.step HD.symm; have B6 := Lib.hid ((below_then HB HX.out).trans (ht6.step.below (Nat.le_trans HB.size HX.out.size) hFlo)))
            | (go_at_call 30; go_loud (with_reducible refine (err_calls F b W ta te _ ht6.rd).mono ?_); rintro e8 w8 ⟨rfl, rfl⟩)
            | (go_at_call 25; go_loud (with_reducible refine (at_calls F b W ta te _ ht6.rd).mono ?_); rintro e10 w10 ⟨rfl, rfl⟩)
            | (go_at_call 26; (with_reducible refine (lenF HW6 ta HTL.out).mono ?_); rintro e4 w4 ⟨rfl, rfl⟩))
          go_ret
          exact ⟨ret_bool (by simp), B6.out⟩
      · clear ho
        rcases (by omega : o.k < 1 ∨ (¬ o.k < 1 ∧ 7 < o.k)) with b1 | ⟨b1, b7⟩
        all_goals
          clear hk
          go_wp2
          go_roundw
          case rel => exact ⟨j + 1, at_, G, by omega, by go_num, hat, HRd.new HX.out, HWr.new HX.out, HD, HGlo, below_then HB HX.out, Nat.le_trans hwr HX.out.size⟩
          case measure => simp [intOf]; omega
    · obtain rfl : j = l.length := by omega
      clear hlt
      go_wp2_with (first
        | (go_at_call 25; (with_reducible refine (at_calls F b W at_ 0 _ HRd).mono ?_); rintro e3 w3 ⟨rfl, rfl⟩)
        | (go_at_call 26; (with_reducible refine (lenF HWr at_ HTL.out).mono ?_); rintro e4 w4 ⟨rfl, rfl⟩))
      go_ret
      exact ⟨ret_bool (by simp), HB⟩
end Go.Proofs.Ytdpmalegpjimfab
