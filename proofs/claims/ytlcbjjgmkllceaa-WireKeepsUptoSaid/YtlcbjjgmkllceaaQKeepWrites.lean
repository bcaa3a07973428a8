import Derived.Test.YtlcbjjgmkllceaaQKeepPush
/- WireKeeps: the writer's half. -/
namespace Go.Proofs.Ytlcbjjgmkllceaa
open Go.RowKit
attribute [local go_sem ↓] Go.wp_at_zero Go.wp_at_succ

set_option maxHeartbeats 1600000 in
set_option maxRecDepth 100000 in
theorem keepWrites_calls (A : Option Addr) (l : List OpV) (n c : Nat) (w : World) (h : Ops w A l) (hn : n = l.length) (hs : bulkOps l ≤ 1048576) :
    Calls Try.prog 16 #[.slice A n c] w fun e w' => e = .returned (.bool true) ∧ Below w.heap.size w w' := by
  subst hn
  have hlen := Nat.le_trans (bulk_len l) hs
  have htot := laidAll_le l
  have HFr := Lib.hid (WrF.fresh w w.heap.size rfl 67)
  have HB0 := Lib.hid (below_alloc1 (Below.refl w.heap.size w) (Nat.le_refl _) (.cells #[.slice none 0 0] 67))
  go_enter Try.func16, Try.ntmps16
  go_wp2
  go_loopw [4, 5, 6, 16] (fun va vt vw iv wr => ∃ (j : Nat) (F : Nat → Prop) (A1 A2 A3 : Option Addr) (c1 n2 c2 n3 c3 : Nat) (hs gs : List Hd) (ps : List (List UInt8)), j ≤ l.length ∧ iv = .int .i64 j ∧ va = .slice A1 (laidAll (l.take j)).length c1 ∧ vt = .slice A2 n2 c2 ∧ vw = .slice A3 n3 c3 ∧ n2 = hs.length ∧ n3 = gs.length ∧ TL w wr (.slice A1 (laidAll (l.take j)).length c1) (.slice A2 n2 c2) (.slice A3 n3 c3) (laidAll (l.take j)) hs gs ps ps ∧ hs.length ≤ 26 ∧ (∀ p ∈ ps, p.length + 90 ≤ 140737488355328) ∧ WrF wr F w.heap.size (laidAll (l.take j)) ∧ (∀ k, F k → w.heap.size ≤ k ∧ ¬ TLb (.slice A1 (laidAll (l.take j)).length c1) (.slice A2 n2 c2) (.slice A3 n3 c3) hs gs k) ∧ Below w.heap.size w wr) (fun _ _ _ i _ => l.length - (intOf i).toNat)
  case atStart => exact ⟨0, _, none, none, none, 0, 0, 0, 0, 0, [], [], [], Nat.zero_le _, rfl, rfl, rfl, rfl, rfl, rfl, TL.start _ _, by simp, by simp, HFr.out, fun k hk => ⟨by omega, by rintro (e | e | e | ⟨x, hx, _⟩ | ⟨x, hx, _⟩) <;> simp_all [Value.ownBlock]⟩, HB0.out⟩
  case round =>
    obtain ⟨j, F, A1, A2, A3, c1, n2, c2, n3, c3, hs', gs, ps, hj, rfl, rfl, rfl, rfl, hn2, hn3, HT, hl26, hps, HW, HF, HB⟩ := hrel
    have hb2 := laidAll_le (l.take j)
    have hb1 := bulk_take l j
    have HTX := Lib.hid HT
    have HN2 := Lib.hid hn2
    have HN3 := Lib.hid hn3
    have HPS := Lib.hid hps
    have HWX := Lib.hid HW
    have HFX := Lib.hid HF
    have HBX := Lib.hid HB
    have HL26 := Lib.hid hl26
    have HGL : Hid (gs.length = hs'.length) := Lib.hid (by rw [HTX.out.gl, HTX.out.hl])
    clear HT hn2 hn3 hps HW HF hl26
    by_cases hlt : j < l.length
    · obtain ⟨a, o, rfl, ho, hmem, hok, h0, h1, h2, h3⟩ := (h.new HB).at_ j hlt
      have HE := Lib.hid (laidAll_snoc l j o ho).symm
      have hb3 := bulk_mem hmem
      have hb5 := laidAll_le (l.take (j + 1))
      have hb6 := bulk_take l (j + 1)
      have HL : Hid ((laidAll (l.take j)).length + o.P.length + 10 ≤ 140737488355328) := Lib.hid (by omega)
      have HL2 : Hid (o.P.length ≤ 140737488355328) := Lib.hid (by omega)
      have HL3 : Hid ((laidAll (l.take j)).length + (laidL o.k o.v o.P).length ≤ 281474976710656) := Lib.hid (by have := laidL_length o.k o.v o.P; omega)
      have HL4 : Hid ((laidAll (l.take (j + 1))).length + 90 ≤ 140737488355328) := Lib.hid (by omega)
      have HN : Hid ((laidAll (l.take (j + 1))).length = (laidAll (l.take j)).length + (laidL o.k o.v o.P).length) := Lib.hid (by rw [← HE.out, List.length_append])
      have HOK := Lib.hid hok
      have HOLD : Hid (Old w.heap.size o.A o.P) := Lib.hid (h.ok o hmem).P.old
      have HX := Lib.hid (below_alloc1 (Below.refl wr.heap.size wr) (Nat.le_refl _) (.cells #[.int .i64 o.k, .int .u64 o.v, .int .i64 o.n, .slice o.A o.P.length o.c] 79))
      have HQ := Lib.hid (Quad.fresh wr wr.heap.size rfl (.int .i64 o.k) (.int .u64 o.v) (.int .i64 o.n) (.slice o.A o.P.length o.c) 79)
      have HJ := Lib.hid hj
      have HLN := Lib.hid hlen
      have HLT := Lib.hid hlt
      clear hb1 hb2 hb3 hb5 hb6 ho htot hok HB hj hmem
      generalize hY : laidAll (l.take j) = Y at *
      generalize hY1 : laidAll (l.take (j + 1)) = Y1 at *
      generalize hZ : laidL o.k o.v o.P = Z at *
      have HYZ := Lib.hid hZ
      have HY1 := Lib.hid hY1
      clear hY hY1 hZ
      go_upto_region 8 with (first
        | (go_at_call 41; go_loud (with_reducible refine (laid_calls o.k o.v o.n o.A o.P o.P.length o.c Z.length Z HYZ.out rfl _ rfl HOK.out.v (HOK.out.P.new HX.out) HL2.out).mono ?_); rintro e2 w2 ⟨A4, c4, rfl, hn4⟩; have HN4 := Lib.hid hn4; clear hn4))
      have q2 := HQ.out.new HN4.out.below
      have HQ2 := Lib.hid q2
      have d0 := q2.c0
      have d1 := q2.c1
      have d2 := q2.c2
      have d3 := q2.c3
      clear q2 h0 h1 h2 h3
      go_upto_region 10 with fail
      have HB2 := Lib.hid (belowA (Below.trans (HX.out) (HN4.out.below.mono HX.out.size)) (.cells #[.int .i64 o.k, .int .u64 o.v, .int .i64 o.n, .slice o.A o.P.length o.c] 79))
      have HQ3 := Lib.hid (HQ2.out.alloc (.cells #[.int .i64 o.k, .int .u64 o.v, .int .i64 o.n, .slice o.A o.P.length o.c] 79))
      have HR3 := Lib.hid (Quad.fresh w2 w2.heap.size rfl (.int .i64 o.k) (.int .u64 o.v) (.int .i64 o.n) (.slice o.A o.P.length o.c) 79)
      clear d0 d1 d2 d3
      have d3 := HQ3.out.c3
      go_upto_region 11 with (first
        | (go_at_call 6; go_loud (with_reducible refine (spareK o.A o.P o.P.length o.c _ (HOK.out.P.new HB2.out) rfl HL2.out).mono ?_); rintro e3 w3 ⟨gF, rfl, hg3, ho3, hb3⟩; have HG3 := Lib.hid hg3; have HO3 := Lib.hid ho3; have HB3 := Lib.hid hb3; clear hg3 ho3 hb3; have e3 := (HR3.out.new HB3.out).c3; have z3 := (HR3.out.new HB3.out).fz 3))
      obtain ⟨wS, hwS⟩ : ∃ x, x = w3.setCell ⟨w2.heap.size, 3, none⟩ (.slice (some ⟨gF, 0, none⟩) o.P.length (o.P.length + 40)) := ⟨_, rfl⟩
      have HBS : Hid (Below w2.heap.size w2 wS) := Lib.hid (by rw [hwS]; exact (below_then (below_alloc1 (Below.refl _ _) (Nat.le_refl _) _) HB3.out).setCell (Nat.le_refl _) _)
      have HBR : Hid (Below wr.heap.size wr wS) := Lib.hid (below_then (below_then HX.out HN4.out.below) HBS.out)
      have HG : Hid (gF = w2.heap.size + 1 ∧ gF < wS.heap.size ∧ wr.heap.size < gF) := Lib.hid ⟨HG3.out.trans (asz _ _), by
        have h1 := (HO3.out.at_base gF rfl).2
        rw [hwS]; simpa [World.setCell] using h1, by
        have h1 := HG3.out; rw [asz] at h1
        have h2 := HN4.out.below.size
        rw [asz] at h2; omega⟩
      have HOS : Hid (OB wS gF 5 (.slice (some ⟨gF, 0, none⟩) (o.P.length + 40) (o.P.length + 40)) (o.P ++ marks 40)) := Lib.hid (HO3.out.sameK fun k hk => by
        obtain rfl := Option.some.inj hk
        rw [hwS]
        exact (setCell_grown w3 w2.heap.size 3 _).block _ (HO3.out.at_base _ rfl).2 (fun e => by have h1 := HG.out.1; have h2 := Option.some.inj e; simp only at h2; omega))
      have HQS : Hid (Quad wS wr.heap.size (.int .i64 o.k) (.int .u64 o.v) (.int .i64 o.n) (.slice o.A o.P.length o.c)) := Lib.hid (HQ2.out.new HBS.out)
      have HRS : Hid (Quad wS w2.heap.size (.int .i64 o.k) (.int .u64 o.v) (.int .i64 o.n) (.slice (some ⟨gF, 0, none⟩) o.P.length (o.P.length + 40))) := Lib.hid (by rw [hwS]; exact (HR3.out.new HB3.out).set3 _)
      have HZS : Hid (RB wS A4 c4 Z) := Lib.hid (HN4.out.own.rb.new HBS.out)
      have HZO : Hid (Old w2.heap.size A4 Z) := Lib.hid HN4.out.own.rb.old
      have HZL := Lib.hid HN4.out.own.lo
      rw [← hwS]
      have HWS := Lib.hid hwS
      have HLTW : Hid (∀ k, F k → k < wr.heap.size) := Lib.hid HWX.out.lt
      have HTLT := Lib.hid HTX.out.lt
      have HFG : Hid (Free F (some ⟨gF, 0, none⟩) o.P) := Lib.hid (fun a e _ hf => by obtain rfl := Option.some.inj e; have h1 := HLTW.out _ hf; have h2 := HG.out.2.2; simp only at h1; omega)
      clear hwS d3 e3 z3 HG3 HO3 HB3 HQ3 HR3 HQ2 HB2 HQ HX
      have d0 := HRS.out.c0
      have d1 := HRS.out.c1
      have d2 := HRS.out.c2
      have d3 := HRS.out.c3
      go_upto_region 12 with (first
        | (go_at_call 42; go_loud (with_reducible refine (wlay_calls (HWX.out.new HBR.out) o.k o.v o.n (some ⟨gF, 0, none⟩) o.P o.P.length (o.P.length + 40) Y1 (by rw [HYZ.out]; exact HE.out) rfl HOK.out.v HOS.out.reads.pre HFG.out HL.out).mono ?_); rintro e4 w4 ⟨F1, rfl, hw4, hs4⟩; have HW4 := Lib.hid hw4; have HS4 := Lib.hid hs4; clear hw4 hs4))
      clear d0 d1 d2 d3
      have HQ4 := Lib.hid (HQS.out.step HS4.out (fun e => by have := HLTW.out _ e; omega))
      have HO4 := Lib.hid (HOS.out.sameK (w' := w4) fun k hk => by
        obtain rfl := Option.some.inj hk
        exact HS4.out.block _ HG.out.2.1 (fun e => by have h1 := HLTW.out _ e; have h2 := HG.out.2.2; simp only at h1; omega))
      have HT4 := Lib.hid ((HTX.out.new HBR.out).step HS4.out (fun k hk => (HFX.out k hk).2))
      have HZ4 := Lib.hid (HZS.out.step HS4.out (Free.of_new HZL.out (fun k hk => by have := HLTW.out k hk; rw [asz]; omega)))
      have HP4 := Lib.hid ((HOK.out.P.new HBR.out).step HS4.out (Free.of_old HOLD.out (fun k hk => (HFX.out k hk).1)))
      have HF1 : Hid (∀ k, F1 k → w.heap.size ≤ k ∧ ¬ TLb (.slice A1 Y.length c1) (.slice A2 n2 c2) (.slice A3 n3 c3) hs' gs k ∧ k < w4.heap.size ∧ k ≠ gF) := Lib.hid fun k hk => by
        have h1 := HW4.out.lt k hk
        have h2 := HBX.out.size
        have h3 := HBR.out.size
        rcases HS4.out.foot k hk with e | e
        · exact ⟨(HFX.out k e).1, (HFX.out k e).2, h1, fun e2 => by have := HLTW.out k e; have := HG.out.2.2; omega⟩
        · exact ⟨by omega, fun e2 => by have := (HTLT.out k e2).2; omega, h1, fun e2 => by have := HG.out.2.1; omega⟩
      have HB4 := Lib.hid ((below_then HBX.out HBR.out).trans (HS4.out.below (B := w.heap.size) (Nat.le_trans HBX.out.size HBR.out.size) (fun k hk => (HFX.out k hk).1)))
      have HG4 : Hid (wr.heap.size < gF ∧ w2.heap.size ≤ gF ∧ gF < w4.heap.size) := Lib.hid ⟨HG.out.2.2, by have := HG.out.1; omega, Nat.lt_of_lt_of_le HG.out.2.1 HS4.out.size⟩
      have HLT4 : Hid (wr.heap.size ≤ w4.heap.size) := Lib.hid (Nat.le_trans HBR.out.size HS4.out.size)
      have HGT : Hid (¬ TLb (.slice A1 Y.length c1) (.slice A2 n2 c2) (.slice A3 n3 c3) hs' gs gF) := Lib.hid fun e => by have := (HTLT.out _ e).2; have := HG.out.2.2; omega
      have HLY : Hid (Y1.length ≤ 140737488355328) := Lib.hid (by have := HL4.out; omega)
      have HSY := Lib.hid (beq_self_eq_true Y1)
      have HPM : Hid (o.P.length + 40 = (o.P ++ marks 40).length) := Lib.hid (by rw [List.length_append, marks_length])
      clear HS4 HQS HOS HZS HRS HWX HFG HBS HBR HWS HZL HTX HFX HLTW HN4
      have d3 := HQ4.out.c3
      go_upto_region 19 with (first
        | (go_at_call 10; go_loud (with_reducible refine (keptK (some ⟨gF, 0, none⟩) o.A (o.P.length + 40) o.c o.P o.P.length w4 HO4.out.reads HP4.out rfl HL2.out).mono ?_); rintro e5 w5 ⟨rfl, hd5⟩; have HD5 := Lib.hid (hd5.below w4.heap.size); clear hd5; have HO5 := Lib.hid (HO4.out.new HD5.out); have HT5 := Lib.hid (HT4.out.new HD5.out); have HZ5 := Lib.hid (HZ4.out.new HD5.out))
        | (go_at_call 11; go_loud (with_reducible refine (overR gF gF (o.P.length + 40) (o.P.length + 40) (o.P.length + 40) (o.P.length + 40) (o.P ++ marks 40) [] w5 (by rw [List.append_nil]; exact HO5.out) HPM.out).mono ?_); rintro e6 w6 ⟨rfl, -, hg6⟩; have HG6 := Lib.hid hg6; clear hg6; have HT6 := Lib.hid (HT5.out.grown HG6.out HGT.out); have HZ6 := Lib.hid (HZ5.out.rowed HZO.out HG6.out HG4.out.2.1); have HW6 := Lib.hid ((HW4.out.new HD5.out).step (Step.of_grown (F := (· = gF)) HG6.out rfl) (fun k hk e => (HF1.out k hk).2.2.2 e)); have HB6 := Lib.hid ((below_then HB4.out HD5.out).grown HG6.out (below_then HB4.out HD5.out).size (fun k e => by have h1 := Option.some.inj e; have h2 := HBX.out.size; have h3 := HG4.out.1; omega)); have HS6 : Hid (w4.heap.size ≤ w6.heap.size) := Lib.hid (Nat.le_trans HD5.out.size HG6.out.size))
        | (go_at_call 43; go_loud (with_reducible refine (joinN A1 A4 Y Z Y1 Y.length Z.length Y1.length c1 c4 w6 HT6.out.all.reads HZ6.out rfl rfl HN.out HE.out HL3.out).mono ?_); rintro e7 w7 ⟨A7, c7, rfl, hn7⟩; have HN7 := Lib.hid hn7; clear hn7; have HT7 := Lib.hid (HT6.out.setAll HN7.out HB6.out.size); have HW7 := Lib.hid (HW6.out.new HN7.out.below))
        | (go_at_call 33; (first
            | (go_loud (with_reducible refine (bytesF (HW7.out.new HN8.out.below) Y1.length rfl HLY.out).mono ?_); rintro e9 w9 ⟨A9, c9, rfl, hn9⟩; have HN9 := Lib.hid hn9; clear hn9)
            | (go_loud (with_reducible refine (bytesF HW7.out Y1.length rfl HLY.out).mono ?_); rintro e8 w8 ⟨A8, c8, rfl, hn8⟩; have HN8 := Lib.hid hn8; clear hn8)))
        | (go_at_call 9; (first
            | (go_loud (with_reducible refine (sameR A8 A7 Y1 Y1 _ _ c8 c7 w9 (HN8.out.own.rb.new HN9.out.below) ((HN7.out.own.rb.new HN8.out.below).new HN9.out.below) rfl rfl true HSY.out).mono ?_); rintro e10 w10 ⟨rfl, hd10⟩; have HD10 := Lib.hid (hd10.below w9.heap.size); clear hd10)
            | (go_loud (with_reducible refine (sameR A9 A7 Y1 Y1 _ _ c9 c7 w10 (HN9.out.own.rb.new HD10.out) (((HN7.out.own.rb.new HN8.out.below).new HN9.out.below).new HD10.out) rfl rfl true HSY.out).mono ?_); rintro e11 w11 ⟨rfl, hd11⟩; have HD11 := Lib.hid (hd11.below w10.heap.size); clear hd11))))
      have HK : Hid (KW w w11 w.heap.size F1 (.slice A7 Y1.length c7) (.slice A2 n2 c2) (.slice A3 n3 c3) Y1 hs' gs ps ps w7.heap.size) := Lib.hid (by
        have b8 := below_then (below_then (below_then HN8.out.below HN9.out.below) HD10.out) HD11.out
        have hs6 := HS6.out
        have hs7 := HN7.out.below.size
        exact ⟨HT7.out.new b8, HW7.out.new b8, fun k hk => ⟨(HF1.out k hk).1, fun t => (t.setAll (va := .slice A1 Y.length c1) (s0 := w6.heap.size) (fun k e => (HN7.out.own.at_base k e).1)).elim (HF1.out k hk).2.1 (fun e => by have := (HF1.out k hk).2.2.1; omega)⟩, below_then (below_then HB6.out HN7.out.below) b8, fun k e => e.elim (fun e => by have := (HF1.out k e).2.2.1; omega) (fun e => (HT7.out.lt k e).2), b8.size⟩)
      have HO8 := Lib.hid (((HN8.out.own.new HN9.out.below).new HD10.out).new HD11.out)
      have HO9 := Lib.hid (((HN9.out.own.mono HN8.out.below.size).new HD10.out).new HD11.out)
      have HO89 : Hid (apV (Hd.val ⟨A8, Y1.length, c8⟩) (Hd.val ⟨A9, Y1.length, c9⟩)) := Lib.hid (apV_lt (s := w8.heap.size) (fun k e => (HN8.out.own.at_base k e).2) (fun k e => (HN9.out.own.at_base k e).1))
      have H07 : Hid (w.heap.size ≤ w7.heap.size) := Lib.hid (Nat.le_trans HB6.out.size HN7.out.below.size)
      clear HD5 HO5 HT5 HZ5 HG6 HT6 HZ6 HW6 HB6 HS6 HN7 HT7 HW7 HN8 HN9 HD10 HD11 HT4 HZ4 HQ4 HO4 HW4 HF1 HB4 HG4 HLT4 HGT HZO HG HYZ HN HE HL HP4 d3 HPM HOK HOLD HTLT
      by_cases h24 : (n2 : Int) < 24
      · go_upto_region 21 with (first
          | (refine wp_op_isK (.call { callee := .builtin .append, args := #[.tmp 57, .tmp 60], argTypes := #[36, 36] }) rfl ?_; go_loud (refine wp_appendLK lst rfl (.tmp 57) (.tmp 60) rfl w.heap.size (.slice A2 n2 c2) hs' [⟨A8, Y1.length, c8⟩, ⟨A9, Y1.length, c9⟩] rfl (HK.out.tl.told.new (below_alloc1 (Below.refl _ _) (Nat.le_refl _) _)) (some ⟨w11.heap.size, 0, none⟩) 2 2 rfl rfl (row2 w11 ⟨A8, Y1.length, c8⟩ ⟨A9, Y1.length, c9⟩ _) (fun e => absurd e (by simp)) (by have := HL26.out; simp; omega) (Nat.le_trans HK.out.bl.size (by rw [asz]; exact Nat.le_succ _)) fun A12 n12 c12 w12 hn12 hl12 hg12 hv12 => ?_); have HN12 := Lib.hid hn12; clear hn12))
        have HO8' := Lib.hid (HO8.out.new (below_alloc1 (Below.refl w11.heap.size w11) (Nat.le_refl _) (.cells #[.slice A8 Y1.length c8, .slice A9 Y1.length c9] 23)))
        have HO9' := Lib.hid (HO9.out.new (below_alloc1 (Below.refl w11.heap.size w11) (Nat.le_refl _) (.cells #[.slice A8 Y1.length c8, .slice A9 Y1.length c9] 23)))
        have K12 := Lib.hid ((HK.out.new (below_alloc1 (Below.refl w11.heap.size w11) (Nat.le_refl _) (.cells #[.slice A8 Y1.length c8, .slice A9 Y1.length c9] 23))).pushT hl12 hg12 hv12 HO8'.out HO9'.out HO89.out H07.out)
        clear hl12 hg12 hv12 HO8 HO9 HO8' HO9' HK HO89
        go_wp2_with (first
          | (go_at_call 12; (first
              | (go_loud (with_reducible refine (twinR A7 Y1 Y1.length c7 w13 (K12.out.tl.all.reads.new HN13.out.below) rfl HLY.out).mono ?_); rintro e14 w14 ⟨A14, c14, rfl, hn14⟩; have HN14 := Lib.hid hn14; clear hn14)
              | (go_loud (with_reducible refine (twinR A7 Y1 Y1.length c7 w12 K12.out.tl.all.reads rfl HLY.out).mono ?_); rintro e13 w13 ⟨A13, c13, rfl, hn13⟩; have HN13 := Lib.hid hn13; clear hn13)))
          | (refine wp_op_isK (.call { callee := .builtin .append, args := #[.tmp 62, .tmp 67], argTypes := #[36, 36] }) rfl ?_; go_loud (refine wp_appendLK lst rfl (.tmp 62) (.tmp 67) rfl w.heap.size (.slice A3 n3 c3) gs [⟨A13, Y1.length, c13⟩, ⟨A14, Y1.length, c14⟩] rfl ((((K12.out.new HN13.out.below).new HN14.out.below).new (below_alloc1 (Below.refl _ _) (Nat.le_refl _) _)).tl.was) (some ⟨w14.heap.size, 0, none⟩) 2 2 rfl rfl (row2 w14 ⟨A13, Y1.length, c13⟩ ⟨A14, Y1.length, c14⟩ _) (fun e => absurd e (by simp)) (by have h1 := HL26.out; have h2 := HGL.out; simp; omega) (Nat.le_trans ((K12.out.new HN13.out.below).new HN14.out.below).bl.size (by rw [asz]; exact Nat.le_succ _)) fun A15 n15 c15 w15 hn15 hl15 hg15 hv15 => ?_); have HN15 := Lib.hid hn15; clear hn15))
        have K15 := Lib.hid ((((K12.out.new HN13.out.below).new HN14.out.below).new (below_alloc1 (Below.refl _ _) (Nat.le_refl _) _)).pushW hl15 hg15 hv15 ((HN13.out.own.new HN14.out.below).new (below_alloc1 (Below.refl _ _) (Nat.le_refl _) _)) ((HN14.out.own.mono HN13.out.below.size).new (below_alloc1 (Below.refl _ _) (Nat.le_refl _) _)) K12.out.bl.size)
        clear hl15 hg15 hv15
        go_roundw
        case rel =>
          have h1 := HN2.out
          have h2 := HL26.out
          refine ⟨j + 1, F1, A7, A12, A15, c7, n12, c12, n15, c15, hs' ++ [⟨A8, Y1.length, c8⟩, ⟨A9, Y1.length, c9⟩], gs ++ [⟨A13, Y1.length, c13⟩, ⟨A14, Y1.length, c14⟩], ps ++ [Y1, Y1], ?_⟩
          rw [HY1.out]
          refine ⟨by omega, by go_num, rfl, rfl, rfl, HN12.out, HN15.out, K15.out.tl, by simp; omega, fun p hp => ?_, K15.out.wr, K15.out.fr, K15.out.bl⟩
          rcases List.mem_append.1 hp with hp | hp
          · exact HPS.out p hp
          · simp only [List.mem_cons, List.not_mem_nil, or_false, or_self] at hp
            rw [hp]; exact HL4.out
        case measure => simp [intOf]; omega
      · have h24' : decide ((n2 : Int) < 24) = false := by simpa using h24
        go_wp2
        go_roundw
        case rel =>
          refine ⟨j + 1, F1, A7, A2, A3, c7, n2, c2, n3, c3, hs', gs, ps, ?_⟩
          rw [HY1.out]
          exact ⟨by omega, by go_num, rfl, rfl, rfl, HN2.out, HN3.out, HK.out.tl, HL26.out, HPS.out, HK.out.wr, HK.out.fr, HK.out.bl⟩
        case measure => simp [intOf]; omega
    · obtain rfl : j = l.length := by omega
      have HTL : Hid (l.take l.length = l) := Lib.hid (List.take_length)
      rw [HTL.out] at HTX HWX HFX ⊢
      have HL : Hid ((laidAll l).length ≤ 140737488355328) := Lib.hid (by omega)
      generalize hY : laidAll l = Y at *
      clear hlt htot hb1 hb2 hlen hY HTL
      have HSY := Lib.hid (beq_self_eq_true Y)
      obtain rfl : n3 = n2 := by rw [HN3.out, HN2.out, HGL.out]
      go_wp2_with (first
        | (go_at_call 44; go_loud (with_reducible refine (sameAll_calls A2 A3 hs' gs ps n3 c2 c3 wr HTX.out.rds HTX.out.rdsW (by rw [HN2.out, HTX.out.hl]) (by have h1 := HL26.out; have h2 := HN2.out; omega)).mono ?_); rintro e5 w5 ⟨rfl, hb5⟩; have HB5 := Lib.hid hb5; clear hb5)
        | (go_at_call 13; go_loud (with_reducible refine (apartT (HTX.out.new HB5.out) (Nat.le_trans HBX.out.size HB5.out.size) HN2.out (Nat.le_trans HL26.out (by decide)) HPS.out).mono ?_); rintro e6 w6 ⟨rfl, hs6⟩; have HS6 := Lib.hid hs6; clear hs6; have HW6 := Lib.hid ((HWX.out.new HB5.out).step HS6.out (fun k hk e => (HFX.out k hk).2 (feetT e))); have HA6 := Lib.hid (((HTX.out.new HB5.out).all).sameK (w' := w6) fun k hk => HS6.out.block k (((HTX.out.new HB5.out).all).at_base k hk).2 (fun e => by obtain ⟨i, x, hx, e2⟩ := e; exact HTX.out.da k hk x (List.mem_of_getElem? hx) e2)); have HB6 := Lib.hid ((below_then HBX.out HB5.out).trans (HS6.out.below (B := w.heap.size) (Nat.le_trans HBX.out.size HB5.out.size) (fun k hk => (HTX.out.lt k (feetT hk)).1))))
        | (go_at_call 33; go_loud (with_reducible refine (bytesF HW6.out Y.length rfl HL.out).mono ?_); rintro e7 w7 ⟨A7, c7, rfl, hn7⟩; have HN7 := Lib.hid hn7; clear hn7)
        | (go_at_call 9; go_loud (with_reducible refine (sameR A7 A1 Y Y _ _ c7 c1 w7 HN7.out.own.rb (HA6.out.reads.new HN7.out.below) rfl rfl true HSY.out).mono ?_); rintro e8 w8 ⟨rfl, hd8⟩; have HD8 := Lib.hid hd8; clear hd8))
      go_ret
      exact ⟨rfl, below_then (below_then HB6.out HN7.out.below) (HD8.out.below _)⟩
end Go.Proofs.Ytlcbjjgmkllceaa
