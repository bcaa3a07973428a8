/- Layer 5: the document's Wide, Formed, DocEncodeRoot. -/
import Derived.Test.YtelecdncdaepnaaRootEnc
import Derived.Lib.SmallJoins
namespace Go.Proofs.Ytelecdncdaepnaa
open Go.RowKit
open WireMath (numS beN rawS blobS uvarS grpL uvarL wideL)

theorem docWide_calls (n : Int) (w : World) (r : Bool) (hr : decide (1 ≤ n ∧ n ≤ 32) = r) : Calls Try.prog 80 #[.int .i64 n] w fun e w' => e = .returned (.bool r) ∧ w = w' := by
  by_cases h1 : 1 ≤ n
  · by_cases h2 : n ≤ 32
    · obtain rfl : r = true := by rw [← hr]; simp [h1, h2]
      clear hr
      go_enter Try.func80, Try.ntmps80
      go_wp2
      go_ret
      exact ⟨rfl, rfl⟩
    · obtain rfl : r = false := by rw [← hr]; simp [h2]
      clear hr
      go_enter Try.func80, Try.ntmps80
      go_wp2
      go_ret
      exact ⟨rfl, rfl⟩
  · obtain rfl : r = false := by rw [← hr]; simp [h1]
    clear hr
    go_enter Try.func80, Try.ntmps80
    go_wp2
    go_ret
    exact ⟨rfl, rfl⟩
theorem padL_iff (k : Nat) (d : List UInt8) (hk : k ≤ 32) (hd : d.length = 32) : padL k d = d ↔ ∀ i (h : i < d.length), k ≤ i → d[i] = 0 := by
  constructor
  · intro h i hi hk
    have h2 : d[i]? = (padL k d)[i]? := by rw [h]
    unfold padL at h2
    rw [List.getElem?_eq_getElem hi, List.getElem?_append_right (by rw [List.length_take]; omega), List.length_take, List.getElem?_replicate, if_pos (by omega)] at h2
    exact Option.some.inj h2
  · intro h
    apply List.ext_getElem?
    intro i
    unfold padL
    by_cases hik : i < k
    · rw [List.getElem?_append_left (by rw [List.length_take]; omega), List.getElem?_take, if_pos hik]
    · rw [List.getElem?_append_right (by rw [List.length_take]; omega), List.getElem?_replicate, List.length_take]
      by_cases h2 : i < d.length
      · rw [if_pos (by omega), List.getElem?_eq_getElem h2, h i h2 (by omega)]
      · rw [if_neg (by omega), List.getElem?_eq_none (by omega)]
set_option maxRecDepth 100000 in
theorem docFormed_calls (k : Nat) (hk : k ≤ 32) (d : List UInt8) (hd : d.length = 32) (b : Bool) (hb : decide (padL k d = d) = b) (w : World) : Calls Try.prog 81 #[.int .i64 k, .agg (rB d)] w fun r w' => r = .returned (.bool b) ∧ Below w.heap.size w w' := by
  obtain ⟨L, hL⟩ : ∃ L, L = encB d := ⟨_, rfl⟩
  rw [show rB d = L.toArray by rw [hL]; rfl]
  have hc : L.length = 32 := by rw [hL, encB_length, hd]
  have HL := Lib.hid hL
  have HF := Lib.hid hb
  have HD := Lib.hid hd
  have HR := Lib.hid (Row.fresh w w.heap.size rfl 61 L _ rfl)
  have HB := Lib.hid (below_alloc1 (Below.refl w.heap.size w) (Nat.le_refl _) (.cells L.toArray 61))
  clear hL hb hd
  go_enter Try.func81, Try.ntmps81
  go_wp2
  go_loopw [5] (fun iv wr => ∃ j : Nat, k ≤ j ∧ j ≤ 32 ∧ iv = .int .i64 j ∧ Hid (∀ i (h : i < d.length), k ≤ i → i < j → d[i] = 0) ∧ Row wr w.heap.size 61 L ∧ Below w.heap.size w wr) (fun iv _ => 32 - (intOf iv).toNat)
  case atStart => exact ⟨k, Nat.le_refl _, hk, rfl, Lib.hid (fun i h h1 h2 => by omega), HR.out, HB.out⟩
  case round =>
    obtain ⟨j, hj0, hj, rfl, HZ, HRR, HBB⟩ := hrel
    by_cases hlt : j < 32
    · have hjd : j < d.length := by have := HD.out; omega
      have hcell : wr.cell? ⟨w.heap.size, j, none⟩ = some (.int .u8 (uB d[j])) := by
        rw [HRR.cell, HL.out]; simp [encB, hjd]
      by_cases h0 : d[j] = 0
      · have hz : uB d[j] = 0 := by rw [h0]; rfl
        rw [hz] at hcell
        have H0 := Lib.hid h0
        clear h0 hz
        go_wp2
        go_roundw
        case rel => exact ⟨j + 1, by omega, by omega, by go_num, Lib.hid (fun i h h1 h2 => by
          by_cases e : i = j
          · subst e; exact H0.out
          · exact HZ.out i h h1 (by omega)), HRR, HBB⟩
        case measure => simp [intOf]; omega
      · have hz : ((uB d[j] == 0) = false) := by
          rw [beq_eq_false_iff_ne]
          intro e
          exact h0 (UInt8.toNat_inj.1 (by have := e; unfold uB at this; simpa using this))
        have hb0 : b = false := by
          rw [← HF.out]
          exact decide_eq_false (fun h => h0 ((padL_iff k d hk HD.out).1 h j hjd hj0))
        subst hb0
        clear h0 HF
        generalize uB d[j] = u at *
        go_wp2
        go_ret
        exact ⟨rfl, HBB⟩
    · obtain rfl : j = 32 := by omega
      have hb0 : b = true := by
        rw [← HF.out]
        exact decide_eq_true ((padL_iff k d hk HD.out).2 fun i h hki => HZ.out i h hki (by have := HD.out; omega))
      subst hb0
      clear hlt HF
      go_wp2
      go_ret
      exact ⟨rfl, HBB⟩
theorem docWideN (n : Int) (w : World) (r : Bool) (hr : decide (1 ≤ n ∧ n ≤ 32) = r) : Calls Try.prog 80 #[.int .i64 n] w fun e w' => e = .returned (.bool r) ∧ w = w' := docWide_calls n w r hr
theorem refwideN (v n : Nat) (V N : Int) (hV : V = v) (hN : N = n) (w : World) (hv : v ≤ 18446744073709551615) (hn : n ≤ 8) (q : List UInt8) (hq : wideL v n = q) (m : Nat) (hm : m = n) :
    Calls Try.prog 82 #[.int .u64 V, .int .i64 N] w fun e w' => ∃ A' c', e = .returned (.slice A' m c') ∧ NewB w w' (.slice A' m c') q := by
  subst hq hm; exact refwide_calls v _ V N hV hN w hv hn
set_option maxHeartbeats 400000 in
set_option maxRecDepth 100000 in
theorem docEncodeRoot_ok (k : Nat) (r : Rt) (h : RtOk r) (hf : formF k r.l) (hm : formF k r.m) (w : World) (N : Nat) (R : List UInt8) (hR : R = rootL k r) (hN : N = R.length) :
    Calls Try.prog 34 #[.int .i64 k, .agg (rtL r).toArray] w fun e w' => ∃ A' c', e = .returned (.tuple #[.slice A' N c', .int .i64 0]) ∧ NewB w w' (.slice A' N c') R := by
  obtain ⟨L, hL⟩ : ∃ L, L = rtL r := ⟨_, rfl⟩
  rw [← hL]
  have hc : L.length = 65 := by rw [hL]; exact rtL_length r h
  have HOK := Lib.hid h
  have HB := Lib.hid (below_alloc1 (Below.refl w.heap.size w) (Nat.le_refl _) (.cells L.toArray 63))
  have HT := Lib.hid (RtAt.fresh w w.heap.size rfl 63 r h L.toArray (by rw [hL]))
  have HW := Lib.hid (show decide (1 ≤ (k : Int) ∧ (k : Int) ≤ 32) = true from decide_eq_true ⟨hf.1, hf.2.1⟩)
  have HF := Lib.hid (show decide (padL k r.l = r.l) = true from decide_eq_true (by simpa using hf.2.2))
  have HM := Lib.hid (show decide (padL k r.m = r.m) = true from decide_eq_true (by simpa using hm.2.2))
  have HLK := Lib.hid (show k = (r.l.take k).length by rw [List.length_take, h.l]; have := hf.2.1; omega)
  have HMK := Lib.hid (show k = (r.m.take k).length by rw [List.length_take, h.m]; have := hf.2.1; omega)
  obtain ⟨x, hx⟩ : ∃ x, r.l.take k ++ r.m.take k = x := ⟨_, rfl⟩
  obtain ⟨y, hy⟩ : ∃ y, wideL r.s 8 = y := ⟨_, rfl⟩
  have hyl : y.length = 8 := by rw [← hy, WireMath.wideL_length]
  have hxl : x.length ≤ 64 := by rw [← hx, List.length_append, ← HLK.out, ← HMK.out]; have := hf.2.1; omega
  have HX := Lib.hid hx
  have HY := Lib.hid hy
  have HXL := Lib.hid hxl
  have HYL := Lib.hid hyl
  have HR := Lib.hid (show y ++ x = R by rw [hR, ← hx, ← hy]; rfl)
  have HN := Lib.hid hN
  have hk : k ≤ 32 := by have := hf.2.1; omega
  clear hL hR hN hf hm hx hy hyl hxl
  have hcut := fun (w' : World) (A : Addr) => run_cut_arr (P := Try.prog) w' 61 5 32 Try.underlying61 (by kernel_rfl) A .i64 k k rfl hk
  go_enter Try.func34, Try.ntmps34
  go_wp2_with (first
    | (go_at_call 80; (with_reducible refine (docWideN _ _ true HW.out).mono ?_); rintro e1 w1 ⟨rfl, rfl⟩)
    | (refine wp_load_part rfl 61 (.tmp 12) rfl _ rfl (rB r.l) HT.out.logC _ Try.underlying61 rfl (sizeD _ HOK.out.l) ?_)
    | (refine wp_load_partW (by rfl) 61 (.tmp 18) rfl _ rfl (rB r.m) T2.out.mapC _ Try.underlying61 rfl (sizeD _ HOK.out.m) ?_)
    | (go_at_call 81; (with_reducible refine (docFormed_calls k hk r.l HOK.out.l true HF.out _).mono ?_); rintro e2 w2 ⟨rfl, hb2⟩; have T2 := Lib.hid (HT.out.new hb2); have B2 := Lib.hid (below_then HB.out hb2))
    | (go_at_call 81; (with_reducible refine (docFormed_calls k hk r.m HOK.out.m true HM.out _).mono ?_); rintro e3 w3 ⟨rfl, hb3⟩; have T3 := Lib.hid (T2.out.new hb3).drew; have B3 := Lib.hid (below_then B2.out hb3).drew; have y3 := (T2.out.new hb3).size))
  go_region_held3 (fun w' => w'.cell? ⟨w.heap.size, 0, none⟩ = some (.int .u64 r.s)) (go_keep) (first
    | (go_at_call 82; (with_reducible refine (refwideN r.s 8 (r.s : Int) 8 rfl rfl _ HOK.out.s (by omega) y HY.out y.length HYL.out).mono ?_); rintro e4 w4 ⟨A4, c4, rfl, hn4⟩; have T4 := Lib.hid (T3.out.new hn4.below); have y4 := T4.out.size; have B4 := Lib.hid (below_then B3.out hn4.below))
    | (go_at_call 53; (with_reducible refine (joinE (some ⟨w.heap.size, 1, none⟩) (some ⟨w.heap.size, 33, none⟩) (r.l.take k) (r.m.take k) x k k x.length 32 32 _ (T4.out.log.take k) (T4.out.map.take k) HLK.out HMK.out rfl HX.out (by rw [← HLK.out, ← HMK.out]; omega)).mono ?_); rintro e5 w5 ⟨A5, c5, rfl, hn5⟩; have y5 := (T4.out.new hn5.below).size; have B5 := Lib.hid (below_then B4.out hn5.below); have O5 := Lib.hid (hn4.own.rb.new hn5.below))
    | (go_at_call 53; (with_reducible refine (joinE A4 A5 y x R y.length x.length N c4 c5 _ O5.out hn5.own.rb rfl rfl HN.out HR.out (by have := HXL.out; have := HYL.out; omega)).mono ?_); rintro e6 w6 ⟨A6, c6, rfl, hn6⟩; have y6 := (T4.out.new (below_then hn5.below hn6.below)).size; have B6 := Lib.hid (below_then B5.out hn6.below); have O6 := Lib.hid (hn6.own.mono B5.out.size))
    | (go_at_call 53; (with_reducible refine (joinE (some ⟨w.heap.size, 1, none⟩) (some ⟨w.heap.size, 33, none⟩) (r.l.take k) (r.m.take k) x k k x.length 32 32 _ (T3.out.log.take k) (T3.out.map.take k) HLK.out HMK.out rfl HX.out (by rw [← HLK.out, ← HMK.out]; omega)).mono ?_); rintro e5 w5 ⟨A5, c5, rfl, hn5⟩; have T5 := Lib.hid (T3.out.new hn5.below); have y5 := T5.out.size; have B5 := Lib.hid (below_then B3.out hn5.below))
    | (go_at_call 82; (with_reducible refine (refwideN r.s 8 (r.s : Int) 8 rfl rfl _ HOK.out.s (by omega) y HY.out y.length HYL.out).mono ?_); rintro e4 w4 ⟨A4, c4, rfl, hn4⟩; have T4 := Lib.hid (T5.out.new hn4.below); have y4 := T4.out.size; have B4 := Lib.hid (below_then B5.out hn4.below); have O4 := Lib.hid (hn5.own.rb.new hn4.below))
    | (go_at_call 53; (with_reducible refine (joinE A4 A5 y x R y.length x.length N c4 c5 _ hn4.own.rb O4.out rfl rfl HN.out HR.out (by have := HXL.out; have := HYL.out; omega)).mono ?_); rintro e6 w6 ⟨A6, c6, rfl, hn6⟩; have y6 := (T4.out.new hn6.below).size; have B6 := Lib.hid (below_then B4.out hn6.below); have O6 := Lib.hid (hn6.own.mono B4.out.size)))
  all_goals go_wp2
  all_goals go_ret2
  all_goals exact ⟨A6, c6, rfl, O6.out, B6.out⟩
set_option maxRecDepth 100000 in
theorem docEncodeRoot_wide (n : Int) (r : Rt) (h : RtOk r) (hw : wideF n = 1) (w : World) :
    Calls Try.prog 34 #[.int .i64 n, .agg (rtL r).toArray] w fun e w' => e = .returned (.tuple #[.slice none 0 0, .int .i64 1]) ∧ Below w.heap.size w w' := by
  obtain ⟨L, hL⟩ : ∃ L, L = rtL r := ⟨_, rfl⟩
  rw [← hL]
  have hc : L.length = 65 := by rw [hL]; exact rtL_length r h
  have HB := Lib.hid (below_alloc1 (Below.refl w.heap.size w) (Nat.le_refl _) (.cells L.toArray 63))
  have HW := Lib.hid (show decide (1 ≤ n ∧ n ≤ 32) = false from decide_eq_false (by unfold wideF at hw; split at hw <;> omega))
  clear hL hw
  go_enter Try.func34, Try.ntmps34
  go_wp2_with (first
    | (go_at_call 80; (with_reducible refine (docWideN _ _ false HW.out).mono ?_); rintro e1 w1 ⟨rfl, rfl⟩))
  go_ret2
  exact ⟨rfl, HB.out⟩
set_option maxRecDepth 100000 in
theorem docEncodeRoot_log (n : Int) (r : Rt) (h : RtOk r) (hw : wideF n = 0) (hf : ¬ formF n r.l) (w : World) :
    Calls Try.prog 34 #[.int .i64 n, .agg (rtL r).toArray] w fun e w' => e = .returned (.tuple #[.slice none 0 0, .int .i64 3]) ∧ Below w.heap.size w w' := by
  obtain ⟨L, hL⟩ : ∃ L, L = rtL r := ⟨_, rfl⟩
  rw [← hL]
  have hc : L.length = 65 := by rw [hL]; exact rtL_length r h
  have HOK := Lib.hid h
  have HB := Lib.hid (below_alloc1 (Below.refl w.heap.size w) (Nat.le_refl _) (.cells L.toArray 63))
  have HT := Lib.hid (RtAt.fresh w w.heap.size rfl 63 r h L.toArray (by rw [hL]))
  have hk32 : 1 ≤ n ∧ n ≤ 32 := by unfold wideF at hw; split at hw <;> omega
  have HW := Lib.hid (show decide (1 ≤ n ∧ n ≤ 32) = true from decide_eq_true hk32)
  have HF := Lib.hid (show decide (padL n.toNat r.l = r.l) = false from decide_eq_false (fun e => hf ⟨hk32.1, hk32.2, e⟩))
  clear hL hw hf
  obtain ⟨k, rfl⟩ := Int.eq_ofNat_of_zero_le (show 0 ≤ n by omega)
  have hk : k ≤ 32 := by omega
  rw [Int.toNat_natCast] at HF
  clear hk32
  go_enter Try.func34, Try.ntmps34
  go_wp2_with (first
    | (go_at_call 80; (with_reducible refine (docWideN _ _ true HW.out).mono ?_); rintro e1 w1 ⟨rfl, rfl⟩)
    | (refine wp_load_part rfl 61 (.tmp 12) rfl _ rfl (rB r.l) HT.out.logC _ Try.underlying61 rfl (sizeD _ HOK.out.l) ?_)
    | (go_at_call 81; (with_reducible refine (docFormed_calls k hk r.l HOK.out.l false HF.out _).mono ?_); rintro e2 w2 ⟨rfl, hb2⟩; have B2 := Lib.hid (below_then HB.out hb2)))
  go_ret2
  exact ⟨rfl, B2.out⟩
set_option maxRecDepth 100000 in
theorem docEncodeRoot_map (n : Int) (r : Rt) (h : RtOk r) (hw : wideF n = 0) (hf : formF n r.l) (hm : ¬ formF n r.m) (w : World) :
    Calls Try.prog 34 #[.int .i64 n, .agg (rtL r).toArray] w fun e w' => e = .returned (.tuple #[.slice none 0 0, .int .i64 3]) ∧ Below w.heap.size w w' := by
  obtain ⟨L, hL⟩ : ∃ L, L = rtL r := ⟨_, rfl⟩
  rw [← hL]
  have hc : L.length = 65 := by rw [hL]; exact rtL_length r h
  have HOK := Lib.hid h
  have HB := Lib.hid (below_alloc1 (Below.refl w.heap.size w) (Nat.le_refl _) (.cells L.toArray 63))
  have HT := Lib.hid (RtAt.fresh w w.heap.size rfl 63 r h L.toArray (by rw [hL]))
  have hk32 : 1 ≤ n ∧ n ≤ 32 := by unfold wideF at hw; split at hw <;> omega
  have HW := Lib.hid (show decide (1 ≤ n ∧ n ≤ 32) = true from decide_eq_true hk32)
  have HF := Lib.hid (show decide (padL n.toNat r.l = r.l) = true from decide_eq_true hf.2.2)
  have HM := Lib.hid (show decide (padL n.toNat r.m = r.m) = false from decide_eq_false (fun e => hm ⟨hk32.1, hk32.2, e⟩))
  clear hL hw hf hm
  obtain ⟨k, rfl⟩ := Int.eq_ofNat_of_zero_le (show 0 ≤ n by omega)
  have hk : k ≤ 32 := by omega
  rw [Int.toNat_natCast] at HF HM
  clear hk32
  go_enter Try.func34, Try.ntmps34
  go_wp2_with (first
    | (go_at_call 80; (with_reducible refine (docWideN _ _ true HW.out).mono ?_); rintro e1 w1 ⟨rfl, rfl⟩)
    | (refine wp_load_part rfl 61 (.tmp 12) rfl _ rfl (rB r.l) HT.out.logC _ Try.underlying61 rfl (sizeD _ HOK.out.l) ?_)
    | (refine wp_load_partW (by rfl) 61 (.tmp 18) rfl _ rfl (rB r.m) T2.out.mapC _ Try.underlying61 rfl (sizeD _ HOK.out.m) ?_)
    | (go_at_call 81; (with_reducible refine (docFormed_calls k hk r.l HOK.out.l true HF.out _).mono ?_); rintro e2 w2 ⟨rfl, hb2⟩; have T2 := Lib.hid (HT.out.new hb2); have B2 := Lib.hid (below_then HB.out hb2))
    | (go_at_call 81; (with_reducible refine (docFormed_calls k hk r.m HOK.out.m false HM.out _).mono ?_); rintro e3 w3 ⟨rfl, hb3⟩; have B3 := Lib.hid (below_then B2.out hb3)))
  go_ret2
  exact ⟨rfl, B3.out⟩
/-- EncodeRoot -/
theorem docEncodeRoot_calls (n : Int) (r : Rt) (h : RtOk r) (w : World) (N : Nat) (E : Int) (hN : N = (encR n r).1.length) (hE : E = (encR n r).2) :
    Calls Try.prog 34 #[.int .i64 n, .agg (rtL r).toArray] w fun e w' => ∃ A' c', e = .returned (.tuple #[.slice A' N c', .int .i64 E]) ∧ NewB w w' (.slice A' N c') (encR n r).1 := by
  subst hN hE
  by_cases hw : wideF n = 0
  · by_cases hl : formF n r.l
    · by_cases hm : formF n r.m
      · obtain ⟨k, rfl⟩ := Int.eq_ofNat_of_zero_le (show 0 ≤ n by have := hl.1; omega)
        have e1 : encR k r = (rootL k r, 0) := by unfold encR; rw [if_neg (by omega), if_pos ⟨hl, hm⟩]; rfl
        rw [e1]
        exact docEncodeRoot_ok k r h hl hm w _ _ rfl rfl
      · have e1 : encR n r = ([], 3) := by unfold encR; rw [if_neg (by omega), if_neg (fun x => hm x.2)]
        rw [e1]
        refine (docEncodeRoot_map n r h hw hl hm w).mono ?_
        rintro e w' ⟨rfl, hb⟩
        exact ⟨none, 0, rfl, OB.nil _ _ _, hb⟩
    · have e1 : encR n r = ([], 3) := by unfold encR; rw [if_neg (by omega), if_neg (fun x => hl x.1)]
      rw [e1]
      refine (docEncodeRoot_log n r h hw hl w).mono ?_
      rintro e w' ⟨rfl, hb⟩
      exact ⟨none, 0, rfl, OB.nil _ _ _, hb⟩
  · have h1 : wideF n = 1 := by unfold wideF at hw ⊢; split at hw <;> simp_all
    have e1 : encR n r = ([], 1) := by unfold encR; rw [if_pos hw]
    rw [e1]
    refine (docEncodeRoot_wide n r h h1 w).mono ?_
    rintro e w' ⟨rfl, hb⟩
    exact ⟨none, 0, rfl, OB.nil _ _ _, hb⟩
end Go.Proofs.Ytelecdncdaepnaa
