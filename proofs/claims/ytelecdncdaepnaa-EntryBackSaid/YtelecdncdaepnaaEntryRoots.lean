/- The walk of notarylaw05.EntryRoots. -/
import Derived.Test.YtelecdncdaepnaaRootDocDec
import Derived.Test.YtelecdncdaepnaaAwake5
namespace Go.Proofs.Ytelecdncdaepnaa
open Go.RowKit
open WireMath (numS beN rawS blobS uvarS grpL uvarL wideL)

theorem extract_log (r : Rt) (h : RtOk r) : (rtL r).toArray.extract 1 33 = rB r.l := by
  unfold rB rtL
  rw [← Array.toList_inj]
  simp only [Array.toList_extract, List.extract_eq_take_drop]
  rw [List.drop_succ_cons, List.drop_zero, List.take_append_of_le_length (by rw [encB_length, h.l]; omega), List.take_of_length_le (by rw [encB_length, h.l]; omega)]
theorem extract_map (r : Rt) (h : RtOk r) : (rtL r).toArray.extract 33 65 = rB r.m := by
  unfold rB rtL
  rw [← Array.toList_inj]
  simp only [Array.toList_extract, List.extract_eq_take_drop]
  rw [List.drop_succ_cons, List.drop_append, List.drop_eq_nil_of_le (show (encB r.l).length ≤ 32 by rw [encB_length, h.l]; omega), List.nil_append, encB_length, h.l, Nat.sub_self, List.drop_zero, List.take_of_length_le (by rw [encB_length, h.m]; omega)]
theorem run_equalRR (w : World) (r : Rt) (h : RtOk r) : (Op.equalIn 10000 63 (.agg (rtL r).toArray) (.agg (rtL r).toArray)).run Try.prog w = .ok true w := by
  have hs : ∀ w, (sizeOf 5).run Try.prog w = .ok 1 w := run_sizeOf 5 1 (by kernel_rfl)
  have hsz : ∀ w, (sizeOf 61).run Try.prog w = .ok 32 w := run_sizeOf 61 32 (by kernel_rfl)
  have h1 := fun w => run_equalIn_bytes (P := Try.prog) w 9997 61 5 32 Try.underlying61 Try.underlying5 hs r.l r.l h.l h.l
  have h2 := fun w => run_equalIn_bytes (P := Try.prog) w 9997 61 5 32 Try.underlying61 Try.underlying5 hs r.m r.m h.m h.m
  rw [run_equalIn_struct w 9999 63 _ _ (by kernel_rfl) (by kernel_rfl)]
  have hu := fun w => run_underlying (P := Try.prog) Try.underlying61 w
  have hu2 := fun w => run_underlying (P := Try.prog) Try.underlying32 w
  have pl : (List.take 32 (rtL r).tail).toArray = rB r.l := by have := extract_log r h; simpa using this
  have pm : (List.take 32 (List.drop 33 (rtL r))).toArray = rB r.m := by have := extract_map r h; simpa using this
  have p0 : (rtL r).toArray[0]? = some (.int .u64 r.s) := rfl
  rw [show (9997 + 2 : Nat) = 9999 from rfl, ← rB_cell] at h1 h2
  have h0 := fun w => run_equalIn_int (P := Try.prog) w 9998 32 .u64 .u64 (r.s : Int) (r.s : Int) Try.underlying32
  rw [show (9998 + 1 : Nat) = 9999 from rfl] at h0
  simp [Program.fieldsOf, Try.underlying63, Op.eqFields, part, isAgg, hu, hu2, hsz, p0, pl, pm, h0, h1, h2]

theorem encodeRootN (n : Int) (r : Rt) (h : RtOk r) (w : World) (q : List UInt8) (e : Nat) (hq : encR n r = (q, e)) (C : Array Value) (hC : C = (rtL r).toArray) :
    Calls Try.prog 33 #[.int .i64 n, .agg C] w fun x w' => ∃ A' c', x = .returned (.tuple #[.slice A' q.length c', .int .i64 e]) ∧ NewB w w' (.slice A' q.length c') q := by
  subst hC
  have := encodeRoot_calls n r h w _ _ rfl rfl
  rw [hq] at this; exact this
theorem docEncodeRootN (n : Int) (r : Rt) (h : RtOk r) (w : World) (q : List UInt8) (e : Nat) (hq : encR n r = (q, e)) :
    Calls Try.prog 34 #[.int .i64 n, .agg (rtL r).toArray] w fun x w' => ∃ A' c', x = .returned (.tuple #[.slice A' q.length c', .int .i64 e]) ∧ NewB w w' (.slice A' q.length c') q := by
  have := docEncodeRoot_calls n r h w _ _ rfl rfl
  rw [hq] at this; exact this
def r258 : Rt := ⟨258, [7, 8] ++ List.replicate 30 0, [9] ++ List.replicate 31 0⟩
def q258 : List UInt8 := [0, 0, 0, 0, 0, 0, 1, 2, 7, 8, 9, 0]
theorem r258_ok : RtOk r258 := ⟨by decide, rfl, rfl⟩
theorem encR_258 : encR 2 r258 = (q258, 0) := by kernel_rfl
theorem encode258 (w : World) (C : Array Value) (hC : C = (rtL r258).toArray) :
    Calls Try.prog 33 #[.int .i64 2, .agg C] w fun x w' => ∃ A' c', x = .returned (.tuple #[.slice A' 12 c', .int .i64 0]) ∧ NewB w w' (.slice A' 12 c') q258 := encodeRootN 2 r258 r258_ok w q258 0 encR_258 C hC
set_option maxHeartbeats 1000000 in
set_option maxRecDepth 100000 in
theorem entryRoots_calls (n : Int) (r : Rt) (hr : RtOk r) (A : Option Addr) (P : List UInt8) (m c : Nat) (w : World) (hp : RB w A c P) (hm : m = P.length) (hl : P.length ≤ 140737488355328) :
    Calls Try.prog 8 #[.int .i64 n, .agg (rtL r).toArray, .slice A m c] w fun e w' => e = .returned (.bool true) ∧ Below w.heap.size w w' := by
  subst hm
  obtain ⟨L, hL⟩ : ∃ L, L = rtL r := ⟨_, rfl⟩
  rw [← hL]
  have hc : L.length = 65 := by rw [hL]; exact rtL_length r hr
  have HB := Lib.hid (below_alloc1 (Below.refl w.heap.size w) (Nat.le_refl _) (.cells L.toArray 63))
  have HT := Lib.hid (RtAt.fresh w w.heap.size rfl 63 r hr L.toArray (by rw [hL]))
  clear hL
  have HOK := Lib.hid hr
  obtain ⟨q, e, hq⟩ : ∃ q e, encR n r = (q, e) := ⟨_, _, rfl⟩
  obtain ⟨de, X, hX⟩ : ∃ de X, decR n P = (de, X) := ⟨_, _, rfl⟩
  have HX := Lib.hid (show RtOk X by have := decR_ok n P; rw [hX] at this; exact this)
  have HQ := Lib.hid hq
  have HD := Lib.hid hX
  have H12 := Lib.hid (show (q258 == q258) = true from beq_self_eq_true _)
  have HQQ := Lib.hid (show (q == q) = true from beq_self_eq_true _)
  have hee : ((e : Int) == e) = true := beq_self_eq_true _
  have hdd : ((de : Int) == de) = true := beq_self_eq_true _
  have hE := fun w => run_equalRR w X HX.out
  clear hr hq hX
  go_enter Try.func8, Try.ntmps8
  go_wp2_with (first
    | (go_at_call 13; (with_reducible refine (awake5_calls _).mono ?_); rintro e1 w1 ⟨rfl, hb1⟩; have T1 := Lib.hid (HT.out.new hb1); have B1 := Lib.hid (below_then HB.out hb1))
    | (go_at_call 33; (with_reducible refine (encode258 _ _ (by kernel_rfl)).mono ?_); rintro e2 w2 ⟨A2, c2, rfl, hn2⟩; have T2 := Lib.hid ((T1.out.new hn2.below).new (below_alloc1 (Below.refl _ _) (Nat.le_refl _) (.cells #[.int .u8 0, .int .u8 0, .int .u8 0, .int .u8 0, .int .u8 0, .int .u8 0, .int .u8 1, .int .u8 2, .int .u8 7, .int .u8 8, .int .u8 9, .int .u8 0] 5))); have B2 := Lib.hid (belowA (below_then B1.out hn2.below) (.cells #[.int .u8 0, .int .u8 0, .int .u8 0, .int .u8 0, .int .u8 0, .int .u8 0, .int .u8 1, .int .u8 2, .int .u8 7, .int .u8 8, .int .u8 9, .int .u8 0] 5)))
    | (go_at_call 19; (with_reducible refine (sameR A2 _ q258 q258 12 12 c2 12 _ (hn2.own.rb.alloc _) (RB.litA w2 5 #[.int .u8 0, .int .u8 0, .int .u8 0, .int .u8 0, .int .u8 0, .int .u8 0, .int .u8 1, .int .u8 2, .int .u8 7, .int .u8 8, .int .u8 9, .int .u8 0] q258 rfl 12 rfl (by decide) w2.heap.size rfl) rfl rfl true H12.out).mono ?_); rintro e3 w3 ⟨rfl, hd3⟩; have T3 := Lib.hid (T2.out.new (hd3.below _)); have B3 := Lib.hid (below_then B2.out (hd3.below _)))
    | (refine wp_op_is (.load 63 (.tmp 4)) rfl ?_; refine wp_load_part rfl 63 _ rfl _ rfl (rtL r).toArray (by first | exact T4.out.all | exact T3.out.all) _ Try.underlying63 rfl (sizeR _ HOK.out) ?_)
    | (go_at_call 33; (with_reducible refine (encodeRootN n r HOK.out _ q e HQ.out _ rfl).mono ?_); rintro e4 w4 ⟨A4, c4, rfl, hn4⟩; have T4 := Lib.hid (T3.out.new hn4.below); have B4 := Lib.hid (below_then B3.out hn4.below))
    | (go_at_call 34; (with_reducible refine (docEncodeRootN n r HOK.out _ q e HQ.out).mono ?_); rintro e5 w5 ⟨A5, c5, rfl, hn5⟩; have B5 := Lib.hid (below_then B4.out hn5.below); have P4 := Lib.hid (hn4.own.rb.new hn5.below))
    | (go_at_call 20; (with_reducible refine (twinR A P _ c _ (hp.new B5.out) rfl hl).mono ?_); rintro e6 w6 ⟨A6, c6, rfl, hn6⟩; have B6 := Lib.hid (below_then B5.out hn6.below); have P46 := Lib.hid (P4.out.new hn6.below); have P56 := Lib.hid (hn5.own.rb.new hn6.below))
    | (go_at_call 35; (with_reducible refine (decodeRoot_calls n A6 P _ c6 _ hn6.own.rb rfl hl de X HD.out).mono ?_); rintro e7 w7 ⟨rfl, hb7⟩; have B7 := Lib.hid (belowA (below_then B6.out hb7) (.cells Try.zeroCells63 63)); have P47 := Lib.hid ((P46.out.new hb7).alloc (.cells Try.zeroCells63 63)); have P57 := Lib.hid ((P56.out.new hb7).alloc (.cells Try.zeroCells63 63)); have R7 := Lib.hid (Row.fresh w7 w7.heap.size rfl 63 (rtL zeroR) _ zeroCellsR); have hz7 : w.heap.size < w7.heap.size := by { have h1 := B3.out.size; have h2 := T3.out.row.lt; have h3 := hn4.below.size; have h4 := hn5.below.size; have h5 := hn6.below.size; have h6 := hb7.size; omega })
    | (refine wp_op_is (.store 63 (.tmp 11) (.tmp 49)) rfl ?_; refine wp_store_part rfl 63 _ _ rfl w7.heap.size 0 _ rfl rfl _ _ (by exact R7.out.out) (sizeR _ HX.out) (Nat.le_of_eq (by rw [List.size_toArray, List.size_toArray, rtL_length _ HX.out, rtL_length _ zeroR_ok])) (rtL_one _) ?_; have G7 := row_grown (w7.alloc (.cells Try.zeroCells63 63)) w7.heap.size (splice (rtL zeroR).toArray.toList 0 (rtL X).toArray.toList).toArray; have R8 := Lib.hid (R7.out.put 0 (rtL X).toArray.toList (rtL X) (splice_all _ _ ((rtL_length _ zeroR_ok).trans (rtL_length _ HX.out).symm))); have B8 := Lib.hid (grown_below B7.out G7 B7.out.size (by omega)); have P48 := Lib.hid (P47.out.keep (fun a ea hp => G7.block _ (P47.out.old.out a ea hp) (fun e9 => by have := (P46.out.new hb7).old.out a ea hp; have := Option.some.inj e9; omega))); have P58 := Lib.hid (P57.out.keep (fun a ea hp => G7.block _ (P57.out.old.out a ea hp) (fun e9 => by have := (P56.out.new hb7).old.out a ea hp; have := Option.some.inj e9; omega))))
    | (go_at_call 36; (with_reducible refine (docDecodeRoot_calls n A P _ c _ (hp.new B8.out) rfl hl de X HD.out).mono ?_); rintro e9 w9 ⟨rfl, hb9⟩; have B9 := Lib.hid (belowA (below_then B8.out hb9) (.cells Try.zeroCells63 63)); have P49 := Lib.hid ((P48.out.new hb9).alloc (.cells Try.zeroCells63 63)); have P59 := Lib.hid ((P58.out.new hb9).alloc (.cells Try.zeroCells63 63)); have R89 := Lib.hid ((R8.out.new hb9).alloc (.cells Try.zeroCells63 63)); have hz9 := (R8.out.new hb9).lt; have R9 := Lib.hid (Row.fresh w9 w9.heap.size rfl 63 (rtL zeroR) _ zeroCellsR))
    | (refine wp_op_is (.store 63 (.tmp 13) (.tmp 55)) rfl ?_; refine wp_store_part rfl 63 _ _ rfl w9.heap.size 0 _ rfl rfl _ _ (by exact R9.out.out) (sizeR _ HX.out) (Nat.le_of_eq (by rw [List.size_toArray, List.size_toArray, rtL_length _ HX.out, rtL_length _ zeroR_ok])) (rtL_one _) ?_; have G9 := row_grown (w9.alloc (.cells Try.zeroCells63 63)) w9.heap.size (splice (rtL zeroR).toArray.toList 0 (rtL X).toArray.toList).toArray; have R10 := Lib.hid (R9.out.put 0 (rtL X).toArray.toList (rtL X) (splice_all _ _ ((rtL_length _ zeroR_ok).trans (rtL_length _ HX.out).symm))); have B10 := Lib.hid (grown_below B9.out G9 B9.out.size (by omega)); have R810 := Lib.hid (R89.out.grown G9 (by omega)); have P410 := Lib.hid (P49.out.keep (fun a ea hp => G9.block _ (P49.out.old.out a ea hp) (fun e9 => by have := (P48.out.new hb9).old.out a ea hp; have := Option.some.inj e9; omega))); have P510 := Lib.hid (P59.out.keep (fun a ea hp => G9.block _ (P59.out.old.out a ea hp) (fun e9 => by have := (P58.out.new hb9).old.out a ea hp; have := Option.some.inj e9; omega))))
    | (go_at_call 19; (with_reducible refine (sameR A4 A5 q q _ _ c4 c5 _ P410.out P510.out rfl rfl true HQQ.out).mono ?_); rintro e11 w11 ⟨rfl, hd11⟩; have R811 := Lib.hid (R810.out.new (hd11.below _)); have R1011 := Lib.hid (R10.out.new (hd11.below _)); have B11 := Lib.hid (below_then B10.out (hd11.below _)))
    | (refine wp_op_is (.load 63 (.tmp 11)) rfl ?_; refine wp_load_partW (by rfl) 63 _ rfl _ rfl (rtL X).toArray (R811.out.part [] [] (rtL X) (by simp) 0 rfl _ rfl) _ Try.underlying63 rfl (sizeR _ HX.out) ?_)
    | (refine wp_op_is (.load 63 (.tmp 13)) rfl ?_; refine wp_load_partW (by rfl) 63 _ rfl _ rfl (rtL X).toArray (R1011.out.part [] [] (rtL X) (by simp) 0 rfl _ rfl) _ Try.underlying63 rfl (sizeR _ HX.out) ?_))
  go_ret
  exact ⟨rfl, B11.out⟩
end Go.Proofs.Ytelecdncdaepnaa
