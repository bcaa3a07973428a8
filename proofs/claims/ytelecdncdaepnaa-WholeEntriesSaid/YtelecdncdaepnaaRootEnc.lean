/- Layer 5: entry.EncodeRoot. -/
import Derived.Test.YtelecdncdaepnaaRootForm
import Derived.Test.YtelecdncdaepnaaEntryWalk
namespace Go.Proofs.Ytelecdncdaepnaa
open Go.RowKit
open WireMath (numS beN rawS blobS uvarS grpL uvarL wideL)

/-- a root -/
structure Rt where
  s : Nat
  l : List UInt8
  m : List UInt8
structure RtOk (r : Rt) : Prop where
  s : r.s ≤ 18446744073709551615
  l : r.l.length = 32
  m : r.m.length = 32
/-- its cells -/
def rtL (r : Rt) : List Value := .int .u64 r.s :: (encB r.l ++ encB r.m)
def rootL (k : Nat) (r : Rt) : List UInt8 := wideL r.s 8 ++ (r.l.take k ++ r.m.take k)
def encR (n : Int) (r : Rt) : List UInt8 × Nat := if wideF n ≠ 0 then ([], 1) else if formF n r.l ∧ formF n r.m then (rootL n.toNat r, 0) else ([], 3)
theorem rtL_length (r : Rt) (h : RtOk r) : (rtL r).length = 65 := by
  unfold rtL
  rw [List.length_cons, List.length_append, encB_length, encB_length, h.l, h.m]
theorem ewideN (n : Int) (c : Int) (hc : (wideF n : Int) = c) (w : World) : Calls Try.prog 76 #[.int .i64 n] w fun r w' => r = .returned (.int .i64 c) ∧ w = w' := by
  subst hc; exact ewide_calls n w
/-- the cells of a root in a box -/
structure RtAt (w : World) (g : Nat) (T : TypeId) (r : Rt) : Prop where
  row : Row w g T (rtL r)
  ok : RtOk r
theorem RtAt.new {w w' : World} {g : Nat} {T : TypeId} {r : Rt} (h : RtAt w g T r) (hb : Below w.heap.size w w') : RtAt w' g T r := ⟨h.row.new hb, h.ok⟩
theorem RtAt.keep {w w' : World} {g : Nat} {T : TypeId} {r : Rt} (h : RtAt w g T r) {B : Nat} (hb : Below B w w') (hg : g < B) : RtAt w' g T r := ⟨h.row.keep hb hg, h.ok⟩
theorem RtAt.drew {w : World} {g : Nat} {T : TypeId} {r : Rt} (h : RtAt w g T r) : RtAt w.drew g T r := ⟨h.row.drew, h.ok⟩
theorem RtAt.size {w : World} {g : Nat} {T : TypeId} {r : Rt} (h : RtAt w g T r) : w.cell? ⟨g, 0, none⟩ = some (.int .u64 r.s) := by rw [h.row.cell]; rfl
theorem RtAt.log {w : World} {g : Nat} {T : TypeId} {r : Rt} (h : RtAt w g T r) : RB w (some ⟨g, 1, none⟩) 32 r.l := h.row.reads [.int .u64 r.s] (encB r.m) r.l rfl 1 32 rfl (by rw [h.ok.l]; decide) (by decide)
theorem RtAt.map {w : World} {g : Nat} {T : TypeId} {r : Rt} (h : RtAt w g T r) : RB w (some ⟨g, 33, none⟩) 32 r.m := h.row.reads (.int .u64 r.s :: encB r.l) [] r.m (by simp [rtL]) 33 32 (by rw [List.length_cons, encB_length, h.ok.l]) (by rw [h.ok.m]; decide) (by decide)
theorem RtAt.logC {w : World} {g : Nat} {T : TypeId} {r : Rt} (h : RtAt w g T r) : ∀ j v, (rB r.l).toList[j]? = some v → w.cell? ((⟨g, 1, none⟩ : Addr).add j) = some v := h.row.part [.int .u64 r.s] (encB r.m) (encB r.l) rfl 1 rfl _ rfl
theorem RtAt.mapC {w : World} {g : Nat} {T : TypeId} {r : Rt} (h : RtAt w g T r) : ∀ j v, (rB r.m).toList[j]? = some v → w.cell? ((⟨g, 33, none⟩ : Addr).add j) = some v := h.row.part (.int .u64 r.s :: encB r.l) [] (encB r.m) (by simp [rtL]) 33 (by rw [List.length_cons, encB_length, h.ok.l]) _ rfl
theorem RtAt.all {w : World} {g : Nat} {T : TypeId} {r : Rt} (h : RtAt w g T r) : ∀ j v, (rtL r).toArray.toList[j]? = some v → w.cell? ((⟨g, 0, none⟩ : Addr).add j) = some v := h.row.part [] [] (rtL r) (by simp) 0 rfl _ rfl
theorem RtAt.fresh (w : World) (g : Nat) (hg : g = w.heap.size) (T : TypeId) (r : Rt) (h : RtOk r) (C : Array Value) (hC : C = (rtL r).toArray) : RtAt (w.alloc (.cells C T)) g T r := ⟨Row.fresh w g hg T _ C hC, h⟩
theorem sizeD (d : List UInt8) (hd : d.length = 32) : (Try.prog.info? 61).map (·.size) = some (rB d).size := by rw [rB_size, hd]; kernel_rfl
theorem sizeR (r : Rt) (h : RtOk r) : (Try.prog.info? 63).map (·.size) = some (rtL r).toArray.size := by rw [List.size_toArray, rtL_length r h]; kernel_rfl

set_option maxRecDepth 100000 in
theorem encodeRoot_ok (k : Nat) (r : Rt) (h : RtOk r) (hf : formF k r.l) (hm : formF k r.m) (w : World) (N : Nat) (R : List UInt8) (hR : R = rootL k r) (hN : N = R.length) :
    Calls Try.prog 33 #[.int .i64 k, .agg (rtL r).toArray] w fun e w' => ∃ A' c', e = .returned (.tuple #[.slice A' N c', .int .i64 0]) ∧ NewB w w' (.slice A' N c') R := by
  obtain ⟨L, hL⟩ : ∃ L, L = rtL r := ⟨_, rfl⟩
  rw [← hL]
  have hc : L.length = 65 := by rw [hL]; exact rtL_length r h
  have HOK := Lib.hid h
  have HB := Lib.hid (below_alloc1 (Below.refl w.heap.size w) (Nat.le_refl _) (.cells L.toArray 63))
  have HT := Lib.hid (RtAt.fresh w w.heap.size rfl 63 r h L.toArray (by rw [hL]))
  have HW := Lib.hid (show (wideF k : Int) = 0 by unfold wideF; rw [if_neg (by have := hf.1; have := hf.2.1; omega)]; rfl)
  have HF := Lib.hid (show decide (formF k r.l) = true from decide_eq_true hf)
  have HM := Lib.hid (show decide (formF k r.m) = true from decide_eq_true hm)
  have HLK := Lib.hid (show k = (r.l.take k).length by rw [List.length_take, h.l]; have := hf.2.1; omega)
  have HMK := Lib.hid (show k = (r.m.take k).length by rw [List.length_take, h.m]; have := hf.2.1; omega)
  have HR := Lib.hid (show ([] ++ wideL r.s 8 ++ r.l.take k) ++ r.m.take k = R by rw [hR]; unfold rootL; simp)
  have HN := Lib.hid hN
  have hk : k ≤ 32 := by have := hf.2.1; omega
  clear hL hR hN hf hm
  have hcut := fun (w' : World) (A : Addr) => run_cut_arr (P := Try.prog) w' 61 5 32 Try.underlying61 (by kernel_rfl) A .i64 k k rfl hk
  go_enter Try.func33, Try.ntmps33
  go_wp2_with (first
    | (go_at_call 76; go_loud (with_reducible refine (ewideN _ 0 HW.out _).mono ?_); rintro e1 w1 ⟨rfl, rfl⟩)
    | (refine wp_load_part rfl 61 (.tmp 14) rfl _ rfl (rB r.l) HT.out.logC _ Try.underlying61 rfl (sizeD _ HOK.out.l) ?_)
    | (refine wp_load_partW (by rfl) 61 (.tmp 20) rfl _ rfl (rB r.m) T2.out.mapC _ Try.underlying61 rfl (sizeD _ HOK.out.m) ?_)
    | (go_at_call 77; (with_reducible refine (form_calls k r.l HOK.out.l true HF.out _).mono ?_); rintro e2 w2 ⟨rfl, hb2⟩; have T2 := Lib.hid (HT.out.new hb2); have B2 := Lib.hid (below_then HB.out hb2))
    | (go_at_call 77; (with_reducible refine (form_calls k r.m HOK.out.m true HM.out _).mono ?_); rintro e3 w3 ⟨rfl, hb3⟩; have T3 := Lib.hid (T2.out.new hb3); have B3 := Lib.hid (below_then B2.out hb3); have d3 := T3.out.size; have hz3 := T3.out.row.lt; have HW3 := Lib.hid (WrF.fresh w3 w3.heap.size rfl 84); have T4 := Lib.hid (T3.out.new (below_alloc1 (Below.refl _ _) (Nat.le_refl _) (.cells #[.slice none 0 0] 84))); have B4 := Lib.hid (belowA B3.out (.cells #[.slice none 0 0] 84)))
    | (go_at_call 78; (with_reducible refine (u64F HW3.out _ r.s _ rfl rfl HOK.out.s (by simp)).mono ?_); rintro e4 w4 ⟨F4, rfl, hw4, hs4⟩; have lo4 := hs4.lo (B := w.heap.size + 1) (fun k hk => by have e9 : k = w3.heap.size := hk; omega) (by rw [szA]; omega); have hb4 := hs4.below (B := w.heap.size + 1) (by rw [szA]; omega) (fun k hk => by have e9 : k = w3.heap.size := hk; omega); have T5 := Lib.hid (T4.out.keep hb4 (by omega)); have B5 := Lib.hid (B4.out.trans (hb4.mono (by omega))))
    | (go_at_call 79; (with_reducible refine (rawF hw4 (some ⟨w.heap.size, 1, none⟩) (r.l.take k) _ k 32 rfl (T5.out.log.take k) HLK.out (by simp [WireMath.wideL_length]; omega)).mono ?_); rintro e5 w5 ⟨F5, rfl, hw5, hs5⟩; have lo5 := hs5.lo lo4 (by have := T5.out.row.lt; omega); have hb5 := hs5.below (B := w.heap.size + 1) (by have := T5.out.row.lt; omega) lo4; have T6 := Lib.hid (T5.out.keep hb5 (by omega)); have B6 := Lib.hid (B5.out.trans (hb5.mono (by omega))))
    | (go_at_call 79; (with_reducible refine (rawF hw5 (some ⟨w.heap.size, 33, none⟩) (r.m.take k) R k 32 HR.out (T6.out.map.take k) HMK.out (by simp [WireMath.wideL_length]; omega)).mono ?_); rintro e6 w6 ⟨F6, rfl, hw6, hs6⟩; have hb6 := hs6.below (B := w.heap.size + 1) (by have := T6.out.row.lt; omega) lo5; have B7 := Lib.hid (B6.out.trans (hb6.mono (by omega))))
    | (go_at_call 50; (with_reducible refine (bytesF hw6 N HN.out (by rw [← HR.out]; simp [WireMath.wideL_length]; omega)).mono ?_); rintro e7 w7 ⟨A7, c7, rfl, hn7⟩))
  go_ret2
  exact ⟨A7, c7, rfl, hn7.own.mono B7.out.size, below_then B7.out hn7.below⟩
set_option maxRecDepth 100000 in
theorem encodeRoot_wide (n : Int) (r : Rt) (h : RtOk r) (hw : wideF n = 1) (w : World) :
    Calls Try.prog 33 #[.int .i64 n, .agg (rtL r).toArray] w fun e w' => e = .returned (.tuple #[.slice none 0 0, .int .i64 1]) ∧ Below w.heap.size w w' := by
  obtain ⟨L, hL⟩ : ∃ L, L = rtL r := ⟨_, rfl⟩
  rw [← hL]
  have hc : L.length = 65 := by rw [hL]; exact rtL_length r h
  have HB := Lib.hid (below_alloc1 (Below.refl w.heap.size w) (Nat.le_refl _) (.cells L.toArray 63))
  have HW := Lib.hid (show (wideF n : Int) = 1 by rw [hw]; rfl)
  clear hL hw
  go_enter Try.func33, Try.ntmps33
  go_wp2_with (first
    | (go_at_call 76; (with_reducible refine (ewideN _ 1 HW.out _).mono ?_); rintro e1 w1 ⟨rfl, rfl⟩))
  go_ret2
  exact ⟨rfl, HB.out⟩
set_option maxRecDepth 100000 in
theorem encodeRoot_log (n : Int) (r : Rt) (h : RtOk r) (hw : wideF n = 0) (hf : ¬ formF n r.l) (w : World) :
    Calls Try.prog 33 #[.int .i64 n, .agg (rtL r).toArray] w fun e w' => e = .returned (.tuple #[.slice none 0 0, .int .i64 3]) ∧ Below w.heap.size w w' := by
  obtain ⟨L, hL⟩ : ∃ L, L = rtL r := ⟨_, rfl⟩
  rw [← hL]
  have hc : L.length = 65 := by rw [hL]; exact rtL_length r h
  have HOK := Lib.hid h
  have HB := Lib.hid (below_alloc1 (Below.refl w.heap.size w) (Nat.le_refl _) (.cells L.toArray 63))
  have HT := Lib.hid (RtAt.fresh w w.heap.size rfl 63 r h L.toArray (by rw [hL]))
  have HW := Lib.hid (show (wideF n : Int) = 0 by rw [hw]; rfl)
  have HF := Lib.hid (show decide (formF n r.l) = false from decide_eq_false hf)
  clear hL hw hf
  go_enter Try.func33, Try.ntmps33
  go_wp2_with (first
    | (go_at_call 76; (with_reducible refine (ewideN _ 0 HW.out _).mono ?_); rintro e1 w1 ⟨rfl, rfl⟩)
    | (refine wp_load_part rfl 61 (.tmp 14) rfl _ rfl (rB r.l) HT.out.logC _ Try.underlying61 rfl (sizeD _ HOK.out.l) ?_)
    | (go_at_call 77; (with_reducible refine (form_calls n r.l HOK.out.l false HF.out _).mono ?_); rintro e2 w2 ⟨rfl, hb2⟩; have B2 := Lib.hid (below_then HB.out hb2)))
  go_ret2
  exact ⟨rfl, B2.out⟩
set_option maxRecDepth 100000 in
theorem encodeRoot_map (n : Int) (r : Rt) (h : RtOk r) (hw : wideF n = 0) (hf : formF n r.l) (hm : ¬ formF n r.m) (w : World) :
    Calls Try.prog 33 #[.int .i64 n, .agg (rtL r).toArray] w fun e w' => e = .returned (.tuple #[.slice none 0 0, .int .i64 3]) ∧ Below w.heap.size w w' := by
  obtain ⟨L, hL⟩ : ∃ L, L = rtL r := ⟨_, rfl⟩
  rw [← hL]
  have hc : L.length = 65 := by rw [hL]; exact rtL_length r h
  have HOK := Lib.hid h
  have HB := Lib.hid (below_alloc1 (Below.refl w.heap.size w) (Nat.le_refl _) (.cells L.toArray 63))
  have HT := Lib.hid (RtAt.fresh w w.heap.size rfl 63 r h L.toArray (by rw [hL]))
  have HW := Lib.hid (show (wideF n : Int) = 0 by rw [hw]; rfl)
  have HF := Lib.hid (show decide (formF n r.l) = true from decide_eq_true hf)
  have HM := Lib.hid (show decide (formF n r.m) = false from decide_eq_false hm)
  clear hL hw hf hm
  go_enter Try.func33, Try.ntmps33
  go_wp2_with (first
    | (go_at_call 76; (with_reducible refine (ewideN _ 0 HW.out _).mono ?_); rintro e1 w1 ⟨rfl, rfl⟩)
    | (refine wp_load_part rfl 61 (.tmp 14) rfl _ rfl (rB r.l) HT.out.logC _ Try.underlying61 rfl (sizeD _ HOK.out.l) ?_)
    | (refine wp_load_partW (by rfl) 61 (.tmp 20) rfl _ rfl (rB r.m) T2.out.mapC _ Try.underlying61 rfl (sizeD _ HOK.out.m) ?_)
    | (go_at_call 77; (with_reducible refine (form_calls n r.l HOK.out.l true HF.out _).mono ?_); rintro e2 w2 ⟨rfl, hb2⟩; have T2 := Lib.hid (HT.out.new hb2); have B2 := Lib.hid (below_then HB.out hb2))
    | (go_at_call 77; (with_reducible refine (form_calls n r.m HOK.out.m false HM.out _).mono ?_); rintro e3 w3 ⟨rfl, hb3⟩; have B3 := Lib.hid (below_then B2.out hb3)))
  go_ret2
  exact ⟨rfl, B3.out⟩
/-- EncodeRoot -/
theorem encodeRoot_calls (n : Int) (r : Rt) (h : RtOk r) (w : World) (N : Nat) (E : Int) (hN : N = (encR n r).1.length) (hE : E = (encR n r).2) :
    Calls Try.prog 33 #[.int .i64 n, .agg (rtL r).toArray] w fun e w' => ∃ A' c', e = .returned (.tuple #[.slice A' N c', .int .i64 E]) ∧ NewB w w' (.slice A' N c') (encR n r).1 := by
  subst hN hE
  by_cases hw : wideF n = 0
  · by_cases hl : formF n r.l
    · by_cases hm : formF n r.m
      · obtain ⟨k, rfl⟩ := Int.eq_ofNat_of_zero_le (show 0 ≤ n by have := hl.1; omega)
        have e1 : encR k r = (rootL k r, 0) := by unfold encR; rw [if_neg (by omega), if_pos ⟨hl, hm⟩]; rfl
        rw [e1]
        exact encodeRoot_ok k r h hl hm w _ _ rfl rfl
      · have e1 : encR n r = ([], 3) := by unfold encR; rw [if_neg (by omega), if_neg (fun x => hm x.2)]
        rw [e1]
        refine (encodeRoot_map n r h hw hl hm w).mono ?_
        rintro e w' ⟨rfl, hb⟩
        exact ⟨none, 0, rfl, OB.nil _ _ _, hb⟩
    · have e1 : encR n r = ([], 3) := by unfold encR; rw [if_neg (by omega), if_neg (fun x => hl x.1)]
      rw [e1]
      refine (encodeRoot_log n r h hw hl w).mono ?_
      rintro e w' ⟨rfl, hb⟩
      exact ⟨none, 0, rfl, OB.nil _ _ _, hb⟩
  · have h1 : wideF n = 1 := by unfold wideF at hw ⊢; split at hw <;> simp_all
    have e1 : encR n r = ([], 1) := by unfold encR; rw [if_pos hw]
    rw [e1]
    refine (encodeRoot_wide n r h h1 w).mono ?_
    rintro e w' ⟨rfl, hb⟩
    exact ⟨none, 0, rfl, OB.nil _ _ _, hb⟩
end Go.Proofs.Ytelecdncdaepnaa
