import Derived.Test.YtlcbjjgmkllceaaQWireLay
import Derived.Deep.RegionHeld3
/- The laws' own calls of layer 1 that ask the document: cut, laid. -/
namespace Go.Proofs.Ytlcbjjgmkllceaa
open Go.RowKit
open WireMath (numS beN rawS blobS uvarS grpL grpTo uvarL uvarF grp lst wideL byteAt)

theorem cutN_le (k : Int) (v : Nat) : cutN k v ≤ v := by
  unfold cutN
  repeat' split
  all_goals omega
set_option maxRecDepth 100000 in
theorem cut_calls (k : Int) (v : Nat) (n : Int) (A : Option Addr) (m c : Nat) (w : World) (hv : v ≤ 18446744073709551615) :
    Calls Try.prog 64 #[.agg #[.int .i64 k, .int .u64 v, .int .i64 n, .slice A m c]] w fun e w' => e = .returned (.int .u64 (cutN k v)) ∧ Below w.heap.size w w' := by
  have HB := Lib.hid (below_alloc1 (Below.refl w.heap.size w) (Nat.le_refl _) (.cells #[.int .i64 k, .int .u64 v, .int .i64 n, .slice A m c] 79))
  rcases (by simp only [beq_eq_false_iff_ne]; omega : k = 1 ∨ k = 2 ∨ k = 3 ∨ ((k == 1) = false ∧ (k == 2) = false ∧ (k == 3) = false)) with rfl | rfl | rfl | ⟨b1, b2, b3⟩
  · go_enter Try.func64, Try.ntmps64
    go_wp2
    go_ret
    exact ⟨rfl, HB.out⟩
  · go_enter Try.func64, Try.ntmps64
    go_wp2
    go_ret
    exact ⟨rfl, HB.out⟩
  · go_enter Try.func64, Try.ntmps64
    go_wp2
    go_ret
    exact ⟨rfl, HB.out⟩
  · have hc : cutN k v = v := by
      simp only [beq_eq_false_iff_ne] at b1 b2 b3
      unfold cutN; rw [if_neg b1, if_neg b2, if_neg b3]
    rw [hc]
    clear hc
    go_enter Try.func64, Try.ntmps64
    go_wp2
    go_ret
    exact ⟨rfl, HB.out⟩

/-- a thing of a script in a box of four cells -/
structure Quad (w : World) (b : Nat) (x y z u : Value) : Prop where
  c0 : w.cell? ⟨b, 0, none⟩ = some x
  c1 : w.cell? ⟨b, 1, none⟩ = some y
  c2 : w.cell? ⟨b, 2, none⟩ = some z
  c3 : w.cell? ⟨b, 3, none⟩ = some u
  fz : ∀ j, w.frozen? ⟨b, j, none⟩ = false
theorem Quad.fresh (w : World) (k : Nat) (hk : w.heap.size = k) (x y z u : Value) (t : TypeId) : Quad (w.alloc (.cells #[x, y, z, u] t)) k x y z u := by
  subst hk
  have e := heap_alloc_new w (.cells #[x, y, z, u] t)
  exact ⟨by rw [cell_of_row _ _ _ _ _ _ e]; rfl, by rw [cell_of_row _ _ _ _ _ _ e]; rfl, by rw [cell_of_row _ _ _ _ _ _ e]; rfl, by rw [cell_of_row _ _ _ _ _ _ e]; rfl, fun _ => frozen_of_row _ _ _ #[x, y, z, u] t e⟩
theorem Quad.keep {w w' : World} {b : Nat} {x y z u : Value} (h : Quad w b x y z u) (hb : w'.heap[b]? = w.heap[b]?) : Quad w' b x y z u :=
  ⟨(World.cell?_of_block (a := ⟨b, 0, none⟩) hb).trans h.c0, (World.cell?_of_block (a := ⟨b, 1, none⟩) hb).trans h.c1, (World.cell?_of_block (a := ⟨b, 2, none⟩) hb).trans h.c2, (World.cell?_of_block (a := ⟨b, 3, none⟩) hb).trans h.c3, fun j => (World.frozen?_of_block (a := ⟨b, j, none⟩) hb).trans (h.fz j)⟩
theorem Quad.lt {w : World} {b : Nat} {x y z u : Value} (h : Quad w b x y z u) : b < w.heap.size := World.block_lt_of_cell? w _ h.c0
theorem Quad.new {w w' : World} {b : Nat} {x y z u : Value} (h : Quad w b x y z u) (B : Below w.heap.size w w') : Quad w' b x y z u := h.keep (B.block b h.lt)
theorem Quad.alloc {w : World} {b : Nat} {x y z u : Value} (h : Quad w b x y z u) (o : Obj) : Quad (w.alloc o) b x y z u := h.new (below_alloc1 (Below.refl _ _) (Nat.le_refl _) o)
theorem Quad.drew {w : World} {b : Nat} {x y z u : Value} (h : Quad w b x y z u) : Quad w.drew b x y z u := h.new (below_drew _ _)
theorem Quad.step {w w' : World} {b : Nat} {x y z u : Value} {F F' : Nat → Prop} (h : Quad w b x y z u) (hs : Step w w' F F') (hf : ¬ F b) : Quad w' b x y z u := h.keep (hs.block b h.lt hf)

set_option maxRecDepth 100000 in
theorem laid_calls (k : Int) (v : Nat) (n : Int) (A : Option Addr) (P : List UInt8) (m c : Nat) (N : Nat) (q : List UInt8) (hq : laidL k v P = q) (hN : N = q.length) (w : World) (hm : m = P.length) (hv : v ≤ 18446744073709551615) (hP : RB w A c P) (hl : P.length ≤ 140737488355328) :
    Calls Try.prog 41 #[.agg #[.int .i64 k, .int .u64 v, .int .i64 n, .slice A m c]] w fun e w' => ∃ A' c', e = .returned (.slice A' N c') ∧ NewB w w' (.slice A' N c') q := by
  subst hm
  have HB := Lib.hid (below_alloc1 (Below.refl w.heap.size w) (Nat.le_refl _) (.cells #[.int .i64 k, .int .u64 v, .int .i64 n, .slice A P.length c] 79))
  have HP := Lib.hid (hP.new HB.out)
  have HQ4 := Lib.hid (Quad.fresh w w.heap.size rfl (.int .i64 k) (.int .u64 v) (.int .i64 n) (.slice A P.length c) 79)
  by_cases hw : 0 < widthF k
  · have hqe : wideL (cutN k v) (widthF k) = q := by rw [← hq]; unfold laidL; rw [if_pos hw]
    have hN2 : N = widthF k := by rw [hN, ← hqe, WireMath.wideL_length]
    subst hN2
    have hw8 : widthF k ≤ 8 := by
      unfold widthF
      repeat' split
      all_goals decide
    have hcl := cutN_le k v
    have HQE := Lib.hid hqe
    clear hq hN hqe
    have hwd := Lib.hid (fun w' => width_calls k w')
    generalize widthF k = u at *
    have hct := Lib.hid (fun w' => cut_calls k v n A P.length c w' hv)
    generalize cutN k v = x at *
    go_enter Try.func41, Try.ntmps41
    go_wp2_with (go_at_call 63; (with_reducible refine (hwd.out _).mono ?_); rintro e1 w1 ⟨rfl, rfl⟩)
    have d0 := HQ4.out.c0
    have d1 := HQ4.out.c1
    have d2 := HQ4.out.c2
    have d3 := HQ4.out.c3
    go_region_held3 (fun w' => w'.cell? ⟨w.heap.size, 0, none⟩ = some (.int .i64 k) ∧ w'.cell? ⟨w.heap.size, 1, none⟩ = some (.int .u64 v) ∧ w'.cell? ⟨w.heap.size, 2, none⟩ = some (.int .i64 n) ∧ w'.cell? ⟨w.heap.size, 3, none⟩ = some (.slice A P.length c)) (go_keep) (first
      | (go_at_call 64; (with_reducible refine (hct.out _).mono ?_); rintro e2 w2 ⟨rfl, hb2⟩; have q2 := HQ4.out.new ((below_drew _ _).trans hb2); have d0 := q2.c0; have d1 := q2.c1; have d2 := q2.c2; have d3 := q2.c3)
      | (go_at_call 63; (with_reducible refine (hwd.out _).mono ?_); rintro e3 w3 ⟨rfl, rfl⟩)
      | (go_at_call 53; go_loud (with_reducible refine (refwide_calls x u _ _ rfl rfl _ (by omega) hw8).mono ?_); rintro e4 w4 ⟨A4, c4, rfl, hn4⟩; have q4 := q2.new hn4.below; have d0 := q4.c0; have d1 := q4.c1; have d2 := q4.c2; have d3 := q4.c3))
    go_wp2
    go_ret
    have B2 := below_then HB.out.drew hb2
    rw [← HQE.out]
    exact ⟨A4, c4, rfl, hn4.own.mono B2.size, below_then B2 hn4.below⟩
  · have hw0 : widthF k = 0 := by omega
    have hwd := Lib.hid (fun w' => widthN k 0 (by rw [hw0]; rfl) w')
    have hq2 : (if k = 5 then uvarL v else if k = 6 then P else if k = 7 then uvarL P.length ++ P else []) = q := by rw [← hq]; unfold laidL; rw [if_neg hw]
    clear hw hw0 hq
    rcases (by simp only [beq_eq_false_iff_ne]; omega : k = 5 ∨ k = 6 ∨ k = 7 ∨ ((k == 5) = false ∧ (k == 6) = false ∧ (k == 7) = false)) with rfl | rfl | rfl | ⟨b5, b6, b7⟩
    · rw [if_pos rfl] at hq2
      subst hq2; subst hN
      go_enter Try.func41, Try.ntmps41
      go_wp2_with (first
        | (go_at_call 63; (with_reducible refine (hwd.out _).mono ?_); rintro e1 w1 ⟨rfl, rfl⟩)
        | (go_at_call 65; (with_reducible refine (refuvar_calls v _ rfl _ hv).mono ?_); rintro e2 w2 ⟨A2, c2, rfl, hn2⟩))
      go_ret
      exact ⟨A2, c2, rfl, hn2.own.mono HB.out.size, below_then HB.out hn2.below⟩
    · rw [if_neg (by decide), if_pos rfl] at hq2
      subst hq2; subst hN
      go_enter Try.func41, Try.ntmps41
      go_wp2_with (first
        | (go_at_call 63; (with_reducible refine (hwd.out _).mono ?_); rintro e1 w1 ⟨rfl, rfl⟩)
        | (go_at_call 12; (with_reducible refine (twinR A P P.length c _ HP.out rfl hl).mono ?_); rintro e2 w2 ⟨A2, c2, rfl, hn2⟩))
      go_ret
      exact ⟨A2, c2, rfl, hn2.own.mono HB.out.size, below_then HB.out hn2.below⟩
    · rw [if_neg (by decide), if_neg (by decide), if_pos rfl] at hq2
      subst hq2
      have hN2 : N = (uvarL P.length).length + P.length := by rw [hN, List.length_append]
      subst hN2
      clear hN
      go_enter Try.func41, Try.ntmps41
      go_wp2_with (first
        | (go_at_call 63; (with_reducible refine (hwd.out _).mono ?_); rintro e1 w1 ⟨rfl, rfl⟩)
        | (go_at_call 66; (with_reducible refine (refblob_calls A P P.length c _ HP.out rfl hl).mono ?_); rintro e2 w2 ⟨A2, c2, rfl, hn2⟩))
      go_ret
      exact ⟨A2, c2, rfl, hn2.own.mono HB.out.size, below_then HB.out hn2.below⟩
    · have h5 : ¬ k = 5 := by simpa using b5
      have h6 : ¬ k = 6 := by simpa using b6
      have h7 : ¬ k = 7 := by simpa using b7
      rw [if_neg h5, if_neg h6, if_neg h7] at hq2
      subst hq2; subst hN
      clear h5 h6 h7
      go_enter Try.func41, Try.ntmps41
      go_wp2_with (go_at_call 63; (with_reducible refine (hwd.out _).mono ?_); rintro e1 w1 ⟨rfl, rfl⟩)
      go_ret
      exact ⟨none, 0, rfl, OB.nil _ _ _, HB.out⟩
end Go.Proofs.Ytlcbjjgmkllceaa
