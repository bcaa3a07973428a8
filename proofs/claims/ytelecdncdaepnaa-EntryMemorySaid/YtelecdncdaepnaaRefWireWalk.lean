/- The reference of layer 1: Wide. -/
import Derived.Test.YtelecdncdaepnaaMemWalk
import Derived.Test.YtelecdncdaepnaaWireMath
namespace Go.Proofs.Ytelecdncdaepnaa
open Go.RowKit
open WireMath (wideL byteAt)

theorem wideL_put (v n j : Nat) (h : j < n) : (List.replicate (j + 1) 0 ++ wideL v (n - (j + 1))).set j (byteAt v (n - (j + 1))) = List.replicate j 0 ++ wideL v (n - j) := by
  rw [show n - j = (n - (j + 1)) + 1 by omega]
  rw [List.set_append_left _ _ (by simp), List.replicate_succ', List.set_append_right _ _ (by simp)]
  simp [WireMath.wideL]
theorem byteAt_mod (v k : Nat) : ((v / 256 ^ k : Nat) : Int) % 256 = uB (byteAt v k) := by
  unfold uB WireMath.byteAt
  rw [UInt8.toNat_ofNat', show (256 : Nat) ^ k = 2 ^ (8 * k) by rw [Nat.pow_mul]]
  omega
set_option maxRecDepth 100000 in
theorem refwide_calls (v n : Nat) (V N : Int) (hV : V = v) (hN : N = n) (w : World) (hv : v ≤ 18446744073709551615) (hn : n ≤ 8) :
    Calls Try.prog 82 #[.int .u64 V, .int .i64 N] w fun e w' => ∃ A' c', e = .returned (.slice A' n c') ∧ NewB w w' (.slice A' n c') (wideL v n) := by
  subst hV; subst hN
  go_enter Try.func82, Try.ntmps82
  go_wp2_with (refine wp_makeB bt rfl _ _ rfl .i64 .i64 n n rfl rfl rfl (by omega) w.heap.size (Nat.le_refl _) fun w1 ho hb => ?_)
  go_loopw [0, 6] (fun x i wr => ∃ j : Nat, j ≤ n ∧ i = .int .i64 ((j : Int) - 1) ∧ x = .int .u64 ((v / 256 ^ (n - j) : Nat) : Int) ∧ OB wr w.heap.size 5 (.slice (some ⟨w.heap.size, 0, none⟩) n n) (List.replicate j 0 ++ wideL v (n - j)) ∧ Below w.heap.size w wr) (fun _ i _ => (intOf i + 1).toNat)
  case atStart => exact ⟨n, Nat.le_refl _, rfl, by simp, by simpa [WireMath.wideL] using ho, hb⟩
  case round =>
    obtain ⟨j, hj, rfl, rfl, HO, HB⟩ := hrel
    cases j with
    | zero =>
      rw [Nat.sub_zero, List.replicate_zero, List.nil_append] at HO
      go_wp2
      go_ret
      exact ⟨_, _, rfl, HO, HB⟩
    | succ j =>
      obtain ⟨hc, hf⟩ := HO.cell j (by simp; omega)
      obtain ⟨h1, h2⟩ := HO.set j (byteAt v (n - (j + 1)))
      rw [wideL_put v n j (by omega)] at h1
      have hb := byteAt_mod v (n - (j + 1))
      have hx : v / 256 ^ (n - j) = v / 256 ^ (n - (j + 1)) / 256 := by
        rw [show n - j = (n - (j + 1)) + 1 by omega, Nat.pow_succ, ← Nat.div_div_eq_div_mul]
      have hle : v / 256 ^ (n - (j + 1)) ≤ v := Nat.div_le_self _ _
      have HX := Lib.hid hx
      have H1 := Lib.hid h1
      have H2 := Lib.hid h2
      clear h1 h2 hx
      generalize v / 256 ^ (n - (j + 1)) = x at *
      generalize byteAt v (n - (j + 1)) = y at *
      go_wp2
      go_roundw
      case rel => exact ⟨j, by omega, rfl, by rw [HX.out]; go_num, H1.out, HB.grown H2.out HB.size (fun k e => by have := Option.some.inj e; omega)⟩
      case measure => simp [intOf] <;> omega
end Go.Proofs.Ytelecdncdaepnaa
