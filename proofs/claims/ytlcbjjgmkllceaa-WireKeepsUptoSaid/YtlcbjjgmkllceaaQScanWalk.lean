import Derived.Test.YtlcbjjgmkllceaaQBf
/- The walks of layer 7: Scan. -/
namespace Go.Proofs.Ytlcbjjgmkllceaa
open Go.RowKit

theorem frt : FrT Try.prog 58 43 := ⟨Try.underlying58, by kernel_rfl⟩
set_option maxHeartbeats 400000 in
set_option maxRecDepth 100000 in
theorem scan_calls (A : Option Addr) (P : List UInt8) (n c : Nat) (w : World) (hp : RB w A c P) (hn : n = P.length) (hl : P.length ≤ 70368744177664) :
    Calls Try.prog 27 #[.slice A n c] w fun e w' => ∃ A' c' fs, e = .returned (.tuple #[.slice A' (scanF P).1.length c', .int .i64 (scanF P).2]) ∧ FL w' w.heap.size 43 (.slice A' (scanF P).1.length c') fs ∧ frOf fs = (scanF P).1 ∧ Below w.heap.size w w' := by
  subst hn
  go_enter Try.func27, Try.ntmps27
  go_wp2
  go_loopw [4, 5] (fun v i wr => ∃ (at_ f : Nat) (fs : List FrV), at_ ≤ P.length ∧ i = .int .i64 at_ ∧ FL wr w.heap.size 43 v fs ∧ P.length < at_ + f ∧ Hid (scanF P = (frOf fs ++ (scanTo f P at_).1, (scanTo f P at_).2)) ∧ fs.length * 19 ≤ at_ ∧ Below w.heap.size w wr) (fun _ i _ => P.length - (intOf i).toNat)
  case atStart => exact ⟨0, P.length + 1, [], Nat.zero_le _, rfl, FL.nil _ _ _, by omega, Lib.hid rfl, by simp, Below.refl _ _⟩
  case round =>
    obtain ⟨at_, f, fs, hat, rfl, HL, hf, HS, h19, HB⟩ := hrel
    obtain ⟨A1, c1, rfl⟩ := HL.form
    cases f with
    | zero => omega
    | succ f =>
      have hcall := fun w' (h : RB w' A c P) => next_calls A P P.length c (at_ : Int) (by omega) w' h rfl (by omega)
      by_cases hk : (nextF P at_).kind = 1
      · obtain ⟨a, ea, hp1, hp2, hpl, hnx, hle, _⟩ := next_whole P at_ hk
        obtain rfl : a = at_ := by omega
        have hsc : scanTo (f + 1) P a = ((nextF P a).fr :: (scanTo f P (nextF P a).next).1, (scanTo f P (nextF P a).next).2) := by rw [scanTo]; rw [if_pos hk]
        have hbm : ((nextF P (a : Int)).kind : Int) = 1 := by rw [hk]; rfl
        generalize nextF P (a : Int) = r at *
        obtain ⟨kk, pl, pay, nx⟩ := r
        simp only at hk hp1 hp2 hpl hnx hle hsc hbm
        subst hk
        obtain ⟨nx', hnx', hxl⟩ : ∃ nx' : Nat, nx = nx' ∧ nx' = a + pay.length + 18 := ⟨a + pay.length + 18, by omega, rfl⟩
        subst hnx'
        rw [hsc] at HS
        have HC := Lib.hid hcall
        have HXL := Lib.hid hxl
        have hnl : nx' ≤ P.length := by omega
        clear hcall hsc hbm hnx hxl hpl hp2 hle
        go_wp2_with (first
          | (go_at_call 18; (with_reducible refine (HC.out _ (hp.new HB)).mono ?_); rintro e2 w2 ⟨A2, c2, rfl, hn2⟩)
          | (refine wp_appendFr frt rfl (.tmp 20) (.tmp 22) rfl w.heap.size (.slice A1 fs.length c1) fs rfl (((HL.new hn2.below).new (below_alloc1 (Below.refl _ _) (Nat.le_refl _) (.cells #[.int .u64 pl, .slice A2 pay.length c2] 43))).new (below_alloc1 (Below.refl _ _) (Nat.le_refl _) (.cells #[.int .u64 pl, .slice A2 pay.length c2] 43))) ⟨pl, A2, c2, pay⟩ ⟨w2.heap.size + 1, 0, Option.none⟩ rfl (pair_at (w2.alloc (.cells #[.int .u64 pl, .slice A2 pay.length c2] 43)) (w2.heap.size + 1) (asz _ _) _ _ _).1 (pair_at (w2.alloc (.cells #[.int .u64 pl, .slice A2 pay.length c2] 43)) (w2.heap.size + 1) (asz _ _) _ _ _).2 (((hn2.own.alloc _).alloc _).mono HB.size) (apart_new hn2.own (fun k hk => (HL.vlt k hk).2)) (fun g hg => (apart_new hn2.own (fun k hk => ((HL.own g hg).at_base k hk).2)).symm) (by omega) (by rw [asz, asz]; have := HB.size; have := hn2.below.size; omega) fun v3 w3 hfl3 hg3 => ?_))
        go_roundw
        case rel =>
          have B2 := below_then HB hn2.below
          have B4 := belowA (belowA B2 (.cells #[.int .u64 pl, .slice A2 pay.length c2] 43)) (.cells #[.int .u64 pl, .slice A2 pay.length c2] 43)
          exact ⟨nx', f, fs ++ [⟨pl, A2, c2, pay⟩], hnl, rfl, hfl3, by have := HXL.out; omega, Lib.hid (by rw [HS.out]; simp [frOf, Nx.fr]), by have := HXL.out; simp; omega, B4.grown hg3 B4.size (fun k hk => (HL.vlt k hk).1)⟩
        case measure => have := HXL.out; simp [intOf]; omega
      · have hsc : scanTo (f + 1) P at_ = ([], (at_ : Int)) := by rw [scanTo]; rw [if_neg hk]
        have hkb : ((nextF P (at_ : Int)).kind : Int) != 1 := by rw [bne_iff_ne]; omega
        generalize nextF P (at_ : Int) = r at *
        have HC := Lib.hid hcall
        have HE : Hid (scanF P = (frOf fs, (at_ : Int))) := Lib.hid (by rw [HS.out, hsc, List.append_nil])
        clear hcall hsc hk
        go_wp2_with (first
          | (go_at_call 18; (with_reducible refine (HC.out _ (hp.new HB)).mono ?_); rintro e2 w2 ⟨A2, c2, rfl, hn2⟩))
        go_ret2
        rw [HE.out]
        have hl3 : (frOf fs).length = fs.length := by simp [frOf]
        simp only [hl3]
        exact ⟨A1, c1, fs, rfl, (HL.new hn2.below).new (below_alloc1 (Below.refl _ _) (Nat.le_refl _) _), rfl, belowA (below_then HB hn2.below) _⟩
end Go.Proofs.Ytlcbjjgmkllceaa
