/- The reference of layer 7: Laid, DocEncode. -/
import Derived.Test.YtdpmalegpjimfaaRefWireWalk
import Derived.Test.YtdpmalegpjimfaaRefCrcWalk
import Derived.Test.YtdpmalegpjimfaaFrameLaws
import Derived.Deep.RegionHeld3
namespace Go.Proofs.Ytdpmalegpjimfaa
open Go.RowKit
open WireMath (wideL)
open FrameMath (head crcP laid)

set_option maxRecDepth 100000 in
theorem reflaid_calls (place : Nat) (V : Int) (hV : V = place) (hpl : place ≤ 18446744073709551615) (A : Option Addr) (p : List UInt8) (n c : Nat) (w : World) (hp : RB w A c p) (hn : n = p.length) (hl : p.length ≤ 65535) :
    Calls Try.prog 64 #[.int .u64 V, .slice A n c] w fun e w' => ∃ A' c', e = .returned (.slice A' (n + 18) c') ∧ NewB w w' (.slice A' (n + 18) c') (laid place p) := by
  subst hn; subst hV
  have h4 := Lib.hid (show (4 : Int) = ((4 : Nat) : Int) from rfl)
  have h8 := Lib.hid (show (8 : Int) = ((8 : Nat) : Int) from rfl)
  have hhl := FrameMath.head_length place p
  have HH := Lib.hid (show wideL p.length 4 ++ wideL place 8 = head place p from rfl)
  have hsum : CrcMath.sum ((head place p ++ p).map bW) = crcP place p := by
    rw [map_bW_append]
    unfold CrcMath.sum
    rw [CrcMath.upd_append]
    rfl
  have hld : laid place p = ([0xf5] ++ head place p) ++ (wideL (crcP place p).toNat 4 ++ (p ++ [0x5f])) := by simp [FrameMath.laid]
  generalize head place p = hd at *
  generalize crcP place p = cr at *
  generalize laid place p = ld at *
  have HU : Hid (uI cr = ((cr.toNat : Nat) : Int)) := Lib.hid rfl
  have hcr : cr.toNat ≤ 18446744073709551615 := by have := cr.isLt; omega
  have hwr : IntKind.u64.wrap (uI cr) = uI cr := IntWalk.u64_in _ (by unfold uI; omega)
  have HW4 := Lib.hid (WireMath.wideL_length p.length 4)
  have HW8 := Lib.hid (WireMath.wideL_length place 8)
  have HWC := Lib.hid (WireMath.wideL_length cr.toNat 4)
  have HHL := Lib.hid hhl
  have HS := Lib.hid hsum
  have HLD := Lib.hid hld
  clear hhl hsum hld
  go_enter Try.func64, Try.ntmps64
  go_wp2_with (first
    | (go_at_call 60; (with_reducible refine (refwide_calls p.length 4 _ 4 rfl h4.out _ (by omega) (by omega)).mono ?_); rintro e1 w1 ⟨A1, c1, rfl, hn1⟩)
    | (go_at_call 60; (with_reducible refine (refwide_calls place 8 _ 8 rfl h8.out _ (by omega) (by omega)).mono ?_); rintro e2 w2 ⟨A2, c2, rfl, hn2⟩)
    | (go_at_call 19; (with_reducible refine (joinN A1 A2 (wideL p.length 4) (wideL place 8) hd 4 8 12 c1 c2 _ (hn1.own.rb.new hn2.below) hn2.own.rb HW4.out.symm HW8.out.symm (by rw [HW4.out, HW8.out]) HH.out (by rw [HW4.out, HW8.out]; decide)).mono ?_); rintro e3 w3 ⟨A3, c3, rfl, hn3⟩; have B3 := Lib.hid (below_then (below_then hn1.below hn2.below) hn3.below))
    | (go_at_call 19; (with_reducible refine (joinN A3 A hd p (hd ++ p) 12 p.length (12 + p.length) c3 c _ hn3.own.rb (hp.new B3.out) HHL.out.symm rfl (by rw [HHL.out]) rfl (by rw [HHL.out]; omega)).mono ?_); rintro e4 w4 ⟨A4, c4, rfl, hn4⟩)
    | (go_at_call 87; (with_reducible refine (refsumR A4 (hd ++ p) (12 + p.length) c4 _ hn4.own.rb (by rw [List.length_append, HHL.out]) cr HS.out).mono ?_); rintro e5 w5 ⟨rfl, rfl⟩)
    | (go_at_call 60; (with_reducible refine (refwide_calls cr.toNat 4 (uI cr) 4 HU.out h4.out _ hcr (by omega)).mono ?_); rintro e6 w6 ⟨A6, c6, rfl, hn6⟩; have B46 := Lib.hid (below_then hn4.below hn6.below))
    | (go_at_call 19; (with_reducible refine (joinN _ A3 [0xf5] hd ([0xf5] ++ hd) 1 12 13 1 c3 (w6.alloc (.cells #[.int .u8 245] 5)) (RB.litAt w6 5 #[.int .u8 245] [0xf5] rfl 1 (by decide) (by decide) w6.heap.size rfl) (hn3.own.rb.new (B46.out.alloc B46.out.size _)) (by decide) HHL.out.symm (by rw [HHL.out]; decide) rfl (by rw [HHL.out]; decide)).mono ?_); rintro e7 w7 ⟨A7, c7, rfl, hn7⟩; have B7 := Lib.hid (below_then ((below_then B3.out B46.out).alloc (below_then B3.out B46.out).size _) hn7.below))
    | (go_at_call 19; (with_reducible refine (joinN A _ p [0x5f] (p ++ [0x5f]) p.length 1 (p.length + 1) c 1 (w7.alloc (.cells #[.int .u8 95] 5)) (hp.new (B7.out.alloc B7.out.size _)) (RB.litAt w7 5 #[.int .u8 95] [0x5f] rfl 1 (by decide) (by decide) w7.heap.size rfl) rfl (by decide) (by simp) rfl (by simp; omega)).mono ?_); rintro e8 w8 ⟨A8, c8, rfl, hn8⟩)
    | (go_at_call 19; (with_reducible refine (joinN A6 A8 (wideL cr.toNat 4) (p ++ [0x5f]) (wideL cr.toNat 4 ++ (p ++ [0x5f])) 4 (p.length + 1) (4 + (p.length + 1)) c6 c8 _ (hn6.own.rb.new (below_then ((below_then ((Below.refl w6.heap.size w6).alloc (Nat.le_refl _) _) hn7.below).alloc (below_then ((Below.refl w6.heap.size w6).alloc (Nat.le_refl _) _) hn7.below).size _) hn8.below)) hn8.own.rb HWC.out.symm (by simp) (by rw [HWC.out]; simp) rfl (by rw [HWC.out]; simp; omega)).mono ?_); rintro e9 w9 ⟨A9, c9, rfl, hn9⟩)
    | (go_at_call 19; (with_reducible refine (joinN A7 A9 ([0xf5] ++ hd) (wideL cr.toNat 4 ++ (p ++ [0x5f])) ld 13 (4 + (p.length + 1)) (p.length + 18) c7 c9 _ (hn7.own.rb.new (below_then (below_then ((Below.refl w7.heap.size w7).alloc (Nat.le_refl _) _) hn8.below) hn9.below)) hn9.own.rb (by rw [List.length_append, HHL.out]; decide) (by rw [List.length_append, HWC.out]; simp) (by rw [List.length_append, HHL.out, List.length_append, HWC.out]; simp; omega) HLD.out.symm (by rw [List.length_append, HHL.out, List.length_append, HWC.out]; simp; omega)).mono ?_); rintro e10 w10 ⟨A10, c10, rfl, hn10⟩))
  go_ret
  have B9 := below_then (below_then (B7.out.alloc B7.out.size (.cells #[.int .u8 95] 5)) hn8.below) hn9.below
  exact ⟨A10, c10, rfl, hn10.own.mono B9.size, below_then B9 hn10.below⟩

set_option maxRecDepth 100000 in
theorem docEncode_calls (place : Nat) (hpl : place ≤ 18446744073709551615) (A : Option Addr) (p : List UInt8) (n c : Nat) (w : World) (hp : RB w A c p) (hn : n = p.length) (hl : p.length ≤ 140737488355328) :
    Calls Try.prog 29 #[.int .u64 place, .slice A n c] w fun e w' => ∃ A' c', e = .returned (.tuple #[.slice A' (encF place p).1.length c', .int .i64 (encF place p).2]) ∧ NewB w w' (.slice A' (encF place p).1.length c') (encF place p).1 := by
  subst hn
  by_cases h1 : 65535 < p.length
  · have hE : encF place p = ([], 2) := by unfold encF; rw [if_pos h1]
    rw [hE]
    clear hE
    go_enter Try.func29, Try.ntmps29
    go_wp2
    go_ret2
    exact ⟨none, 0, rfl, OB.nil _ _ _, Below.refl _ _⟩
  · by_cases h2 : p.length = 0
    · have hE : encF place p = ([], 3) := by unfold encF; rw [if_neg h1, if_pos h2]
      rw [hE]
      have h2' : ((p.length : Int) == 0) = true := by rw [h2]; rfl
      clear hE h2
      go_enter Try.func29, Try.ntmps29
      go_wp2
      go_ret2
      exact ⟨none, 0, rfl, OB.nil _ _ _, Below.refl _ _⟩
    · have hE : encF place p = (laid place p, 0) := by unfold encF; rw [if_neg h1, if_neg h2]
      rw [hE]
      have h2' : ((p.length : Int) == 0) = false := by rw [beq_eq_false_iff_ne]; omega
      have HL := Lib.hid (FrameMath.laid_length place p)
      clear hE h2
      go_enter Try.func29, Try.ntmps29
      go_wp2_with (go_at_call 64; (with_reducible refine (reflaid_calls place _ rfl hpl A p p.length c _ hp rfl (by omega)).mono ?_); rintro e w2 ⟨A2, c2, rfl, hn2⟩)
      go_ret2
      refine ⟨A2, c2, by rw [HL.out]; rfl, ?_⟩
      have ho := hn2.own
      rw [← HL.out] at ho
      exact ⟨ho, hn2.below⟩
end Go.Proofs.Ytdpmalegpjimfaa
