/- The walks of layer 7: lay, Encode. -/
import Derived.Test.YtdpmalegpjimfabWireMore
import Derived.Test.YtdpmalegpjimfabCrcWalk
import Derived.Deep.RegionHeld3
namespace Go.Proofs.Ytdpmalegpjimfab.FrameMath
open WireMath (wideL byteAt)
/-- the bytes of the length and the place -/
def head (place : Nat) (p : List UInt8) : List UInt8 := wideL p.length 4 ++ wideL place 8
/-- the sum, as the program reckons it -/
def crcP (place : Nat) (p : List UInt8) : CrcMath.W := CrcMath.upd (CrcMath.sum ((head place p).map bW)) (p.map bW)
def laid (place : Nat) (p : List UInt8) : List UInt8 := [0xf5] ++ head place p ++ wideL (crcP place p).toNat 4 ++ p ++ [0x5f]
theorem head_length (place : Nat) (p : List UInt8) : (head place p).length = 12 := by simp [head, WireMath.wideL_length]
theorem laid_length (place : Nat) (p : List UInt8) : (laid place p).length = p.length + 18 := by simp [laid, head_length, WireMath.wideL_length]; omega
end Go.Proofs.Ytdpmalegpjimfab.FrameMath
namespace Go.Proofs.Ytdpmalegpjimfab
open Go.RowKit
open WireMath (wideL)
open FrameMath (head crcP laid)

theorem box_cell (w : World) (u v : Value) (o1 o2 : Obj) (t : TypeId) : (((w.alloc (.cells #[u, v] t)).alloc o1).alloc o2).cell? ⟨w.heap.size, 0, none⟩ = some u ∧ (((w.alloc (.cells #[u, v] t)).alloc o1).alloc o2).cell? ⟨w.heap.size, 1, none⟩ = some v := by
  have h0 : (w.alloc (.cells #[u, v] t)).heap.size = w.heap.size + 1 := Array.size_push ..
  have h1 := below_alloc1 (below_alloc1 (Below.refl (w.heap.size + 1) (w.alloc (.cells #[u, v] t))) (by omega) o1) (Nat.le_trans (Nat.le_of_eq h0.symm) (below_alloc1 (Below.refl 0 _) (Nat.zero_le _) o1).size) o2
  have e := heap_alloc_new w (.cells #[u, v] t)
  exact ⟨(h1.cell (p := ⟨w.heap.size, 0, none⟩) (Nat.lt_succ_self _)).trans (by rw [cell_of_row _ _ _ _ _ _ e]; rfl), (h1.cell (p := ⟨w.heap.size, 1, none⟩) (Nat.lt_succ_self _)).trans (by rw [cell_of_row _ _ _ _ _ _ e]; rfl)⟩

set_option maxRecDepth 100000 in
theorem lay_calls (place : Nat) (hpl : place ≤ 18446744073709551615) (A : Option Addr) (p : List UInt8) (n c : Nat) (w : World) (hp : RB w A c p) (hn : n = p.length) (hl : p.length ≤ 65535) :
    Calls Try.prog 54 #[.agg #[.int .u64 place, .slice A n c]] w fun e w' => ∃ A' c', e = .returned (.slice A' (n + 18) c') ∧ NewB w w' (.slice A' (n + 18) c') (laid place p) := by
  subst hn
  have HT0 := Lib.hid (Two.fresh (w.alloc (.cells #[.int .u64 place, .slice A p.length c] 33)) 53 (w.heap.size + 1) (Array.size_push ..))
  have hw0 : Hid (Below w.heap.size w (((w.alloc (.cells #[.int .u64 place, .slice A p.length c] 33)).alloc (.cells #[.slice none 0 0] 53)).alloc (.cells #[.slice none 0 0] 53))) := Lib.hid
    (below_alloc1 (below_alloc1 (below_alloc1 (Below.refl _ _) (Nat.le_refl _) _) (by simp <;> omega) _) (by simp <;> omega) _)
  have HC := Lib.hid (box_cell w (.int .u64 place) (.slice A p.length c) (.cells #[.slice none 0 0] 53) (.cells #[.slice none 0 0] 53) 33)
  have hc1 := HC.out.2
  have HH := Lib.hid (show wideL p.length 4 ++ wideL place 8 = head place p from rfl)
  have hhl := FrameMath.head_length place p
  have hL := FrameMath.laid_length place p
  have HL : Hid (laid place p = [0xf5] ++ head place p ++ wideL (crcP place p).toNat 4 ++ p ++ [0x5f]) := Lib.hid rfl
  have HCR : Hid (crcP place p = CrcMath.upd (CrcMath.sum ((head place p).map bW)) (p.map bW)) := Lib.hid rfl
  generalize head place p = hd at *
  generalize laid place p = ld at *
  generalize crcP place p = cr at *
  have H12 := Lib.hid hhl.symm
  have HLL := Lib.hid hL
  have hcr : cr.toNat ≤ 4294967295 := by have := cr.isLt; omega
  have H4 : Hid ((wideL p.length 4).length = 4) := Lib.hid (WireMath.wideL_length _ _)
  have H4c : Hid ((wideL cr.toNat 4).length = 4) := Lib.hid (WireMath.wideL_length _ _)
  have HUI : Hid (uI cr = ((cr.toNat : Nat) : Int)) := Lib.hid rfl
  have hf5 := Lib.hid (show (245 : Int) = ((245 : Nat) : Int) from rfl)
  have h5f := Lib.hid (show (95 : Int) = ((95 : Nat) : Int) from rfl)
  have E1 := Lib.hid (show [] ++ [UInt8.ofNat 245] = [(0xf5 : UInt8)] from rfl)
  have E5 : Hid ([0xf5] ++ hd ++ wideL cr.toNat 4 ++ p ++ [UInt8.ofNat 95] = ld) := Lib.hid (by rw [HL.out]; rfl)
  clear hhl hL
  go_enter Try.func54, Try.ntmps54
  go_wp2_with (first
    | (go_at_call 59; (with_reducible refine (u32N (w.heap.size + 1) (w.heap.size + 1) none [] (wideL p.length 4) p.length _ rfl (by simp) _ HT0.out.one (by omega) (by simp)).mono ?_); rintro e1 w1 ⟨row1, rfl, hw1, hs1⟩; have T1 := HT0.out.first hw1 hs1; have B1 := hs1.below HT0.out.one; have d1 := (B1.cell (p := ⟨w.heap.size, 0, none⟩) (Nat.lt_succ_self _)).trans HC.out.1)
    | (go_at_call 60; (with_reducible refine (u64N (w.heap.size + 1) (w.heap.size + 1) row1 (wideL p.length 4) hd place _ rfl HH.out _ T1.one hpl (by rw [H4.out]; decide)).mono ?_); rintro e2 w2 ⟨row2, rfl, hw2, hs2⟩; have T2 := T1.first hw2 hs2; have B2 := B1.trans (hs2.below T1.one))
    | (go_at_call 58; (with_reducible refine (u8N (w.heap.size + 1) (w.heap.size + 1 + 1) none [] [0xf5] 245 245 hf5.out E1.out _ T2.two (by decide) (by decide)).mono ?_); rintro e3 w3 ⟨row3, rfl, hw3, hs3⟩; have T3 := T2.second hw3 hs3; have B3 := B2.trans (hs3.below T2.two))
    | (go_at_call 27; (with_reducible refine (bytesN (w.heap.size + 1) (w.heap.size + 1) row2 hd 12 H12.out _ T3.one (by rw [← H12.out]; decide)).mono ?_); rintro e4 w4 ⟨A4, c4, rfl, hn4⟩; have T4 := T3.new hn4.below; have B4 := B3.trans (hn4.below.mono (Nat.le_of_lt T3.one.bLt)); have hb4 := hn4.own.rb)
    | (go_at_call 61; (with_reducible refine (rawN (w.heap.size + 1) (w.heap.size + 1 + 1) row3 [0xf5] A4 hd ([0xf5] ++ hd) 12 c4 rfl _ T4.two hb4 H12.out (by rw [← H12.out]; decide)).mono ?_); rintro e5 w5 ⟨row5, rfl, hw5, hs5⟩; have T5 := T4.second hw5 hs5; have B5 := B4.trans (hs5.below T4.two); have d5 := (B5.cell (p := ⟨w.heap.size, 1, none⟩) (Nat.lt_succ_self _)).trans HC.out.2))
  have T5d := Lib.hid (T5.new ((Below.refl _ _).drew))
  have B5d := Lib.hid (B5.drew)
  clear d1 d5
  have d5 := (B5.cell (p := ⟨w.heap.size, 1, none⟩) (Nat.lt_succ_self _)).trans HC.out.2
  go_region_held3 (fun w' => w'.cell? ⟨w.heap.size, 1, none⟩ = some (.slice A p.length c)) (go_keep) (first
    | (go_at_call 27; (with_reducible refine (bytesN (w.heap.size + 1) (w.heap.size + 1) row2 hd 12 H12.out _ T5d.out.one (by rw [← H12.out]; decide)).mono ?_); rintro e6 w6 ⟨A6, c6, rfl, hn6⟩; have T6 := T5d.out.new hn6.below; have B6 := B5d.out.trans (hn6.below.mono (Nat.le_of_lt T5d.out.one.bLt)); have hb6 := hn6.own.rb; have d6 := (B6.cell (p := ⟨w.heap.size, 1, none⟩) (Nat.lt_succ_self _)).trans HC.out.2)
    | (go_at_call 81; go_loud (with_reducible refine (sumR A6 hd 12 c6 _ hb6 H12.out _ rfl).mono ?_); rintro e7 w7 ⟨rfl, rfl⟩)
    | (go_at_call 80; go_loud (with_reducible refine (updateR _ A p p.length c _ (hp.new (hw0.out.trans (B6.mono (Nat.le_succ _)))) rfl cr HCR.out.symm).mono ?_); rintro e8 w8 ⟨rfl, rfl⟩)
    | (go_at_call 59; go_loud (with_reducible refine (u32N (w.heap.size + 1) (w.heap.size + 1 + 1) row5 ([0xf5] ++ hd) ([0xf5] ++ hd ++ wideL cr.toNat 4) cr.toNat _ HUI.out rfl _ T6.two hcr (by have := H12.out; simp; omega)).mono ?_); rintro e9 w9 ⟨row9, rfl, hw9, hs9⟩; have T9 := T6.second hw9 hs9; have B9 := B6.trans (hs9.below T6.two); have d9 := (B9.cell (p := ⟨w.heap.size, 1, none⟩) (Nat.lt_succ_self _)).trans HC.out.2))
  clear hs1 hs2 hs3 hw1 hw2 hw3 hw5 hs5 d5 d6 T1 T2 T3 T4 T5 hb4
  go_wp2_with (first
    | (go_at_call 61; (with_reducible refine (rawN (w.heap.size + 1) (w.heap.size + 1 + 1) row9 _ A p ([0xf5] ++ hd ++ wideL cr.toNat 4 ++ p) p.length c rfl _ T9.two (hp.new (hw0.out.trans (B9.mono (Nat.le_succ _)))) rfl (by have := H12.out; have := H4c.out; simp only [List.length_append, List.length_cons, List.length_nil]; omega)).mono ?_); rintro e10 w10 ⟨row10, rfl, hw10, hs10⟩; have T10 := T9.second hw10 hs10; have B10 := B9.trans (hs10.below T9.two))
    | (go_at_call 58; (with_reducible refine (u8N (w.heap.size + 1) (w.heap.size + 1 + 1) row10 _ ld 95 95 h5f.out E5.out _ T10.two (by decide) (by have := H12.out; have := H4c.out; simp only [List.length_append, List.length_cons, List.length_nil]; omega)).mono ?_); rintro e11 w11 ⟨row11, rfl, hw11, hs11⟩; have T11 := T10.second hw11 hs11; have B11 := B10.trans (hs11.below T10.two))
    | (go_at_call 27; (with_reducible refine (bytesN (w.heap.size + 1) (w.heap.size + 1 + 1) row11 ld (p.length + 18) HLL.out.symm _ T11.two (by have := HLL.out; omega)).mono ?_); rintro e12 w12 ⟨A12, c12, rfl, hn12⟩))
  go_ret
  have B := hw0.out.trans (B11.mono (Nat.le_succ _))
  have B11x := B.size
  exact ⟨A12, c12, rfl, hn12.own.mono B11x, below_then B hn12.below⟩
end Go.Proofs.Ytdpmalegpjimfab
