import Derived.Test.YtlcbjjgmkllceaaQBa
import Derived.Deep.LoopGhost
import Derived.Deep.DeepCutAuto
import Derived.Deep.RegionHeld3
import Derived.Laws.BytesArg
import Derived.Laws.BytesString
import Derived.WideShapes
import Derived.Deep.MidRow
import Derived.Test.YtlcbjjgmkllceaaQBd
import Derived.Test.YtlcbjjgmkllceaaQBb
/- The walks of the check sum's functions: each call comes to what the plain functions of CrcMath say. -/
namespace Go.Proofs.Ytlcbjjgmkllceaa
open Go.RowKit
open CrcMath (W)
attribute [local go_sem] uI_not bits_xor_uI bits_xor_byte

theorem turn_calls (x : W) (w : World) :
    Calls Try.prog 86 #[.int .u32 (uI x)] w fun e w' => e = .returned (.int .u32 (uI (CrcMath.turn x))) ∧ w = w' := by
  have hr := uI_range x
  have h1 := bits_and_one x
  have h2 : bits .xor .u32 (uI x / 2) 2197175160 = uI (x >>> 1 ^^^ 2197175160#32) := by rw [uI_half]; exact bits_xor_lit (x >>> 1) 2197175160
  unfold CrcMath.turn
  cases hb : x.getLsbD 0
  · rw [hb, if_neg (by decide)] at h1
    rw [if_neg (by decide)]
    clear h2 hb
    go_enter Try.func86, Try.ntmps86
    go_wp2
    go_ret
    exact ⟨ret_int (uI_half x), rfl⟩
  · rw [hb, if_pos rfl] at h1
    rw [if_pos rfl]
    clear hb
    go_enter Try.func86, Try.ntmps86
    go_wp2
    go_ret
    exact ⟨rfl, rfl⟩

theorem step_calls (x : W) (w : World) :
    Calls Try.prog 83 #[.int .u32 (uI x)] w fun e w' => e = .returned (.int .u32 (uI (CrcMath.Z x))) ∧ w = w' := by
  unfold CrcMath.Z
  go_enter Try.func83, Try.ntmps83
  go_wp2
  go_loop [0, 3] (fun c i => ∃ k : Nat, k ≤ 8 ∧ i = .int .i64 k ∧ c = .int .u32 (uI (CrcMath.it CrcMath.turn k x))) (fun _ i => 8 - (intOf i).toNat)
  case atStart => exact ⟨0, by omega, rfl, rfl⟩
  case round =>
    obtain ⟨k, hk, rfl, rfl⟩ := hrel
    by_cases hlt : k < 8
    · go_wp2_with (go_at_call 86; (with_reducible refine (turn_calls _ _).mono ?_); rintro e w' ⟨rfl, rfl⟩)
      go_round
      case rel => exact ⟨k + 1, by omega, by go_num, rfl⟩
      case measure => simp [intOf]; omega
    · obtain rfl : k = 8 := by omega
      go_wp2
      go_ret
      exact ⟨rfl, rfl⟩

theorem take_snoc {α : Type} (p : List α) (k : Nat) (h : k < p.length) : p.take (k + 1) = p.take k ++ [p[k]] := List.take_succ_eq_append_getElem h

theorem update_calls (c : W) (A : Option Addr) (p : List UInt8) (cap : Nat) (w : World) (hp : RB w A cap p) :
    Calls Try.prog 78 #[.int .u32 (uI c), .slice A p.length cap] w fun e w' => e = .returned (.int .u32 (uI (CrcMath.upd c (p.map bW)))) ∧ w = w' := by
  have hl := hp.small
  unfold CrcMath.upd
  go_enter Try.func78, Try.ntmps78
  go_wp2
  go_loop [0, 11] (fun c' i => ∃ k : Nat, k ≤ p.length ∧ i = .int .i64 k ∧ c' = .int .u32 (uI (CrcMath.reg (~~~ c) ((p.map bW).take k)))) (fun _ i => p.length - (intOf i).toNat)
  case atStart => exact ⟨0, by omega, rfl, rfl⟩
  case round =>
    obtain ⟨k, hk, rfl, rfl⟩ := hrel
    by_cases hlt : k < p.length
    · obtain ⟨a, rfl, hc⟩ := hp.at_ k hlt
      have hs : CrcMath.reg (~~~ c) ((p.map bW).take (k + 1)) = CrcMath.Z (CrcMath.reg (~~~ c) ((p.map bW).take k) ^^^ bW p[k]) := by
        rw [take_snoc (p.map bW) k (by simpa using hlt), CrcMath.reg_append, List.getElem_map]; rfl
      have HS := Lib.hid hs
      clear hs hp
      have hr := uB_range p[k]
      go_wp2_with (go_at_call 83; (with_reducible refine (step_calls _ _).mono ?_); rintro e w' ⟨rfl, rfl⟩)
      go_round
      case rel => exact ⟨k + 1, by omega, by go_num, by rw [HS.out]⟩
      case measure => simp [intOf]; omega
    · obtain rfl : k = p.length := by omega
      go_wp2
      go_ret
      exact ⟨ret_int (by rw [List.take_of_length_le (by simp)]), rfl⟩

theorem sum_calls (A : Option Addr) (p : List UInt8) (cap : Nat) (w : World) (hp : RB w A cap p) :
    Calls Try.prog 79 #[.slice A p.length cap] w fun e w' => e = .returned (.int .u32 (uI (CrcMath.sum (p.map bW)))) ∧ w = w' := by
  have h := update_calls 0 A p cap w hp
  rw [show uI 0 = 0 from rfl] at h
  have H := Lib.hid h
  clear h
  go_enter Try.func79, Try.ntmps79
  go_wp2_with (go_at_call 78; (with_reducible refine (H.out).mono ?_); rintro e w' ⟨rfl, rfl⟩)
  go_ret
  exact ⟨rfl, rfl⟩


/-! ### The same, with the length and the answer spelled as a caller has them -/
theorem updateR (c : W) (A : Option Addr) (p : List UInt8) (n cap : Nat) (w : World) (hp : RB w A cap p) (hn : n = p.length) (r : W) (hr : CrcMath.upd c (p.map bW) = r) :
    Calls Try.prog 78 #[.int .u32 (uI c), .slice A n cap] w fun e w' => e = .returned (.int .u32 (uI r)) ∧ w = w' := by
  subst hn; subst hr; exact update_calls c A p cap w hp
theorem sumR (A : Option Addr) (p : List UInt8) (n cap : Nat) (w : World) (hp : RB w A cap p) (hn : n = p.length) (r : W) (hr : CrcMath.sum (p.map bW) = r) :
    Calls Try.prog 79 #[.slice A n cap] w fun e w' => e = .returned (.int .u32 (uI r)) ∧ w = w' := by
  subst hn; subst hr; exact sum_calls A p cap w hp
theorem map_bW_append (p q : List UInt8) : (p ++ q).map bW = p.map bW ++ q.map bW := List.map_append
end Go.Proofs.Ytlcbjjgmkllceaa

/- The walks of layer 7: lay, Encode. -/
namespace Go.Proofs.Ytlcbjjgmkllceaa.FrameMath
open WireMath (wideL byteAt)
/-- the bytes of the length and the place -/
def head (place : Nat) (p : List UInt8) : List UInt8 := wideL p.length 4 ++ wideL place 8
/-- the sum, as the program reckons it -/
def crcP (place : Nat) (p : List UInt8) : CrcMath.W := CrcMath.upd (CrcMath.sum ((head place p).map bW)) (p.map bW)
def laid (place : Nat) (p : List UInt8) : List UInt8 := [0xf5] ++ head place p ++ wideL (crcP place p).toNat 4 ++ p ++ [0x5f]
theorem head_length (place : Nat) (p : List UInt8) : (head place p).length = 12 := by simp [head, WireMath.wideL_length]
theorem laid_length (place : Nat) (p : List UInt8) : (laid place p).length = p.length + 18 := by simp [laid, head_length, WireMath.wideL_length]; omega
end Go.Proofs.Ytlcbjjgmkllceaa.FrameMath
namespace Go.Proofs.Ytlcbjjgmkllceaa
open Go.RowKit
open WireMath (wideL)
open FrameMath (head crcP laid)

theorem box_cell (w : World) (u v : Value) (o1 o2 : Obj) (t : TypeId) : (((w.alloc (.cells #[u, v] t)).alloc o1).alloc o2).cell? ⟨w.heap.size, 0, none⟩ = some u ∧ (((w.alloc (.cells #[u, v] t)).alloc o1).alloc o2).cell? ⟨w.heap.size, 1, none⟩ = some v := by
  have h0 : (w.alloc (.cells #[u, v] t)).heap.size = w.heap.size + 1 := Array.size_push ..
  have h1 := below_alloc1 (below_alloc1 (Below.refl (w.heap.size + 1) (w.alloc (.cells #[u, v] t))) (by omega) o1) (Nat.le_trans (Nat.le_of_eq h0.symm) (below_alloc1 (Below.refl 0 _) (Nat.zero_le _) o1).size) o2
  have e := heap_alloc_new w (.cells #[u, v] t)
  exact ⟨(h1.cell (p := ⟨w.heap.size, 0, none⟩) (Nat.lt_succ_self _)).trans (by rw [cell_of_row _ _ _ _ _ _ e]; rfl), (h1.cell (p := ⟨w.heap.size, 1, none⟩) (Nat.lt_succ_self _)).trans (by rw [cell_of_row _ _ _ _ _ _ e]; rfl)⟩

set_option maxRecDepth 100000 in
theorem lay_calls (place : Nat) (hpl : place ≤ 18446744073709551615) (A : Option Addr) (p : List UInt8) (n c : Nat) (w : World) (hp : RB w A c p) (hn : n = p.length) (hl : p.length ≤ 65535) :
    Calls Try.prog 52 #[.agg #[.int .u64 place, .slice A n c]] w fun e w' => ∃ A' c', e = .returned (.slice A' (n + 18) c') ∧ NewB w w' (.slice A' (n + 18) c') (laid place p) := by
  subst hn
  have HT0 := Lib.hid (Two.fresh (w.alloc (.cells #[.int .u64 place, .slice A p.length c] 43)) 67 (w.heap.size + 1) (Array.size_push ..))
  have hw0 : Hid (Below w.heap.size w (((w.alloc (.cells #[.int .u64 place, .slice A p.length c] 43)).alloc (.cells #[.slice none 0 0] 67)).alloc (.cells #[.slice none 0 0] 67))) := Lib.hid
    (below_alloc1 (below_alloc1 (below_alloc1 (Below.refl _ _) (Nat.le_refl _) _) (by simp <;> omega) _) (by simp <;> omega) _)
  have HC := Lib.hid (box_cell w (.int .u64 place) (.slice A p.length c) (.cells #[.slice none 0 0] 67) (.cells #[.slice none 0 0] 67) 43)
  have hc1 := HC.out.2
  have HH := Lib.hid (show wideL p.length 4 ++ wideL place 8 = head place p from rfl)
  have hhl := FrameMath.head_length place p
  have hL := FrameMath.laid_length place p
  have HL : Hid (laid place p = [0xf5] ++ head place p ++ wideL (crcP place p).toNat 4 ++ p ++ [0x5f]) := Lib.hid rfl
  have HCR : Hid (crcP place p = CrcMath.upd (CrcMath.sum ((head place p).map bW)) (p.map bW)) := Lib.hid rfl
  generalize head place p = hd at *
  generalize laid place p = ld at *
  generalize crcP place p = cr at *
  have H12 := Lib.hid hhl.symm
  have HLL := Lib.hid hL
  have hcr : cr.toNat ≤ 4294967295 := by have := cr.isLt; omega
  have H4 : Hid ((wideL p.length 4).length = 4) := Lib.hid (WireMath.wideL_length _ _)
  have H4c : Hid ((wideL cr.toNat 4).length = 4) := Lib.hid (WireMath.wideL_length _ _)
  have HUI : Hid (uI cr = ((cr.toNat : Nat) : Int)) := Lib.hid rfl
  have hf5 := Lib.hid (show (245 : Int) = ((245 : Nat) : Int) from rfl)
  have h5f := Lib.hid (show (95 : Int) = ((95 : Nat) : Int) from rfl)
  have E1 := Lib.hid (show [] ++ [UInt8.ofNat 245] = [(0xf5 : UInt8)] from rfl)
  have E5 : Hid ([0xf5] ++ hd ++ wideL cr.toNat 4 ++ p ++ [UInt8.ofNat 95] = ld) := Lib.hid (by rw [HL.out]; rfl)
  clear hhl hL
  go_enter Try.func52, Try.ntmps52
  go_wp2_with (first
    | (go_at_call 68; (with_reducible refine (u32N (w.heap.size + 1) (w.heap.size + 1) none [] (wideL p.length 4) p.length _ rfl (by simp) _ HT0.out.one (by omega) (by simp)).mono ?_); rintro e1 w1 ⟨row1, rfl, hw1, hs1⟩; have T1 := HT0.out.first hw1 hs1; have B1 := hs1.below HT0.out.one; have d1 := (B1.cell (p := ⟨w.heap.size, 0, none⟩) (Nat.lt_succ_self _)).trans HC.out.1)
    | (go_at_call 69; (with_reducible refine (u64N (w.heap.size + 1) (w.heap.size + 1) row1 (wideL p.length 4) hd place _ rfl HH.out _ T1.one hpl (by rw [H4.out]; decide)).mono ?_); rintro e2 w2 ⟨row2, rfl, hw2, hs2⟩; have T2 := T1.first hw2 hs2; have B2 := B1.trans (hs2.below T1.one))
    | (go_at_call 67; (with_reducible refine (u8N (w.heap.size + 1) (w.heap.size + 1 + 1) none [] [0xf5] 245 245 hf5.out E1.out _ T2.two (by decide) (by decide)).mono ?_); rintro e3 w3 ⟨row3, rfl, hw3, hs3⟩; have T3 := T2.second hw3 hs3; have B3 := B2.trans (hs3.below T2.two))
    | (go_at_call 33; (with_reducible refine (bytesN (w.heap.size + 1) (w.heap.size + 1) row2 hd 12 H12.out _ T3.one (by rw [← H12.out]; decide)).mono ?_); rintro e4 w4 ⟨A4, c4, rfl, hn4⟩; have T4 := T3.new hn4.below; have B4 := B3.trans (hn4.below.mono (Nat.le_of_lt T3.one.bLt)); have hb4 := hn4.own.rb)
    | (go_at_call 70; (with_reducible refine (rawN (w.heap.size + 1) (w.heap.size + 1 + 1) row3 [0xf5] A4 hd ([0xf5] ++ hd) 12 c4 rfl _ T4.two hb4 H12.out (by rw [← H12.out]; decide)).mono ?_); rintro e5 w5 ⟨row5, rfl, hw5, hs5⟩; have T5 := T4.second hw5 hs5; have B5 := B4.trans (hs5.below T4.two); have d5 := (B5.cell (p := ⟨w.heap.size, 1, none⟩) (Nat.lt_succ_self _)).trans HC.out.2))
  have T5d := Lib.hid (T5.new ((Below.refl _ _).drew))
  have B5d := Lib.hid (B5.drew)
  clear d1 d5
  have d5 := (B5.cell (p := ⟨w.heap.size, 1, none⟩) (Nat.lt_succ_self _)).trans HC.out.2
  go_region_held3 (fun w' => w'.cell? ⟨w.heap.size, 1, none⟩ = some (.slice A p.length c)) (go_keep) (first
    | (go_at_call 33; (with_reducible refine (bytesN (w.heap.size + 1) (w.heap.size + 1) row2 hd 12 H12.out _ T5d.out.one (by rw [← H12.out]; decide)).mono ?_); rintro e6 w6 ⟨A6, c6, rfl, hn6⟩; have T6 := T5d.out.new hn6.below; have B6 := B5d.out.trans (hn6.below.mono (Nat.le_of_lt T5d.out.one.bLt)); have hb6 := hn6.own.rb; have d6 := (B6.cell (p := ⟨w.heap.size, 1, none⟩) (Nat.lt_succ_self _)).trans HC.out.2)
    | (go_at_call 79; go_loud (with_reducible refine (sumR A6 hd 12 c6 _ hb6 H12.out _ rfl).mono ?_); rintro e7 w7 ⟨rfl, rfl⟩)
    | (go_at_call 78; go_loud (with_reducible refine (updateR _ A p p.length c _ (hp.new (hw0.out.trans (B6.mono (Nat.le_succ _)))) rfl cr HCR.out.symm).mono ?_); rintro e8 w8 ⟨rfl, rfl⟩)
    | (go_at_call 68; go_loud (with_reducible refine (u32N (w.heap.size + 1) (w.heap.size + 1 + 1) row5 ([0xf5] ++ hd) ([0xf5] ++ hd ++ wideL cr.toNat 4) cr.toNat _ HUI.out rfl _ T6.two hcr (by have := H12.out; simp; omega)).mono ?_); rintro e9 w9 ⟨row9, rfl, hw9, hs9⟩; have T9 := T6.second hw9 hs9; have B9 := B6.trans (hs9.below T6.two); have d9 := (B9.cell (p := ⟨w.heap.size, 1, none⟩) (Nat.lt_succ_self _)).trans HC.out.2))
  clear hs1 hs2 hs3 hw1 hw2 hw3 hw5 hs5 d5 d6 T1 T2 T3 T4 T5 hb4
  go_wp2_with (first
    | (go_at_call 70; (with_reducible refine (rawN (w.heap.size + 1) (w.heap.size + 1 + 1) row9 _ A p ([0xf5] ++ hd ++ wideL cr.toNat 4 ++ p) p.length c rfl _ T9.two (hp.new (hw0.out.trans (B9.mono (Nat.le_succ _)))) rfl (by have := H12.out; have := H4c.out; simp only [List.length_append, List.length_cons, List.length_nil]; omega)).mono ?_); rintro e10 w10 ⟨row10, rfl, hw10, hs10⟩; have T10 := T9.second hw10 hs10; have B10 := B9.trans (hs10.below T9.two))
    | (go_at_call 67; (with_reducible refine (u8N (w.heap.size + 1) (w.heap.size + 1 + 1) row10 _ ld 95 95 h5f.out E5.out _ T10.two (by decide) (by have := H12.out; have := H4c.out; simp only [List.length_append, List.length_cons, List.length_nil]; omega)).mono ?_); rintro e11 w11 ⟨row11, rfl, hw11, hs11⟩; have T11 := T10.second hw11 hs11; have B11 := B10.trans (hs11.below T10.two))
    | (go_at_call 33; (with_reducible refine (bytesN (w.heap.size + 1) (w.heap.size + 1 + 1) row11 ld (p.length + 18) HLL.out.symm _ T11.two (by have := HLL.out; omega)).mono ?_); rintro e12 w12 ⟨A12, c12, rfl, hn12⟩))
  go_ret
  have B := hw0.out.trans (B11.mono (Nat.le_succ _))
  have B11x := B.size
  exact ⟨A12, c12, rfl, hn12.own.mono B11x, below_then B hn12.below⟩
end Go.Proofs.Ytlcbjjgmkllceaa

/- The walks of layer 7: Encode, Next. -/
namespace Go.Proofs.Ytlcbjjgmkllceaa
open Go.RowKit
open WireMath (wideL)
open FrameMath (head crcP laid)

/-- the string of so many bytes -/
def strOf (p : List UInt8) : ByteArray := ⟨p.toArray⟩
theorem strOf_beq (p q : List UInt8) : ((strOf p).toList == (strOf q).toList) = (p == q) := by
  rw [ByteArray.toList_eq, ByteArray.toList_eq]; rfl
theorem run_str (w : World) (A : Option Addr) (n c : Nat) (p : List UInt8) (hp : RB w A c p) (hn : n = p.length) : (convert 23 9 (.slice A n c)).run Try.prog w = .ok (.string (strOf p)) w := by
  subst hn
  cases A with
  | none =>
    obtain ⟨rfl, rfl⟩ := hp.nil rfl
    exact run_convert_bytes_nil w 23 5 Try.underlying23 Try.underlying5 0 0 9 Try.underlying9
  | some a =>
    have hl : (loadCells a p.length).run Try.prog w = .ok ((p.map uB).map (Value.int .u8)).toArray w := by
      have := run_loadCells_list (P := Try.prog) w a (encB p) (fun j v hj => by
        have hjl : j < p.length := by
          rcases Nat.lt_or_ge j p.length with h | h
          · exact h
          · simp [List.getElem?_eq_none (show (encB p).length ≤ j by rw [encB_length]; exact h)] at hj
        obtain ⟨a', e, hc⟩ := hp.at_ j hjl
        obtain rfl := Option.some.inj e
        rw [hc]
        simp [encB, hjl] at hj
        rw [← hj])
      rw [encB_length] at this
      rw [this, List.map_map]
      rfl
    rw [run_convert_bytes_string w 23 9 5 _ p.length c Try.underlying23 Try.underlying5 Try.underlying9, run_bytesToString w _ p.length c (p.map uB) hl, foldl_push_bytes]
    congr 2
    apply ByteArray.ext
    apply Array.toList_inj.1
    have hid : (fun n : Int => UInt8.ofNat n.toNat) ∘ uB = id := by
      funext b
      simp [uB]
    simp [strOf, ByteArray.empty, ByteArray.emptyWithCapacity, hid]
    rfl

set_option maxRecDepth 100000 in
theorem bclone_calls (A : Option Addr) (p : List UInt8) (n cap : Nat) (w : World) (hp : RB w A cap p) (hn : n = p.length) (hl : p.length ≤ 140737488355328) :
    Calls Try.prog 50 #[.slice A n cap] w fun e w' => ∃ A' c', e = .returned (.slice A' n c') ∧ NewB w w' (.slice A' n c') p := by
  subst hn
  have hnil := eql_nil
  cases A with
  | none =>
    obtain ⟨rfl, rfl⟩ := hp.nil rfl
    go_enter Try.func50, Try.ntmps50
    go_wp2
    go_ret
    exact ⟨_, _, rfl, OB.nil _ _ _, Below.refl _ _⟩
  | some a =>
    go_enter Try.func50, Try.ntmps50
    go_wp2_with (refine wp_appendB_at bt rfl (.tmp 5) (.tmp 6) rfl w.heap.size (.slice (some ⟨w.heap.size, 0, Option.none⟩) 0 0) [] rfl (OB.empty w w.heap.size 5 (Nat.le_refl _)) (some a) p p.length cap rfl rfl (hp.new ((Below.refl _ _).alloc (Nat.le_refl _) _)) (by simpa using hl) (by simp) p rfl fun A3 c3 w2 ho2 hg2 _ => ?_)
    go_ret
    exact ⟨_, _, rfl, ho2, ((Below.refl _ _).alloc (Nat.le_refl _) _).grown hg2 (by simp) (fun k e => by have e2 : some w.heap.size = some k := e; have := Option.some.inj e2; omega)⟩
set_option maxRecDepth 100000 in
theorem bequal_calls (A B : Option Addr) (p q : List UInt8) (n m c d : Nat) (w : World) (hp : RB w A c p) (hq : RB w B d q) (hn : n = p.length) (hm : m = q.length) (b : Bool) (hb : (p == q) = b) :
    Calls Try.prog 51 #[.slice A n c, .slice B m d] w fun e w' => e = .returned (.bool b) ∧ w = w' := by
  have h1 := run_str w A n c p hp hn
  have h2 := run_str w B m d q hq hm
  have hs := Lib.hid ((strOf_beq p q).trans hb)
  clear hb hn hm
  generalize strOf p = x at *
  generalize strOf q = y at *
  go_enter Try.func51, Try.ntmps51
  go_wp2
  go_ret
  exact ⟨ret_bool hs.out, rfl⟩

/-- what Encode answers -/
def encF (place : Nat) (p : List UInt8) : List UInt8 × Nat := if 65535 < p.length then ([], 2) else if p.length = 0 then ([], 3) else (laid place p, 0)

set_option maxRecDepth 100000 in
theorem encode_calls (place : Nat) (hpl : place ≤ 18446744073709551615) (A : Option Addr) (p : List UInt8) (n c : Nat) (w : World) (hp : RB w A c p) (hn : n = p.length) (hl : p.length ≤ 140737488355328) :
    Calls Try.prog 22 #[.agg #[.int .u64 place, .slice A n c]] w fun e w' => ∃ A' c', e = .returned (.tuple #[.slice A' (encF place p).1.length c', .int .i64 (encF place p).2]) ∧ NewB w w' (.slice A' (encF place p).1.length c') (encF place p).1 := by
  subst hn
  have hb : ∀ u v, (w.alloc (.cells #[u, v] 43)).cell? ⟨w.heap.size, 0, none⟩ = some u ∧ (w.alloc (.cells #[u, v] 43)).cell? ⟨w.heap.size, 1, none⟩ = some v := fun u v => by
    have e := heap_alloc_new w (.cells #[u, v] 43)
    exact ⟨by rw [cell_of_row _ _ _ _ _ _ e]; rfl, by rw [cell_of_row _ _ _ _ _ _ e]; rfl⟩
  have hb1 := (hb (.int .u64 place) (.slice A p.length c)).2
  have HA := Lib.hid (below_alloc1 (Below.refl w.heap.size w) (Nat.le_refl _) (.cells #[.int .u64 place, .slice A p.length c] 43))
  by_cases h1 : 65535 < p.length
  · have hE : encF place p = ([], 2) := by unfold encF; rw [if_pos h1]
    rw [hE]
    clear hE
    go_enter Try.func22, Try.ntmps22
    go_wp2
    go_ret2
    exact ⟨none, 0, rfl, OB.nil _ _ _, HA.out⟩
  · by_cases h2 : p.length = 0
    · have hE : encF place p = ([], 3) := by unfold encF; rw [if_neg h1, if_pos h2]
      rw [hE]
      have h2' : ((p.length : Int) == 0) = true := by rw [h2]; rfl
      clear hE h2
      go_enter Try.func22, Try.ntmps22
      go_wp2
      go_ret2
      exact ⟨none, 0, rfl, OB.nil _ _ _, HA.out⟩
    · have hE : encF place p = (laid place p, 0) := by unfold encF; rw [if_neg h1, if_neg h2]
      rw [hE]
      have h2' : ((p.length : Int) == 0) = false := by rw [beq_eq_false_iff_ne]; omega
      have hL := FrameMath.laid_length place p
      clear hE h2
      have HL := Lib.hid hL
      clear hL
      go_enter Try.func22, Try.ntmps22
      go_wp2_with (go_at_call 52; (with_reducible refine (lay_calls place hpl A p p.length c _ (hp.new HA.out) rfl (by omega)).mono ?_); rintro e w2 ⟨A2, c2, rfl, hn2⟩)
      go_ret2
      refine ⟨A2, c2, by rw [HL.out]; rfl, ?_⟩
      have ho := hn2.own.mono HA.out.size
      rw [← HL.out] at ho
      exact ⟨ho, below_then HA.out hn2.below⟩
end Go.Proofs.Ytlcbjjgmkllceaa

/- The walk of layer 7: Next. -/
namespace Go.Proofs.Ytlcbjjgmkllceaa
open Go.RowKit
open WireMath (wideL numS beN)
open FrameMath (head crcP laid)

/-- what Next answers: what stands there, its place, its payload; where the next begins -/
structure Nx where
  kind : Nat
  place : Nat
  payload : List UInt8
  next : Int
def noNx (kind : Nat) (at_ : Int) : Nx := ⟨kind, 0, [], at_⟩
def nextF (P : List UInt8) (at_ : Int) : Nx :=
  if at_ = P.length then noNx 0 at_
  else if at_ < 0 ∨ P.length < at_ + 17 then noNx 2 at_
  else
    let a := at_.toNat
    let n := beN ((P.drop (a + 1)).take 4)
    let place := beN ((P.drop (a + 5)).take 8)
    let pay := (P.drop (a + 17)).take n
    if n < 1 ∨ 65535 < n ∨ P.length < a + 18 + n then noNx 2 at_
    else if laid place pay = (P.drop a).take (n + 18) then ⟨1, place, pay, at_ + 17 + n + 1⟩ else noNx 2 at_
theorem results_nx {fn : Func} {p u v : Tmp} (h : fn.results = #[.cell p 43, .tmp u, .tmp v]) (tmps : Array Value) (w : World) (b : Nat) (x y : Value) (hp : tmps.getD p undef = .pointer (some ⟨b, 0, none⟩)) (h0 : w.cell? ⟨b, 0, none⟩ = some x) (h1 : w.cell? ⟨b, 1, none⟩ = some y) :
    (results fn tmps).run Try.prog w = .ok (.tuple #[.agg #[x, y], tmps.getD u undef, tmps.getD v undef]) w := by
  have hp' : tmps[p]?.getD undef = .pointer (some ⟨b, 0, none⟩) := by simpa using hp
  have hl := run_loadVar_mid (P := Try.prog) w b 0 43 [x, y] _ (fun j v hj => by
    match j, hj with
    | 0, hj => simp at hj; subst hj; simpa using h0
    | 1, hj => simp at hj; subst hj; simpa using h1
    | j + 2, hj => simp at hj) Try.underlying43 rfl (by kernel_rfl)
  simp [results, h, hp', asAddr, hl]
/-- two cells that were just laid -/
theorem pair_cell (w : World) (u v : Value) (t : TypeId) : (w.alloc (.cells #[u, v] t)).cell? ⟨w.heap.size, 0, none⟩ = some u ∧ (w.alloc (.cells #[u, v] t)).cell? ⟨w.heap.size, 1, none⟩ = some v := by
  have e := heap_alloc_new w (.cells #[u, v] t)
  exact ⟨by rw [cell_of_row _ _ _ _ _ _ e]; rfl, by rw [cell_of_row _ _ _ _ _ _ e]; rfl⟩

structure Pair (w : World) (b : Nat) (u v : Value) : Prop where
  c0 : w.cell? ⟨b, 0, none⟩ = some u
  c1 : w.cell? ⟨b, 1, none⟩ = some v
  fz : ∀ j, w.frozen? ⟨b, j, none⟩ = false
theorem Pair.fresh (w : World) (u v : Value) (t : TypeId) : Pair (w.alloc (.cells #[u, v] t)) w.heap.size u v :=
  ⟨(pair_cell w u v t).1, (pair_cell w u v t).2, fun _ => frozen_of_row _ _ _ #[u, v] t (heap_alloc_new w (.cells #[u, v] t))⟩
theorem Pair.keep {w w' : World} {b : Nat} {u v : Value} (h : Pair w b u v) (hb : w'.heap[b]? = w.heap[b]?) : Pair w' b u v :=
  ⟨(World.cell?_of_block (a := ⟨b, 0, none⟩) hb).trans h.c0, (World.cell?_of_block (a := ⟨b, 1, none⟩) hb).trans h.c1, fun j => (World.frozen?_of_block (a := ⟨b, j, none⟩) hb).trans (h.fz j)⟩
theorem Pair.lt {w : World} {b : Nat} {u v : Value} (h : Pair w b u v) : b < w.heap.size := World.block_lt_of_cell? w _ h.c0
theorem Pair.new {w w' : World} {b : Nat} {u v : Value} (h : Pair w b u v) (B : Below w.heap.size w w') : Pair w' b u v := h.keep (B.block b h.lt)
theorem Pair.far {w w' : World} {b g : Nat} {u v : Value} (h : Pair w b u v) (hg : w.grownBy w' (some g)) (hne : b ≠ g) : Pair w' b u v := h.keep (hg.block b h.lt (fun e => hne (Option.some.inj e)))
theorem Pair.set0 {w : World} {b : Nat} {u v : Value} (h : Pair w b u v) (x : Value) : Pair (w.setCell ⟨b, 0, none⟩ x) b x v :=
  ⟨World.cell?_setCell_same _ _ _ h.c0, (World.cell?_setCell_other _ _ _ _ (by simp)).trans h.c1, fun j => by rw [World.frozen?_setCell]; exact h.fz j⟩
theorem Pair.set1 {w : World} {b : Nat} {u v : Value} (h : Pair w b u v) (x : Value) : Pair (w.setCell ⟨b, 1, none⟩ x) b u x :=
  ⟨(World.cell?_setCell_other _ _ _ _ (by simp)).trans h.c0, World.cell?_setCell_same _ _ _ h.c1, fun j => by rw [World.frozen?_setCell]; exact h.fz j⟩
theorem Pair.other {w : World} {b g j : Nat} {u v x : Value} (h : Pair w b u v) (hne : b ≠ g) : Pair (w.setCell ⟨g, j, none⟩ x) b u v := h.far (setCell_grown w g j x) hne

theorem OB.keepAt {w w' : World} {base e : Nat} {v : Value} {p : List UInt8} (h : OB w base e v p) (hk : ∀ g, base ≤ g → w'.heap[g]? = w.heap[g]?) : OB w' base e v p := by
  refine ⟨⟨h.out.1, ?_⟩⟩
  rcases h.out.2 with h5 | ⟨g, cap, cur, rfl, hg, hh, r5⟩
  · exact .inl h5
  · exact .inr ⟨g, cap, cur, rfl, hg, (hk g hg).trans hh, r5⟩

theorem beN8 (l : List UInt8) (h : l.length ≤ 8) : beN l ≤ 18446744073709551615 := by have := WireMath.beN_lt l 8 h; omega
theorem beN4 (l : List UInt8) (h : l.length ≤ 4) : beN l ≤ 4294967295 := by have := WireMath.beN_lt l 4 h; omega
/-- the numbers ahead of the payload, as the reader takes them -/
structure Nums (Q : List UInt8) (m place : Nat) : Prop where
  a1 : (numS Q 0 0 1).2.1 = 1
  a2 : (numS Q 0 0 1).2.2 = 0
  b0 : (m : Int) = (numS Q 1 0 4).1
  b1 : (numS Q 1 0 4).2.1 = 5
  b2 : (numS Q 1 0 4).2.2 = 0
  c0 : (place : Int) = (numS Q 5 0 8).1
  c1 : (numS Q 5 0 8).2.1 = 13
  c2 : (numS Q 5 0 8).2.2 = 0
  m : m ≤ 4294967295
  place : place ≤ 18446744073709551615
theorem quo_nums (P : List UInt8) (a : Nat) (h : a + 17 ≤ P.length) : Nums ((P.drop a).take 17) (beN ((P.drop (a + 1)).take 4)) (beN ((P.drop (a + 5)).take 8)) := by
  have hl : ((P.drop a).take 17).length = 17 := by simp; omega
  have h1 : (((P.drop a).take 17).drop 1).take 4 = (P.drop (a + 1)).take 4 := by rw [List.drop_take, List.drop_drop, List.take_take]; congr 1
  have h5 : (((P.drop a).take 17).drop 5).take 8 = (P.drop (a + 5)).take 8 := by rw [List.drop_take, List.drop_drop, List.take_take]; congr 1
  have e1 : numS ((P.drop a).take 17) 0 0 1 = (beN ((((P.drop a).take 17).drop 0).take 1), 0 + 1, 0) := by unfold WireMath.numS; rw [if_neg (by omega), if_neg (by omega)]
  have e2 : numS ((P.drop a).take 17) 1 0 4 = (beN ((P.drop (a + 1)).take 4), 1 + 4, 0) := by unfold WireMath.numS; rw [if_neg (by omega), if_neg (by omega), h1]
  have e3 : numS ((P.drop a).take 17) 5 0 8 = (beN ((P.drop (a + 5)).take 8), 5 + 8, 0) := by unfold WireMath.numS; rw [if_neg (by omega), if_neg (by omega), h5]
  refine ⟨?_, ?_, ?_, ?_, ?_, ?_, ?_, ?_, beN4 _ (by simp; omega), beN8 _ (by simp; omega)⟩ <;> simp only [e1, e2, e3]
theorem next_mid (P : List UInt8) (a : Nat) (h : a + 17 ≤ P.length) (h1 : ¬(a : Int) = P.length) : nextF P a =
    (let n := beN ((P.drop (a + 1)).take 4)
    let place := beN ((P.drop (a + 5)).take 8)
    let pay := (P.drop (a + 17)).take n
    if n < 1 ∨ 65535 < n ∨ P.length < a + 18 + n then noNx 2 a
    else if laid place pay = (P.drop a).take (n + 18) then ⟨1, place, pay, (a : Int) + 17 + n + 1⟩ else noNx 2 a) := by
  unfold nextF
  rw [if_neg h1, if_neg (by omega)]
  simp only [Int.toNat_natCast]
theorem ru32N (base : Nat → Prop) (b : Nat) (P : List UInt8) (at_ e : Nat) (v : Int) (a2 e2 : Nat) (hv : v = (numS P at_ e 4).1) (ha : (numS P at_ e 4).2.1 = a2) (he : (numS P at_ e 4).2.2 = e2) (w : World) (hr : Rd w base b P at_ e) (hl : P.length ≤ 9223372036854775807) :
    Calls Try.prog 48 #[.pointer (some ⟨b, 0, none⟩)] w fun e' w' => e' = .returned (.int .u32 v) ∧ Rd w' base b P a2 e2 ∧ w.grownBy w' (some b) := by
  subst hv; subst ha; subst he; exact ru32_calls base b P at_ e w hr hl
theorem ru64N (base : Nat → Prop) (b : Nat) (P : List UInt8) (at_ e : Nat) (v : Int) (a2 e2 : Nat) (hv : v = (numS P at_ e 8).1) (ha : (numS P at_ e 8).2.1 = a2) (he : (numS P at_ e 8).2.2 = e2) (w : World) (hr : Rd w base b P at_ e) (hl : P.length ≤ 9223372036854775807) :
    Calls Try.prog 49 #[.pointer (some ⟨b, 0, none⟩)] w fun e' w' => e' = .returned (.int .u64 v) ∧ Rd w' base b P a2 e2 ∧ w.grownBy w' (some b) := by
  subst hv; subst ha; subst he; exact ru64_calls base b P at_ e w hr hl

set_option maxHeartbeats 1000000 in
set_option maxRecDepth 100000 in
theorem next_calls (A : Option Addr) (P : List UInt8) (n c : Nat) (at_ : Int) (hat : -9223372036854775808 ≤ at_ ∧ at_ ≤ 9223372036854775807) (w : World) (hp : RB w A c P) (hn : n = P.length) (hl : P.length ≤ 281474976710656) :
    Calls Try.prog 18 #[.slice A n c, .int .i64 at_] w fun e w' => ∃ A' c', e = .returned (.tuple #[.agg #[.int .u64 (nextF P at_).place, .slice A' (nextF P at_).payload.length c'], .int .i64 (nextF P at_).next, .int .i64 (nextF P at_).kind]) ∧ NewB w w' (.slice A' (nextF P at_).payload.length c') (nextF P at_).payload := by
  subst hn
  have hA := below_alloc1 (Below.refl w.heap.size w) (Nat.le_refl _) (.cells #[.int .u64 0, .slice none 0 0] 43)
  have hpc := pair_cell w (.int .u64 0) (.slice none 0 0) 43
  by_cases h1 : at_ = P.length
  · have hN : nextF P at_ = noNx 0 at_ := by unfold nextF; rw [if_pos h1]
    rw [hN]
    have h1b : (at_ == (P.length : Int)) = true := by rw [beq_iff_eq]; exact h1
    have HPC := Lib.hid hpc
    have HA := Lib.hid hA
    clear hN h1 hpc hA
    go_enter Try.func18, Try.ntmps18
    go_wp2
    exact bodyPost_ret (results_nx rfl _ _ w.heap.size _ _ rfl HPC.out.1 HPC.out.2) rfl ⟨none, 0, rfl, OB.nil _ _ _, HA.out⟩
  · have h1b : (at_ == (P.length : Int)) = false := by rw [beq_eq_false_iff_ne]; exact h1
    by_cases h2 : at_ < 0 ∨ (P.length : Int) < at_ + 17
    · have hN : nextF P at_ = noNx 2 at_ := by unfold nextF; rw [if_neg h1, if_pos h2]
      rw [hN]
      have HPC := Lib.hid hpc
      have HA := Lib.hid hA
      clear hN h1 hpc hA
      go_enter Try.func18, Try.ntmps18
      go_wp2
      all_goals exact bodyPost_ret (results_nx rfl _ _ w.heap.size _ _ rfl HPC.out.1 HPC.out.2) rfl ⟨none, 0, rfl, OB.nil _ _ _, HA.out⟩
    · obtain ⟨a, rfl⟩ := Int.eq_ofNat_of_zero_le (by omega : 0 ≤ at_)
      have ha : a + 17 ≤ P.length := by omega
      have hcap := hp.len
      have hN := next_mid P a ha h1
      have hQ : ((P.drop a).take 17).length = 17 := by simp; omega
      have hu := quo_nums P a ha
      generalize hq : (P.drop a).take 17 = Q at *
      have hsl := fun w' : World => run_cut w' A P.length c (a : Int) ((a : Int) + 17) a (a + 17) rfl (by omega) (by omega) (by omega)
      have hcut := hp.cut a (a + 17) (by omega) ha
      rw [Nat.add_sub_cancel_left] at hsl hcut
      rw [hq] at hcut
      have HCUT := Lib.hid hcut
      have HPC := Lib.hid hpc
      have HA := Lib.hid hA
      have HQ := Lib.hid hQ
      have HU := Lib.hid hu
      clear h1 hpc hA hcut hq hQ hu h2
      generalize beN ((P.drop (a + 1)).take 4) = m at *
      generalize beN ((P.drop (a + 5)).take 8) = place at *
      have HN := Lib.hid hN
      have hmle := HU.out.m
      clear hN
      by_cases hbad : m < 1 ∨ 65535 < m ∨ P.length < a + 18 + m
      · have HN2 := Lib.hid (HN.out.trans (if_pos hbad))
        rw [HN2.out]
        go_enter Try.func18, Try.ntmps18
        go_wp2_with (first
          | (go_at_call 35; go_loud (with_reducible refine (newReader_calls _ Q (c - a) 17 _ (HCUT.out.new HA.out) HQ.out.symm (by rw [HQ.out]; decide)).mono ?_); rintro e6 w6 ⟨b, rfl, hr6, hb6⟩)
          | (go_at_call 40; go_loud (with_reducible refine (ru8N _ b Q 0 0 _ 1 0 rfl HU.out.a1 HU.out.a2 _ hr6 (by rw [HQ.out]; decide)).mono ?_); rintro e7 w7 ⟨rfl, hr7, hg7⟩)
          | (go_at_call 48; go_loud (with_reducible refine (ru32N _ b Q 1 0 m 5 0 HU.out.b0 HU.out.b1 HU.out.b2 _ hr7 (by rw [HQ.out]; decide)).mono ?_); rintro e8 w8 ⟨rfl, hr8, hg8⟩)
          | (go_at_call 49; go_loud (with_reducible refine (ru64N _ b Q 5 0 place 13 0 HU.out.c0 HU.out.c1 HU.out.c2 _ hr8 (by rw [HQ.out]; decide)).mono ?_); rintro e9 w9 ⟨rfl, hr9, hg9⟩; have hlo := hr6.lo; have hlt : w.heap.size < b := Nat.lt_of_lt_of_le (Pair.fresh w (.int .u64 0) (.slice none 0 0) 43).lt hlo; have PR := ((((Pair.fresh w (.int .u64 0) (.slice none 0 0) 43).new hb6).far hg7 (Nat.ne_of_lt hlt)).far hg8 (Nat.ne_of_lt hlt)).far hg9 (Nat.ne_of_lt hlt); have hne : w.heap.size ≠ w9.heap.size := Nat.ne_of_lt PR.lt; have P0 := PR.new (below_alloc1 (Below.refl _ w9) (Nat.le_refl _) (.cells #[.int .u64 place, .slice none 0 0] 43)); have z0 := P0.c0; have z1 := P0.c1; have z2 := P0.fz 0; have z3 := P0.fz 1))
        all_goals (have PE := Lib.hid ((P0.set0 (.int .u64 0)).set1 (.slice none 0 0)))
        all_goals (have B6 := below_then HA.out hb6)
        all_goals (have B9 := below_reader (below_reader (below_reader B6 hg7 (Nat.le_of_lt hlt)) hg8 (Nat.le_of_lt hlt)) hg9 (Nat.le_of_lt hlt))
        all_goals (have BE := ((B9.alloc B9.size (.cells #[.int .u64 place, .slice none 0 0] 43)).setCell (p := ⟨w.heap.size, 0, none⟩) (Nat.le_refl _) (.int .u64 0)).setCell (p := ⟨w.heap.size, 1, none⟩) (Nat.le_refl _) (.slice none 0 0))
        all_goals exact bodyPost_ret (results_nx rfl _ _ w.heap.size _ _ rfl PE.out.c0 PE.out.c1) rfl ⟨none, 0, rfl, OB.nil _ _ _, BE⟩
      · obtain ⟨hm1, hm2, hm3⟩ : 1 ≤ m ∧ m ≤ 65535 ∧ a + 18 + m ≤ P.length := by omega
        have HN2 := Lib.hid (HN.out.trans (if_neg hbad))
        have hpl := HU.out.place
        have hpay : ((P.drop (a + 17)).take m).length = m := by simp; omega
        have hwin : ((P.drop a).take (m + 18)).length = m + 18 := by simp; omega
        have hsl2 := fun w' : World => run_cut w' A P.length c ((a : Int) + 17) ((a : Int) + 17 + m) (a + 17) (a + 17 + m) rfl (by omega) (by omega) (by omega)
        have hsl3 := fun w' : World => run_cut w' A P.length c (a : Int) ((a : Int) + 17 + m + 1) a (a + (m + 18)) rfl (by omega) (by omega) (by omega)
        have hcp := hp.cut (a + 17) (a + 17 + m) (by omega) (by omega)
        have hcw := hp.cut a (a + (m + 18)) (by omega) (by omega)
        rw [Nat.add_sub_cancel_left] at hsl2 hsl3 hcp hcw
        generalize (P.drop (a + 17)).take m = pay at *
        generalize (P.drop a).take (m + 18) = win at *
        have HCP := Lib.hid hcp
        have HCW := Lib.hid hcw
        have HPAY := Lib.hid hpay
        have HWIN := Lib.hid hwin
        have hll := FrameMath.laid_length place pay
        generalize hld : laid place pay = ld at *
        have HLD := Lib.hid hld
        have HLL := Lib.hid (show m + 18 = ld.length by rw [hll, hpay])
        clear hbad hcp hcw hpay hwin hll hld
        by_cases heq : ld = win
        · have HE := Lib.hid (show (ld == win) = true by rw [heq]; simp)
          have HN3 := Lib.hid (HN2.out.trans (if_pos heq))
          rw [HN3.out]
          clear heq
          go_enter Try.func18, Try.ntmps18
          go_wp2_with (first
            | (go_at_call 35; go_loud (with_reducible refine (newReader_calls _ Q (c - a) 17 _ (HCUT.out.new HA.out) HQ.out.symm (by rw [HQ.out]; decide)).mono ?_); rintro e6 w6 ⟨b, rfl, hr6, hb6⟩)
            | (go_at_call 40; go_loud (with_reducible refine (ru8N _ b Q 0 0 _ 1 0 rfl HU.out.a1 HU.out.a2 _ hr6 (by rw [HQ.out]; decide)).mono ?_); rintro e7 w7 ⟨rfl, hr7, hg7⟩)
            | (go_at_call 48; go_loud (with_reducible refine (ru32N _ b Q 1 0 m 5 0 HU.out.b0 HU.out.b1 HU.out.b2 _ hr7 (by rw [HQ.out]; decide)).mono ?_); rintro e8 w8 ⟨rfl, hr8, hg8⟩)
            | (go_at_call 49; go_loud (with_reducible refine (ru64N _ b Q 5 0 place 13 0 HU.out.c0 HU.out.c1 HU.out.c2 _ hr8 (by rw [HQ.out]; decide)).mono ?_); rintro e9 w9 ⟨rfl, hr9, hg9⟩; have hlo := hr6.lo; have hlt : w.heap.size < b := Nat.lt_of_lt_of_le (Pair.fresh w (.int .u64 0) (.slice none 0 0) 43).lt hlo; have PR := ((((Pair.fresh w (.int .u64 0) (.slice none 0 0) 43).new hb6).far hg7 (Nat.ne_of_lt hlt)).far hg8 (Nat.ne_of_lt hlt)).far hg9 (Nat.ne_of_lt hlt); have hne : w.heap.size ≠ w9.heap.size := Nat.ne_of_lt PR.lt; have P0 := PR.new (below_alloc1 (Below.refl _ w9) (Nat.le_refl _) (.cells #[.int .u64 place, .slice none 0 0] 43)); have z0 := P0.c0; have z1 := P0.c1; have z2 := P0.fz 0; have z3 := P0.fz 1)
            | (go_at_call 50; (have HB9 := Lib.hid (below_reader (below_reader (below_reader (below_then HA.out hb6) hg7 (Nat.le_of_lt hlt)) hg8 (Nat.le_of_lt hlt)) hg9 (Nat.le_of_lt hlt))); (have HN9 := Lib.hid (HB9.out.alloc HB9.out.size (.cells #[.int .u64 place, .slice none 0 0] 43))); go_loud (with_reducible refine (bclone_calls (cutA A (a + 17) c) pay m (c - (a + 17)) _ (HCP.out.new HN9.out) HPAY.out.symm (by rw [HPAY.out]; omega)).mono ?_); rintro e10 w10 ⟨A10, c10, rfl, hn10⟩; have P1 := (Pair.fresh w9 (.int .u64 place) (.slice none 0 0) 43).new hn10.below; have P2 := P0.new hn10.below; have y1 := P1.c1; have y0 := P1.c0; have y3 := P1.fz 1))
          have hns : w9.heap.size + 1 ≤ w10.heap.size := Nat.lt_of_lt_of_le P1.lt (Nat.le_refl _)
          have PW := (P1.set1 (.slice A10 m c10)).new ((Below.refl _ _).drew)
          have PR2 := (P2.other (g := w9.heap.size) (j := 1) (x := .slice A10 m c10) hne).new ((Below.refl _ _).drew)
          have HOwn := hn10.own.lo
          have HB10 : Hid (RB (w10.setCell ⟨w9.heap.size, 1, none⟩ (.slice A10 m c10)).drew A10 c10 pay) := Lib.hid ((hn10.own.rb.keep fun x e hp => by
            have := HOwn x e hp
            have h2 : (w9.alloc (.cells #[.int .u64 place, .slice none 0 0] 43)).heap.size = w9.heap.size + 1 := Array.size_push ..
            exact (setCell_grown w10 w9.heap.size 1 _).block _ (hn10.own.rb.old.out x e hp) (fun e2 => by have := Option.some.inj e2; omega)).new ((Below.refl _ _).drew))
          have HW10 := Lib.hid ((below_then HN9.out hn10.below).setCell (p := ⟨w9.heap.size, 1, none⟩) HB9.out.size (.slice A10 m c10)).drew
          clear z0 z1 z2 z3 y0 y1 y3 hr6 hb6 hr7 hg7 hr8 hg8 hr9 hg9 PR P0 P1 P2 HPC HA
          have x0 := (show (w10.setCell ⟨w9.heap.size, 1, none⟩ (.slice A10 m c10)).cell? ⟨w9.heap.size, 0, none⟩ = some (.int .u64 place) from PW.c0)
          have x1 := (show (w10.setCell ⟨w9.heap.size, 1, none⟩ (.slice A10 m c10)).cell? ⟨w9.heap.size, 1, none⟩ = some (.slice A10 m c10) from PW.c1)
          go_region_held3 (fun w' => w'.cell? ⟨w9.heap.size, 0, none⟩ = some (.int .u64 place) ∧ w'.cell? ⟨w9.heap.size, 1, none⟩ = some (.slice A10 m c10)) (go_keep) (first
            | (go_at_call 52; go_loud (with_reducible refine (lay_calls place hpl A10 pay m c10 _ HB10.out HPAY.out.symm (by rw [HPAY.out]; exact hm2)).mono ?_); rintro e11 w11 ⟨A11, c11, rfl, hn11⟩; rw [HLD.out] at hn11; have P11 := PW.new hn11.below; have R11 := PR2.new hn11.below; have v0 := P11.c0; have v1 := P11.c1; have B11 := below_then HW10.out hn11.below)
            | (go_at_call 51; go_loud (with_reducible refine (bequal_calls A11 (cutA A a c) ld win (m + 18) (m + 18) c11 (c - a) _ hn11.own.rb (HCW.out.new B11) HLL.out HWIN.out.symm true HE.out).mono ?_); rintro e12 w12 ⟨rfl, rfl⟩))
          have r0 := R11.c0
          have r1 := R11.c1
          have r2 := R11.fz 0
          have r3 := R11.fz 1
          have PE := Lib.hid ((R11.set0 (.int .u64 place)).set1 (.slice A10 m c10))
          have BE := Lib.hid ((B11.setCell (p := ⟨w.heap.size, 0, none⟩) (Nat.le_refl _) (.int .u64 place)).setCell (p := ⟨w.heap.size, 1, none⟩) (Nat.le_refl _) (.slice A10 m c10))
          have hsz : (w9.alloc (.cells #[.int .u64 place, .slice none 0 0] 43)).heap.size = w9.heap.size + 1 := Array.size_push ..
          have O1 := (hn10.own.keepAt (w' := w10.setCell ⟨w9.heap.size, 1, none⟩ (.slice A10 m c10)) fun g hg => Below.heap_setCell _ _ _ _ (by show g ≠ w9.heap.size; omega)).new ((Below.refl _ _).drew)
          have O2 := (O1.new hn11.below).keepAt (w' := w11.setCell ⟨w.heap.size, 0, none⟩ (.int .u64 place)) fun g hg => Below.heap_setCell _ _ _ _ (by show g ≠ w.heap.size; have := HB9.out.size; omega)
          have O3 := Lib.hid ((O2.keepAt (w' := (w11.setCell ⟨w.heap.size, 0, none⟩ (.int .u64 place)).setCell ⟨w.heap.size, 1, none⟩ (.slice A10 m c10)) fun g hg => Below.heap_setCell _ _ _ _ (by show g ≠ w.heap.size; have := HB9.out.size; omega)).mono HN9.out.size)
          clear O1 O2 hsz
          go_wp2
          exact bodyPost_ret (results_nx rfl _ _ w.heap.size _ _ rfl PE.out.c0 PE.out.c1) rfl ⟨A10, c10, by rw [HPAY.out]; rfl, by rw [HPAY.out]; exact ⟨O3.out, BE.out⟩⟩
        · have HE := Lib.hid (show (ld == win) = false by rw [beq_eq_false_iff_ne]; exact heq)
          have HN3 := Lib.hid (HN2.out.trans (if_neg heq))
          rw [HN3.out]
          clear heq
          go_enter Try.func18, Try.ntmps18
          go_wp2_with (first
            | (go_at_call 35; go_loud (with_reducible refine (newReader_calls _ Q (c - a) 17 _ (HCUT.out.new HA.out) HQ.out.symm (by rw [HQ.out]; decide)).mono ?_); rintro e6 w6 ⟨b, rfl, hr6, hb6⟩)
            | (go_at_call 40; go_loud (with_reducible refine (ru8N _ b Q 0 0 _ 1 0 rfl HU.out.a1 HU.out.a2 _ hr6 (by rw [HQ.out]; decide)).mono ?_); rintro e7 w7 ⟨rfl, hr7, hg7⟩)
            | (go_at_call 48; go_loud (with_reducible refine (ru32N _ b Q 1 0 m 5 0 HU.out.b0 HU.out.b1 HU.out.b2 _ hr7 (by rw [HQ.out]; decide)).mono ?_); rintro e8 w8 ⟨rfl, hr8, hg8⟩)
            | (go_at_call 49; go_loud (with_reducible refine (ru64N _ b Q 5 0 place 13 0 HU.out.c0 HU.out.c1 HU.out.c2 _ hr8 (by rw [HQ.out]; decide)).mono ?_); rintro e9 w9 ⟨rfl, hr9, hg9⟩; have hlo := hr6.lo; have hlt : w.heap.size < b := Nat.lt_of_lt_of_le (Pair.fresh w (.int .u64 0) (.slice none 0 0) 43).lt hlo; have PR := ((((Pair.fresh w (.int .u64 0) (.slice none 0 0) 43).new hb6).far hg7 (Nat.ne_of_lt hlt)).far hg8 (Nat.ne_of_lt hlt)).far hg9 (Nat.ne_of_lt hlt); have hne : w.heap.size ≠ w9.heap.size := Nat.ne_of_lt PR.lt; have P0 := PR.new (below_alloc1 (Below.refl _ w9) (Nat.le_refl _) (.cells #[.int .u64 place, .slice none 0 0] 43)); have z0 := P0.c0; have z1 := P0.c1; have z2 := P0.fz 0; have z3 := P0.fz 1)
            | (go_at_call 50; (have HB9 := Lib.hid (below_reader (below_reader (below_reader (below_then HA.out hb6) hg7 (Nat.le_of_lt hlt)) hg8 (Nat.le_of_lt hlt)) hg9 (Nat.le_of_lt hlt))); (have HN9 := Lib.hid (HB9.out.alloc HB9.out.size (.cells #[.int .u64 place, .slice none 0 0] 43))); go_loud (with_reducible refine (bclone_calls (cutA A (a + 17) c) pay m (c - (a + 17)) _ (HCP.out.new HN9.out) HPAY.out.symm (by rw [HPAY.out]; omega)).mono ?_); rintro e10 w10 ⟨A10, c10, rfl, hn10⟩; have P1 := (Pair.fresh w9 (.int .u64 place) (.slice none 0 0) 43).new hn10.below; have P2 := P0.new hn10.below; have y1 := P1.c1; have y0 := P1.c0; have y3 := P1.fz 1))
          have hns : w9.heap.size + 1 ≤ w10.heap.size := Nat.lt_of_lt_of_le P1.lt (Nat.le_refl _)
          have PW := (P1.set1 (.slice A10 m c10)).new ((Below.refl _ _).drew)
          have PR2 := (P2.other (g := w9.heap.size) (j := 1) (x := .slice A10 m c10) hne).new ((Below.refl _ _).drew)
          have HOwn := hn10.own.lo
          have HB10 : Hid (RB (w10.setCell ⟨w9.heap.size, 1, none⟩ (.slice A10 m c10)).drew A10 c10 pay) := Lib.hid ((hn10.own.rb.keep fun x e hp => by
            have := HOwn x e hp
            have h2 : (w9.alloc (.cells #[.int .u64 place, .slice none 0 0] 43)).heap.size = w9.heap.size + 1 := Array.size_push ..
            exact (setCell_grown w10 w9.heap.size 1 _).block _ (hn10.own.rb.old.out x e hp) (fun e2 => by have := Option.some.inj e2; omega)).new ((Below.refl _ _).drew))
          have HW10 := Lib.hid ((below_then HN9.out hn10.below).setCell (p := ⟨w9.heap.size, 1, none⟩) HB9.out.size (.slice A10 m c10)).drew
          clear z0 z1 z2 z3 y0 y1 y3 hr6 hb6 hr7 hg7 hr8 hg8 hr9 hg9 PR P0 P1 P2 HPC HA
          have x0 := (show (w10.setCell ⟨w9.heap.size, 1, none⟩ (.slice A10 m c10)).cell? ⟨w9.heap.size, 0, none⟩ = some (.int .u64 place) from PW.c0)
          have x1 := (show (w10.setCell ⟨w9.heap.size, 1, none⟩ (.slice A10 m c10)).cell? ⟨w9.heap.size, 1, none⟩ = some (.slice A10 m c10) from PW.c1)
          go_region_held3 (fun w' => w'.cell? ⟨w9.heap.size, 0, none⟩ = some (.int .u64 place) ∧ w'.cell? ⟨w9.heap.size, 1, none⟩ = some (.slice A10 m c10)) (go_keep) (first
            | (go_at_call 52; go_loud (with_reducible refine (lay_calls place hpl A10 pay m c10 _ HB10.out HPAY.out.symm (by rw [HPAY.out]; exact hm2)).mono ?_); rintro e11 w11 ⟨A11, c11, rfl, hn11⟩; rw [HLD.out] at hn11; have P11 := PW.new hn11.below; have R11 := PR2.new hn11.below; have v0 := P11.c0; have v1 := P11.c1; have B11 := below_then HW10.out hn11.below)
            | (go_at_call 51; go_loud (with_reducible refine (bequal_calls A11 (cutA A a c) ld win (m + 18) (m + 18) c11 (c - a) _ hn11.own.rb (HCW.out.new B11) HLL.out HWIN.out.symm false HE.out).mono ?_); rintro e12 w12 ⟨rfl, rfl⟩))
          have r0 := R11.c0
          have r1 := R11.c1
          have r2 := R11.fz 0
          have r3 := R11.fz 1
          have PE := Lib.hid ((R11.set0 (.int .u64 0)).set1 (.slice none 0 0))
          have BE := Lib.hid ((B11.setCell (p := ⟨w.heap.size, 0, none⟩) (Nat.le_refl _) (.int .u64 0)).setCell (p := ⟨w.heap.size, 1, none⟩) (Nat.le_refl _) (.slice none 0 0))
          go_wp2
          exact bodyPost_ret (results_nx rfl _ _ w.heap.size _ _ rfl PE.out.c0 PE.out.c1) rfl ⟨none, 0, rfl, OB.nil _ _ _, BE.out⟩
end Go.Proofs.Ytlcbjjgmkllceaa

/- Plain laws on frames. -/
namespace Go.Proofs.Ytlcbjjgmkllceaa
open WireMath (wideL numS beN byteAt)
open FrameMath (head crcP laid)

/-- how a frame's bytes part -/
theorem laid_parts (place : Nat) (p tail : List UInt8) : laid place p ++ tail = [0xf5] ++ (wideL p.length 4 ++ (wideL place 8 ++ (wideL (crcP place p).toNat 4 ++ (p ++ (0x5f :: tail))))) := by
  simp [FrameMath.laid, FrameMath.head]
theorem next_laid (place : Nat) (p tail : List UInt8) (hpl : place ≤ 18446744073709551615) (h1 : 1 ≤ p.length) (h2 : p.length ≤ 65535) : nextF (laid place p ++ tail) 0 = ⟨1, place, p, p.length + 18⟩ := by
  have hl : (laid place p ++ tail).length = p.length + 18 + tail.length := by rw [List.length_append, FrameMath.laid_length]
  have w4 := WireMath.wideL_length p.length 4
  have w8 := WireMath.wideL_length place 8
  have wc := WireMath.wideL_length (crcP place p).toNat 4
  have d1 : (laid place p ++ tail).drop 1 = wideL p.length 4 ++ (wideL place 8 ++ (wideL (crcP place p).toNat 4 ++ (p ++ (0x5f :: tail)))) := by rw [laid_parts]; rfl
  have d5 : (laid place p ++ tail).drop 5 = wideL place 8 ++ (wideL (crcP place p).toNat 4 ++ (p ++ (0x5f :: tail))) := by
    rw [show 5 = 1 + 4 from rfl, ← List.drop_drop, d1, List.drop_left' w4]
  have d17 : (laid place p ++ tail).drop 17 = p ++ (0x5f :: tail) := by
    rw [show 17 = 5 + (8 + 4) from rfl, ← List.drop_drop, d5, ← List.drop_drop, List.drop_left' w8, List.drop_left' wc]
  have e1 : beN (((laid place p ++ tail).drop 1).take 4) = p.length := by
    rw [d1, List.take_left' w4, beN_wideL]; omega
  have e2 : beN (((laid place p ++ tail).drop 5).take 8) = place := by
    rw [d5, List.take_left' w8, beN_wideL]; omega
  have e3 : ((laid place p ++ tail).drop 17).take p.length = p := by rw [d17, List.take_left' rfl]
  unfold nextF
  rw [if_neg (by omega), if_neg (by omega)]
  simp only [show (0 : Int).toNat = 0 from rfl, Nat.zero_add, e1, e2, e3]
  rw [if_neg (by omega), if_pos (by rw [List.drop_zero, List.take_left' (FrameMath.laid_length place p)])]
  congr 1
  omega
/-- a frame that Next tells: what it is, and where -/
theorem next_whole (P : List UInt8) (at_ : Int) (h : (nextF P at_).kind = 1) : ∃ a : Nat, at_ = a ∧ 1 ≤ (nextF P at_).payload.length ∧ (nextF P at_).payload.length ≤ 65535 ∧ (nextF P at_).place ≤ 18446744073709551615 ∧ (nextF P at_).next = a + 17 + (nextF P at_).payload.length + 1 ∧ a + (nextF P at_).payload.length + 18 ≤ P.length ∧ laid (nextF P at_).place (nextF P at_).payload = (P.drop a).take ((nextF P at_).payload.length + 18) := by
  by_cases h1 : at_ = P.length
  · rw [nextF, if_pos h1] at h; exact absurd h (by simp [noNx])
  · by_cases h2 : at_ < 0 ∨ P.length < at_ + 17
    · rw [nextF, if_neg h1, if_pos h2] at h; exact absurd h (by simp [noNx])
    · obtain ⟨a, rfl⟩ := Int.eq_ofNat_of_zero_le (by omega : 0 ≤ at_)
      have hm := next_mid P a (by omega) h1
      simp only at hm
      rw [hm] at h ⊢
      by_cases h3 : beN ((P.drop (a + 1)).take 4) < 1 ∨ 65535 < beN ((P.drop (a + 1)).take 4) ∨ P.length < a + 18 + beN ((P.drop (a + 1)).take 4)
      · rw [if_pos h3] at h; exact absurd h (by simp [noNx])
      · rw [if_neg h3] at h ⊢
        by_cases h4 : laid (beN ((P.drop (a + 5)).take 8)) ((P.drop (a + 17)).take (beN ((P.drop (a + 1)).take 4))) = (P.drop a).take (beN ((P.drop (a + 1)).take 4) + 18)
        · rw [if_pos h4]
          have hlen : ((P.drop (a + 17)).take (beN ((P.drop (a + 1)).take 4))).length = beN ((P.drop (a + 1)).take 4) := by simp; omega
          refine ⟨a, rfl, ?_, ?_, beN8 _ (by simp; omega), ?_, ?_, ?_⟩ <;> simp only [hlen]
          · omega
          · omega
          · omega
          · exact h4
        · rw [if_neg h4] at h; exact absurd h (by simp [noNx])
/-- where it tells none -/
theorem next_other (P : List UInt8) (at_ : Int) (h : (nextF P at_).kind ≠ 1) : nextF P at_ = noNx (if at_ = P.length then 0 else 2) at_ := by
  by_cases h1 : at_ = P.length
  · rw [if_pos h1, nextF, if_pos h1]
  · rw [if_neg h1]
    by_cases h2 : at_ < 0 ∨ P.length < at_ + 17
    · rw [nextF, if_neg h1, if_pos h2]
    · obtain ⟨a, rfl⟩ := Int.eq_ofNat_of_zero_le (by omega : 0 ≤ at_)
      have hm := next_mid P a (by omega) h1
      simp only at hm
      rw [hm] at h ⊢
      split at h
      · rename_i h3; rw [if_pos h3]
      · rename_i h3
        rw [if_neg h3]
        split at h
        · exact absurd rfl h
        · rename_i h4; rw [if_neg h4]
end Go.Proofs.Ytlcbjjgmkllceaa

/- The walks of the reference's check sum: each call comes to what CrcMath says. -/
namespace Go.Proofs.Ytlcbjjgmkllceaa
open Go.RowKit
open CrcMath (W)
attribute [local go_sem] uI_not bits_xor_uI bits_xor_byte

theorem shr_rem (c : W) (k : Nat) : (uI c / (2 : Int) ^ k).tmod 2 = if c.getLsbD k then (1 : Int) else 0 := by
  rw [Int.tmod_eq_emod_of_nonneg (Int.ediv_nonneg (uI_range c).1 (Int.pow_nonneg (by decide)))]
  unfold uI
  have e : c.getLsbD k = decide (c.toNat / 2 ^ k % 2 = 1) := by
    rw [BitVec.getLsbD, Nat.testBit_eq_decide_div_mod_eq]
  rw [e]
  have e2 : ((c.toNat : Int) / 2 ^ k) % 2 = ((c.toNat / 2 ^ k % 2 : Nat) : Int) := by simp
  rw [e2]
  by_cases h : c.toNat / 2 ^ k % 2 = 1
  · simp [h]
  · have h0 : c.toNat / 2 ^ k % 2 = 0 := by omega
    simp [h0]
theorem uI_double (x : W) : uI x * (2 : Int) % (4294967296 : Int) = uI (x <<< 1) := by
  unfold uI
  rw [BitVec.toNat_shiftLeft, Nat.shiftLeft_eq]
  omega
theorem uI_add_bit (x : W) (b : Bool) : (uI (x <<< 1) + (if b then (1 : Int) else 0)) % (4294967296 : Int) = uI ((x <<< 1) ^^^ (if b then (1 : W) else 0)) := by
  have hr := uI_range (x <<< 1)
  cases b
  · simp
    rw [Int.emod_eq_of_lt hr.1 (by omega)]
  · rw [if_pos rfl, if_pos rfl]
    have h0 : (x <<< 1) &&& (1 : W) = 0 := by
      apply BitVec.eq_of_getLsbD_eq
      intro i hi
      rw [BitVec.getLsbD_and, BitVec.getLsbD_shiftLeft, show (1 : W) = 1#32 from rfl, BitVec.getLsbD_one, CrcMath.zero_bit]
      cases i <;> simp
    have h1 : (x <<< 1) ^^^ (1 : W) = (x <<< 1) + (1 : W) := by
      rw [BitVec.add_eq_or_of_and_eq_zero _ _ h0]
      apply BitVec.eq_of_getLsbD_eq
      intro i hi
      have := congrArg (fun y : W => y.getLsbD i) h0
      simp only [BitVec.getLsbD_and, CrcMath.zero_bit] at this
      rw [BitVec.getLsbD_xor, BitVec.getLsbD_or]
      revert this
      generalize (x <<< 1).getLsbD i = p
      generalize (1 : W).getLsbD i = q
      revert p q
      decide
    rw [h1]
    unfold uI
    rw [BitVec.toNat_add]
    simp

theorem turned_calls (c : W) (w : World) :
    Calls Try.prog 84 #[.int .u32 (uI c)] w fun e w' => e = .returned (.int .u32 (uI (CrcMath.rev c))) ∧ w = w' := by
  unfold CrcMath.rev
  have hr := uI_range c
  go_enter Try.func84, Try.ntmps84
  go_wp2
  go_loop [3, 4] (fun v i => ∃ k : Nat, k ≤ 32 ∧ i = .int .i64 k ∧ v = .int .u32 (uI (CrcMath.revTo c k))) (fun _ i => 32 - (intOf i).toNat)
  case atStart => exact ⟨0, by omega, rfl, rfl⟩
  case round =>
    obtain ⟨k, hk, rfl, rfl⟩ := hrel
    by_cases hlt : k < 32
    · have hq := uI_range (CrcMath.revTo c k)
      have e1 := shr_rem c k
      have e2 := uI_add_bit (CrcMath.revTo c k) (c.getLsbD k)
      rw [← uI_double] at e2
      have E1 := Lib.hid e1
      have E2 := Lib.hid e2
      clear e1 e2
      go_wp2
      go_round
      case rel => exact ⟨k + 1, by omega, by go_num, by simp only [CrcMath.revTo]; rw [← E2.out, ← E1.out]⟩
      case measure => simp [intOf]; omega
    · obtain rfl : k = 32 := by omega
      go_wp2
      go_ret
      exact ⟨rfl, rfl⟩

theorem double_calls (x : W) (w : World) :
    Calls Try.prog 85 #[.int .u32 (uI x)] w fun e w' => e = .returned (.int .u32 (uI (CrcMath.double x))) ∧ w = w' := by
  have hr := uI_range x
  have hb : x.getLsbD 31 = decide (2147483648 ≤ uI x) := by
    unfold uI
    rw [BitVec.getLsbD, Nat.testBit_eq_decide_div_mod_eq]
    have := x.isLt
    by_cases h : 2147483648 ≤ x.toNat
    · have : x.toNat / 2 ^ 31 % 2 = 1 := by omega
      simp [this]; omega
    · have : x.toNat / 2 ^ 31 % 2 = 0 := by omega
      simp [this]; omega
  unfold CrcMath.double
  cases hc : x.getLsbD 31
  · rw [hc] at hb
    rw [if_neg (by decide)]
    replace hb := hb.symm
    clear hc
    go_enter Try.func85, Try.ntmps85
    go_wp2
    go_ret
    exact ⟨ret_int (uI_double x), rfl⟩
  · rw [hc] at hb
    rw [if_pos rfl]
    replace hb := hb.symm
    clear hc
    go_enter Try.func85, Try.ntmps85
    go_wp2
    go_ret
    exact ⟨ret_int (by rw [uI_double]; exact bits_xor_lit (x <<< 1) 517762881), rfl⟩

attribute [local irreducible] CrcMath.rev CrcMath.times CrcMath.refReg CrcMath.bitsTo CrcMath.double

theorem bW_bit (b : UInt8) (i : Nat) : (uB b / (2 : Int) ^ i).tmod 2 = if (bW b).getLsbD i then (1 : Int) else 0 := by
  rw [← uI_bW]; exact shr_rem _ _
theorem bW_lt (b : UInt8) : (bW b).toNat < 256 := by
  have := b.toNat_lt
  unfold bW
  rw [BitVec.toNat_ofNat]; omega

theorem refupdate_calls (c : W) (A : Option Addr) (p : List UInt8) (cap : Nat) (w : World) (hp : RB w A cap p) :
    Calls Try.prog 80 #[.int .u32 (uI c), .slice A p.length cap] w fun e w' => e = .returned (.int .u32 (uI (CrcMath.upd c (p.map bW)))) ∧ w = w' := by
  have hl := hp.small
  rw [← CrcMath.refUpd_eq c (p.map bW) (by intro v hv; rw [List.mem_map] at hv; obtain ⟨b, _, rfl⟩ := hv; exact bW_lt b)]
  unfold CrcMath.refUpd
  go_enter Try.func80, Try.ntmps80
  go_wp2_with (go_at_call 84; (with_reducible refine (turned_calls _ _).mono ?_); rintro e w' ⟨rfl, rfl⟩)
  go_loop [5, 14] (fun c' i => ∃ k : Nat, k ≤ p.length ∧ i = .int .i64 k ∧ c' = .int .u32 (uI (CrcMath.refReg (CrcMath.rev (~~~ c)) ((p.map bW).take k)))) (fun _ i => p.length - (intOf i).toNat)
  case atStart => exact ⟨0, by omega, rfl, by rw [List.take_zero, CrcMath.refReg_nil]⟩
  case round =>
    obtain ⟨k, hk, rfl, rfl⟩ := hrel
    by_cases hlt : k < p.length
    · obtain ⟨a, rfl, hc⟩ := hp.at_ k hlt
      have hs : CrcMath.refReg (CrcMath.rev (~~~ c)) ((p.map bW).take (k + 1)) = CrcMath.bitsTo (CrcMath.refReg (CrcMath.rev (~~~ c)) ((p.map bW).take k)) (bW p[k]) 8 := by
        rw [take_snoc (p.map bW) k (by simpa using hlt)]
        unfold CrcMath.refReg; simp
      have HS := Lib.hid hs
      clear hs hp
      have hr := uB_range p[k]
      go_wp2_with fail
      generalize CrcMath.refReg (CrcMath.rev (~~~ c)) ((p.map bW).take k) = r0 at *
      go_loop [5, 8] (fun c' i => ∃ j : Nat, j ≤ 8 ∧ i = .int .i64 j ∧ c' = .int .u32 (uI (CrcMath.bitsTo r0 (bW p[k]) j))) (fun _ i => 8 - (intOf i).toNat)
      case atStart => exact ⟨0, by omega, rfl, by rw [CrcMath.bitsTo_zero]⟩
      case round =>
        obtain ⟨j, hj, rfl, rfl⟩ := hrel
        by_cases hlt2 : j < 8
        · have hb := bW_bit p[k] j
          cases hbb : (bW p[k]).getLsbD j
          · rw [hbb] at hb
            have HB := Lib.hid hbb
            clear hbb
            go_wp2_with (go_at_call 85; (with_reducible refine (double_calls _ _).mono ?_); rintro e w' ⟨rfl, rfl⟩)
            go_round
            case rel => exact ⟨j + 1, by omega, by go_num, by rw [CrcMath.bitsTo_next, HB.out]; simp⟩
            case measure => simp [intOf]; omega
          · rw [hbb, if_pos rfl] at hb
            have HB := Lib.hid hbb
            have hx := bits_xor_lit (CrcMath.bitsTo r0 (bW p[k]) j) 2147483648
            clear hbb
            go_wp2_with (go_at_call 85; (with_reducible refine (double_calls _ _).mono ?_); rintro e w' ⟨rfl, rfl⟩)
            go_round
            case rel => exact ⟨j + 1, by omega, by go_num, by rw [CrcMath.bitsTo_next, HB.out]; rfl⟩
            case measure => simp [intOf]; omega
        · have hj8 : j = 8 := by omega
          have HJ := Lib.hid hj8
          clear hj8
          go_wp2
          go_round
          case rel => exact ⟨k + 1, by omega, by go_num, by rw [HS.out, HJ.out]⟩
          case measure => simp [intOf]; omega
    · obtain rfl : k = p.length := by omega
      go_wp2_with (go_at_call 84; (with_reducible refine (turned_calls _ _).mono ?_); rintro e w' ⟨rfl, rfl⟩)
      go_ret
      exact ⟨ret_int (by rw [List.take_of_length_le (by simp)]), rfl⟩

theorem refsum_calls (A : Option Addr) (p : List UInt8) (cap : Nat) (w : World) (hp : RB w A cap p) :
    Calls Try.prog 54 #[.slice A p.length cap] w fun e w' => e = .returned (.int .u32 (uI (CrcMath.sum (p.map bW)))) ∧ w = w' := by
  have h := refupdate_calls 0 A p cap w hp
  rw [show uI 0 = 0 from rfl] at h
  have H := Lib.hid h
  clear h
  go_enter Try.func54, Try.ntmps54
  go_wp2_with (go_at_call 80; (with_reducible refine (H.out).mono ?_); rintro e w' ⟨rfl, rfl⟩)
  go_ret
  exact ⟨rfl, rfl⟩


theorem refupdateR (c : W) (A : Option Addr) (p : List UInt8) (n cap : Nat) (w : World) (hp : RB w A cap p) (hn : n = p.length) (r : W) (hr : CrcMath.upd c (p.map bW) = r) :
    Calls Try.prog 80 #[.int .u32 (uI c), .slice A n cap] w fun e w' => e = .returned (.int .u32 (uI r)) ∧ w = w' := by
  subst hn; subst hr; exact refupdate_calls c A p cap w hp
theorem refsumR (A : Option Addr) (p : List UInt8) (n cap : Nat) (w : World) (hp : RB w A cap p) (hn : n = p.length) (r : W) (hr : CrcMath.sum (p.map bW) = r) :
    Calls Try.prog 54 #[.slice A n cap] w fun e w' => e = .returned (.int .u32 (uI r)) ∧ w = w' := by
  subst hn; subst hr; exact refsum_calls A p cap w hp
end Go.Proofs.Ytlcbjjgmkllceaa

/- What the laws of layer 7 share: made, same, awake. -/
namespace Go.Proofs.Ytlcbjjgmkllceaa
open Go.RowKit
open WireMath (wideL)
open FrameMath (head crcP laid)

theorem made_calls (place : Nat) (hpl : place ≤ 18446744073709551615) (A : Option Addr) (p : List UInt8) (n c : Nat) (w : World) (hp : RB w A c p) (hn : n = p.length) (hl : p.length ≤ 140737488355328) :
    Calls Try.prog 8 #[.int .u64 place, .slice A n c] w fun e w' => ∃ A' c', e = .returned (.tuple #[.slice A' (encF place p).1.length c', .int .i64 (encF place p).2]) ∧ NewB w w' (.slice A' (encF place p).1.length c') (encF place p).1 := by
  subst hn
  have hcall := fun w' (h : Below w.heap.size w w') => encode_calls place hpl A p p.length c w' (hp.new h) rfl hl
  generalize encF place p = r at *
  have HC := Lib.hid hcall
  clear hcall
  go_enter Try.func8, Try.ntmps8
  go_wp2_with (go_at_call 22; (with_reducible refine (HC.out _ (Below.refl _ _)).mono ?_); rintro e w2 ⟨A2, c2, rfl, hn2⟩)
  go_ret2
  exact ⟨A2, c2, rfl, hn2⟩
theorem fsame_calls (a b : Nat) (A B : Option Addr) (p q : List UInt8) (n m c d : Nat) (w : World) (hp : RB w A c p) (hq : RB w B d q) (hn : n = p.length) (hm : m = q.length) (r : Bool) (hr : (decide (a = b) && (p == q)) = r) :
    Calls Try.prog 19 #[.agg #[.int .u64 a, .slice A n c], .int .u64 b, .slice B m d] w fun e w' => e = .returned (.bool r) ∧ Below w.heap.size w w' := by
  subst hn; subst hm
  have HF := Lib.hid (below_alloc1 (Below.refl w.heap.size w) (Nat.le_refl _) (.cells #[.int .u64 a, .slice A p.length c] 43))
  by_cases hab : a = b
  · have hb : ((a : Int) == (b : Int)) = true := by rw [hab]; simp
    have HR := Lib.hid (show (p == q) = r by rw [← hr, hab]; simp)
    clear hr hab
    go_enter Try.func19, Try.ntmps19
    go_wp2_with (go_at_call 9; (with_reducible refine (sameR A B p q p.length q.length c d _ (hp.new HF.out) (hq.new HF.out) rfl rfl r HR.out).mono ?_); rintro e w2 ⟨rfl, hd⟩)
    go_ret
    exact ⟨rfl, HF.out.trans (hd.below _)⟩
  · have hb : ((a : Int) == (b : Int)) = false := by rw [beq_eq_false_iff_ne]; omega
    have HR := Lib.hid (show false = r by rw [← hr]; simp [hab])
    clear hr hab
    go_enter Try.func19, Try.ntmps19
    go_wp2
    go_ret
    exact ⟨ret_bool HR.out, HF.out⟩
/-- a frame that can be made -/
theorem made_ok (place : Nat) (V : Int) (hV : V = place) (hpl : place ≤ 18446744073709551615) (A : Option Addr) (p L : List UInt8) (n N c : Nat) (w : World) (hp : RB w A c p) (hn : n = p.length) (h1 : 1 ≤ p.length) (h2 : p.length ≤ 65535) (hN : N = p.length + 18) (hL : laid place p = L) :
    Calls Try.prog 8 #[.int .u64 V, .slice A n c] w fun e w' => ∃ A' c', e = .returned (.tuple #[.slice A' N c', .int .i64 0]) ∧ NewB w w' (.slice A' N c') L := by
  subst hV; subst hL
  have hE : encF place p = (laid place p, 0) := by unfold encF; rw [if_neg (by omega), if_neg (by omega)]
  have := made_calls place hpl A p n c w hp hn (by omega)
  rw [hE] at this
  simp only [FrameMath.laid_length] at this
  rw [hN]
  exact this
theorem nextN (A : Option Addr) (P : List UInt8) (n c : Nat) (at_ : Int) (hat : -9223372036854775808 ≤ at_ ∧ at_ ≤ 9223372036854775807) (w : World) (hp : RB w A c P) (hn : n = P.length) (hl : P.length ≤ 281474976710656) (k pl m : Nat) (K Pl nx : Int) (pay : List UInt8) (hx : nextF P at_ = ⟨k, pl, pay, nx⟩) (hK : K = k) (hPl : Pl = pl) (hm : m = pay.length) :
    Calls Try.prog 18 #[.slice A n c, .int .i64 at_] w fun e w' => ∃ A' c', e = .returned (.tuple #[.agg #[.int .u64 Pl, .slice A' m c'], .int .i64 nx, .int .i64 K]) ∧ NewB w w' (.slice A' m c') pay := by
  subst hK; subst hPl; subst hm
  have := next_calls A P n c at_ hat w hp hn hl
  rw [hx] at this
  exact this
theorem fsameN (a b : Nat) (U V : Int) (A B : Option Addr) (p q : List UInt8) (n m c d : Nat) (w : World) (hp : RB w A c p) (hq : RB w B d q) (hn : n = p.length) (hm : m = q.length) (r : Bool) (hr : (decide (a = b) && (p == q)) = r) (hU : U = a) (hV : V = b) :
    Calls Try.prog 19 #[.agg #[.int .u64 U, .slice A n c], .int .u64 V, .slice B m d] w fun e w' => e = .returned (.bool r) ∧ Below w.heap.size w w' := by
  subst hU; subst hV; exact fsame_calls a b A B p q n m c d w hp hq hn hm r hr
theorem addr0 (a : Addr) : a.add 0 = a := by cases a; simp [Addr.add]
theorem RB.pick {w : World} {a : Addr} {c : Nat} {p : List UInt8} (h : RB w (some a) c p) (i : Nat) (v : UInt8) (hv : p[i]? = some v) : w.cell? (a.add i) = some (.int .u8 (uB v)) := by
  obtain ⟨hi, e⟩ := List.getElem?_eq_some_iff.1 hv
  obtain ⟨a', e', hc⟩ := h.at_ i hi
  obtain rfl := Option.some.inj e'
  rw [hc, e]
theorem RB.pickN {w : World} {a : Addr} {c : Nat} {p : List UInt8} (h : RB w (some a) c p) (i : Nat) (hi : 0 < i) (v : UInt8) (hv : p[i]? = some v) : w.cell? ⟨a.block, a.off + i, none⟩ = some (.int .u8 (uB v)) := by
  rw [← h.pick i v hv]
  congr 1
  unfold Addr.add
  split
  · omega
  · rfl
theorem alloc_size (w : World) (o : Obj) : (w.alloc o).heap.size = w.heap.size + 1 := Array.size_push ..
theorem RB.litAt (w : World) (e : TypeId) (C : Array Value) (p : List UInt8) (h : C = (encB p).toArray) (n : Nat) (hn : n = p.length) (hs : p.length ≤ 1000) (k : Nat) (hk : w.heap.size = k) : RB (w.alloc (.cells C e (0, 0))) (some ⟨k, 0, none⟩) n p := by
  subst hk; exact RB.lit w e (0, 0) C p h n hn hs
set_option maxRecDepth 100000 in
theorem fawake_calls (w : World) : Calls Try.prog 5 #[] w fun e w' => e = .returned (.bool true) ∧ Below w.heap.size w w' := by
  have h7 := Lib.hid (show (7 : Int) = ((7 : Nat) : Int) from rfl)
  have hk := Lib.hid (show (1 : Int) = ((1 : Nat) : Int) from rfl)
  have HL := Lib.hid (show (19 : Nat) = (laid 7 [9]).length by rw [FrameMath.laid_length]; rfl)
  have hs : (laid 7 [9]).length ≤ 140737488355328 := by rw [FrameMath.laid_length]; decide
  have HX := Lib.hid (show nextF (laid 7 [9]) 0 = ⟨1, 7, [9], 19⟩ by have := next_laid 7 [9] [] (by decide) (by decide) (by decide); rw [List.append_nil] at this; exact this)
  have b0 : (laid 7 [9])[0]? = some 0xf5 := rfl
  have b4 : (laid 7 [9])[4]? = some 1 := rfl
  have b12 : (laid 7 [9])[12]? = some 7 := rfl
  have b17 : (laid 7 [9])[17]? = some 9 := rfl
  have b18 : (laid 7 [9])[18]? = some 0x5f := rfl
  generalize hL : laid 7 [9] = L at *
  have HLD := Lib.hid hL
  have HB := Lib.hid b0
  have HB4 := Lib.hid b4
  have HB12 := Lib.hid b12
  have HB17 := Lib.hid b17
  have HB18 := Lib.hid b18
  have HS := Lib.hid hs
  clear hL b0 b4 b12 b17 b18 hs
  have e0 : uB 0xf5 = 245 := rfl
  have e4 : uB 1 = 1 := rfl
  have e12 : uB 7 = 7 := rfl
  have e17 : uB 9 = 9 := rfl
  have e18 : uB 0x5f = 95 := rfl
  have hlit := Lib.hid (fun (w : World) (e : TypeId) => RB.lit w e (0, 0) #[.int .u8 9] [9] rfl 1 rfl (by decide))
  go_enter Try.func5, Try.ntmps5
  go_wp2_with (first
    | (go_at_call 8; go_loud (with_reducible refine (made_ok 7 7 h7.out (by decide) _ [9] L 1 19 1 _ (hlit.out _ _) (by decide) (by decide) (by decide) (by decide) HLD.out).mono ?_); rintro e1 w1 ⟨A1, c1, rfl, hn1⟩; have hr1 := hn1.own.rb; obtain ⟨a1, rfl, hc0⟩ := hr1.at_ 0 (by rw [← HL.out]; decide); clear hc0; have p0 := hr1.pick 0 _ HB.out; have p4 := hr1.pickN 4 (by decide) _ HB4.out; have p12 := hr1.pickN 12 (by decide) _ HB12.out; have p17 := hr1.pickN 17 (by decide) _ HB17.out; have p18 := hr1.pickN 18 (by decide) _ HB18.out; rw [e0, addr0] at p0; rw [e4] at p4; rw [e12] at p12; rw [e17] at p17; rw [e18] at p18)
    | (go_at_call 18; go_loud (with_reducible refine (nextN (some a1) L 19 c1 0 (by decide) _ hr1 HL.out (Nat.le_trans HS.out (by decide)) 1 7 1 1 7 19 [9] HX.out hk.out h7.out (by decide)).mono ?_); rintro e2 w2 ⟨A2, c2, rfl, hn2⟩)
    | (go_at_call 19; go_loud (with_reducible refine (fsameN 7 7 7 7 A2 _ [9] [9] 1 1 c2 1 _ ((hn2.own.rb.alloc _).alloc _) (RB.litAt (w2.alloc (.cells #[.int .u64 7, .slice A2 1 c2] 43)) 5 #[.int .u8 9] [9] rfl 1 (by decide) (by decide) (w2.heap.size + 1) (alloc_size _ _)) (by decide) (by decide) true (by decide) h7.out h7.out).mono ?_); rintro e3 w3 ⟨rfl, hb3⟩))
  go_ret
  have B1 := below_then (below_alloc1 (Below.refl w.heap.size w) (Nat.le_refl _) (.cells #[.int .u8 9] 5)) hn1.below
  have B2 := below_then B1 hn2.below
  have B3 := B2.alloc B2.size (.cells #[.int .u64 7, .slice A2 1 c2] 43)
  exact ⟨rfl, below_then (B3.alloc B3.size _) hb3⟩
end Go.Proofs.Ytlcbjjgmkllceaa

/- The reference of layer 7: Laid, DocEncode. -/
namespace Go.Proofs.Ytlcbjjgmkllceaa
open Go.RowKit
open WireMath (wideL)
open FrameMath (head crcP laid)

set_option maxRecDepth 100000 in
theorem reflaid_calls (place : Nat) (V : Int) (hV : V = place) (hpl : place ≤ 18446744073709551615) (A : Option Addr) (p : List UInt8) (n c : Nat) (w : World) (hp : RB w A c p) (hn : n = p.length) (hl : p.length ≤ 65535) :
    Calls Try.prog 21 #[.int .u64 V, .slice A n c] w fun e w' => ∃ A' c', e = .returned (.slice A' (n + 18) c') ∧ NewB w w' (.slice A' (n + 18) c') (laid place p) := by
  subst hn; subst hV
  have h4 := Lib.hid (show (4 : Int) = ((4 : Nat) : Int) from rfl)
  have h8 := Lib.hid (show (8 : Int) = ((8 : Nat) : Int) from rfl)
  have hhl := FrameMath.head_length place p
  have HH := Lib.hid (show wideL p.length 4 ++ wideL place 8 = head place p from rfl)
  have hsum : CrcMath.sum ((head place p ++ p).map bW) = crcP place p := by
    rw [map_bW_append]
    unfold CrcMath.sum
    rw [CrcMath.upd_append]
    rfl
  have hld : laid place p = ([0xf5] ++ head place p) ++ (wideL (crcP place p).toNat 4 ++ (p ++ [0x5f])) := by simp [FrameMath.laid]
  generalize head place p = hd at *
  generalize crcP place p = cr at *
  generalize laid place p = ld at *
  have HU : Hid (uI cr = ((cr.toNat : Nat) : Int)) := Lib.hid rfl
  have hcr : cr.toNat ≤ 18446744073709551615 := by have := cr.isLt; omega
  have hwr : IntKind.u64.wrap (uI cr) = uI cr := IntWalk.u64_in _ (by unfold uI; omega)
  have HW4 := Lib.hid (WireMath.wideL_length p.length 4)
  have HW8 := Lib.hid (WireMath.wideL_length place 8)
  have HWC := Lib.hid (WireMath.wideL_length cr.toNat 4)
  have HHL := Lib.hid hhl
  have HS := Lib.hid hsum
  have HLD := Lib.hid hld
  clear hhl hsum hld
  go_enter Try.func21, Try.ntmps21
  go_wp2_with (first
    | (go_at_call 53; (with_reducible refine (refwide_calls p.length 4 _ 4 rfl h4.out _ (by omega) (by omega)).mono ?_); rintro e1 w1 ⟨A1, c1, rfl, hn1⟩)
    | (go_at_call 53; (with_reducible refine (refwide_calls place 8 _ 8 rfl h8.out _ (by omega) (by omega)).mono ?_); rintro e2 w2 ⟨A2, c2, rfl, hn2⟩)
    | (go_at_call 43; (with_reducible refine (joinN A1 A2 (wideL p.length 4) (wideL place 8) hd 4 8 12 c1 c2 _ (hn1.own.rb.new hn2.below) hn2.own.rb HW4.out.symm HW8.out.symm (by rw [HW4.out, HW8.out]) HH.out (by rw [HW4.out, HW8.out]; decide)).mono ?_); rintro e3 w3 ⟨A3, c3, rfl, hn3⟩; have B3 := Lib.hid (below_then (below_then hn1.below hn2.below) hn3.below))
    | (go_at_call 43; (with_reducible refine (joinN A3 A hd p (hd ++ p) 12 p.length (12 + p.length) c3 c _ hn3.own.rb (hp.new B3.out) HHL.out.symm rfl (by rw [HHL.out]) rfl (by rw [HHL.out]; omega)).mono ?_); rintro e4 w4 ⟨A4, c4, rfl, hn4⟩)
    | (go_at_call 54; (with_reducible refine (refsumR A4 (hd ++ p) (12 + p.length) c4 _ hn4.own.rb (by rw [List.length_append, HHL.out]) cr HS.out).mono ?_); rintro e5 w5 ⟨rfl, rfl⟩)
    | (go_at_call 53; (with_reducible refine (refwide_calls cr.toNat 4 (uI cr) 4 HU.out h4.out _ hcr (by omega)).mono ?_); rintro e6 w6 ⟨A6, c6, rfl, hn6⟩; have B46 := Lib.hid (below_then hn4.below hn6.below))
    | (go_at_call 43; (with_reducible refine (joinN _ A3 [0xf5] hd ([0xf5] ++ hd) 1 12 13 1 c3 (w6.alloc (.cells #[.int .u8 245] 5)) (RB.litAt w6 5 #[.int .u8 245] [0xf5] rfl 1 (by decide) (by decide) w6.heap.size rfl) (hn3.own.rb.new (B46.out.alloc B46.out.size _)) (by decide) HHL.out.symm (by rw [HHL.out]; decide) rfl (by rw [HHL.out]; decide)).mono ?_); rintro e7 w7 ⟨A7, c7, rfl, hn7⟩; have B7 := Lib.hid (below_then ((below_then B3.out B46.out).alloc (below_then B3.out B46.out).size _) hn7.below))
    | (go_at_call 43; (with_reducible refine (joinN A _ p [0x5f] (p ++ [0x5f]) p.length 1 (p.length + 1) c 1 (w7.alloc (.cells #[.int .u8 95] 5)) (hp.new (B7.out.alloc B7.out.size _)) (RB.litAt w7 5 #[.int .u8 95] [0x5f] rfl 1 (by decide) (by decide) w7.heap.size rfl) rfl (by decide) (by simp) rfl (by simp; omega)).mono ?_); rintro e8 w8 ⟨A8, c8, rfl, hn8⟩)
    | (go_at_call 43; (with_reducible refine (joinN A6 A8 (wideL cr.toNat 4) (p ++ [0x5f]) (wideL cr.toNat 4 ++ (p ++ [0x5f])) 4 (p.length + 1) (4 + (p.length + 1)) c6 c8 _ (hn6.own.rb.new (below_then ((below_then ((Below.refl w6.heap.size w6).alloc (Nat.le_refl _) _) hn7.below).alloc (below_then ((Below.refl w6.heap.size w6).alloc (Nat.le_refl _) _) hn7.below).size _) hn8.below)) hn8.own.rb HWC.out.symm (by simp) (by rw [HWC.out]; simp) rfl (by rw [HWC.out]; simp; omega)).mono ?_); rintro e9 w9 ⟨A9, c9, rfl, hn9⟩)
    | (go_at_call 43; (with_reducible refine (joinN A7 A9 ([0xf5] ++ hd) (wideL cr.toNat 4 ++ (p ++ [0x5f])) ld 13 (4 + (p.length + 1)) (p.length + 18) c7 c9 _ (hn7.own.rb.new (below_then (below_then ((Below.refl w7.heap.size w7).alloc (Nat.le_refl _) _) hn8.below) hn9.below)) hn9.own.rb (by rw [List.length_append, HHL.out]; decide) (by rw [List.length_append, HWC.out]; simp) (by rw [List.length_append, HHL.out, List.length_append, HWC.out]; simp; omega) HLD.out.symm (by rw [List.length_append, HHL.out, List.length_append, HWC.out]; simp; omega)).mono ?_); rintro e10 w10 ⟨A10, c10, rfl, hn10⟩))
  go_ret
  have B9 := below_then (below_then (B7.out.alloc B7.out.size (.cells #[.int .u8 95] 5)) hn8.below) hn9.below
  exact ⟨A10, c10, rfl, hn10.own.mono B9.size, below_then B9 hn10.below⟩

set_option maxRecDepth 100000 in
theorem docEncode_calls (place : Nat) (hpl : place ≤ 18446744073709551615) (A : Option Addr) (p : List UInt8) (n c : Nat) (w : World) (hp : RB w A c p) (hn : n = p.length) (hl : p.length ≤ 140737488355328) :
    Calls Try.prog 7 #[.int .u64 place, .slice A n c] w fun e w' => ∃ A' c', e = .returned (.tuple #[.slice A' (encF place p).1.length c', .int .i64 (encF place p).2]) ∧ NewB w w' (.slice A' (encF place p).1.length c') (encF place p).1 := by
  subst hn
  by_cases h1 : 65535 < p.length
  · have hE : encF place p = ([], 2) := by unfold encF; rw [if_pos h1]
    rw [hE]
    clear hE
    go_enter Try.func7, Try.ntmps7
    go_wp2
    go_ret2
    exact ⟨none, 0, rfl, OB.nil _ _ _, Below.refl _ _⟩
  · by_cases h2 : p.length = 0
    · have hE : encF place p = ([], 3) := by unfold encF; rw [if_neg h1, if_pos h2]
      rw [hE]
      have h2' : ((p.length : Int) == 0) = true := by rw [h2]; rfl
      clear hE h2
      go_enter Try.func7, Try.ntmps7
      go_wp2
      go_ret2
      exact ⟨none, 0, rfl, OB.nil _ _ _, Below.refl _ _⟩
    · have hE : encF place p = (laid place p, 0) := by unfold encF; rw [if_neg h1, if_neg h2]
      rw [hE]
      have h2' : ((p.length : Int) == 0) = false := by rw [beq_eq_false_iff_ne]; omega
      have HL := Lib.hid (FrameMath.laid_length place p)
      clear hE h2
      go_enter Try.func7, Try.ntmps7
      go_wp2_with (go_at_call 21; (with_reducible refine (reflaid_calls place _ rfl hpl A p p.length c _ hp rfl (by omega)).mono ?_); rintro e w2 ⟨A2, c2, rfl, hn2⟩)
      go_ret2
      refine ⟨A2, c2, by rw [HL.out]; rfl, ?_⟩
      have ho := hn2.own
      rw [← HL.out] at ho
      exact ⟨ho, hn2.below⟩
end Go.Proofs.Ytlcbjjgmkllceaa

/- The walk of the document's DocNext. Printed by wip/docnext.py. -/
namespace Go.Proofs.Ytlcbjjgmkllceaa
open Go.RowKit
open WireMath (wideL numS beN rawS)
open FrameMath (head crcP laid)

theorem takeWideN (A : Option Addr) (P : List UInt8) (c at_ e k : Nat) (T E N : Int) (hT : T = at_) (hE : E = e) (hN : N = k) (w : World) (hp : RB w A c P) (hl : P.length ≤ 9223372036854775807) (hat : at_ ≤ P.length) (hk : k ≤ 8) (v a2 e2 : Nat) (hr : numS P at_ e k = (v, a2, e2)) (V A2 E2 : Int) (hV : V = v) (hA : A2 = a2) (hE2 : E2 = e2) :
    Calls Try.prog 55 #[.agg #[.slice A P.length c, .int .i64 T, .int .i64 E], .int .i64 N] w fun e' w' => e' = .returned (.tuple #[.int .u64 V, .agg #[.slice A P.length c, .int .i64 A2, .int .i64 E2]]) ∧ Below w.heap.size w w' := by
  subst hV; subst hA; subst hE2
  have := takeWide_calls A P c at_ e k N E T hN hE hT w hp hl hat hk
  rw [hr] at this
  exact this
theorem takeRawN (A : Option Addr) (P : List UInt8) (c at_ : Nat) (T : Int) (hT : T = at_) (n : Int) (w : World) (hp : RB w A c P) (hl : P.length ≤ 140737488355328) (hat : at_ ≤ P.length) (hn : n ≤ 9223372036854775807) (q : List UInt8) (a2 e2 : Nat) (hr : rawS P at_ 0 n = (q, a2, e2)) (N : Nat) (A2 E2 : Int) (hN : N = q.length) (hA : A2 = a2) (hE2 : E2 = e2) :
    Calls Try.prog 56 #[.agg #[.slice A P.length c, .int .i64 T, .int .i64 0], .int .i64 n] w fun e' w' => ∃ A' c', e' = .returned (.tuple #[.slice A' N c', .agg #[.slice A P.length c, .int .i64 A2, .int .i64 E2]]) ∧ NewB w w' (.slice A' N c') q := by
  subst hN; subst hA; subst hE2
  have := takeRaw_calls A P c at_ 0 n 0 T rfl hT w hp hl hat hn
  rw [hr] at this
  exact this
theorem results_dn {fn : Func} {p u v : Tmp} (h : fn.results = #[.cell p 61, .tmp u, .tmp v]) (tmps : Array Value) (w : World) (b : Nat) (x y : Value) (hp : tmps.getD p undef = .pointer (some ⟨b, 0, none⟩)) (ht : Pair w b x y) :
    (results fn tmps).run Try.prog w = .ok (.tuple #[.agg #[x, y], tmps.getD u undef, tmps.getD v undef]) w := by
  have hp' : tmps[p]?.getD undef = .pointer (some ⟨b, 0, none⟩) := by simpa using hp
  have hl := run_loadVar_mid (P := Try.prog) w b 0 61 [x, y] _ (fun j v hj => by
    match j, hj with
    | 0, hj => simp at hj; subst hj; simpa using ht.c0
    | 1, hj => simp at hj; subst hj; simpa using ht.c1
    | j + 2, hj => simp at hj) Try.underlying61 rfl (by kernel_rfl)
  simp [results, h, hp', asAddr, hl]
/-- a fault stays, and the place never passes the end -/
theorem num_next (P : List UInt8) (at_ e k : Nat) (h : at_ ≤ P.length) : (numS P at_ e k).2.1 ≤ P.length ∧ ((numS P at_ e k).2.2 = 0 → e = 0 ∧ at_ + k ≤ P.length ∧ (numS P at_ e k).2.1 = at_ + k) := by
  unfold WireMath.numS
  by_cases he : e = 0
  · rw [if_neg (by omega)]
    by_cases hs : P.length - at_ < k
    · rw [if_pos hs]; exact ⟨h, fun h => absurd h (by simp)⟩
    · rw [if_neg hs]; exact ⟨by show at_ + k ≤ _; omega, fun _ => ⟨he, by omega, rfl⟩⟩
  · rw [if_pos he]; exact ⟨h, fun h2 => absurd h2 he⟩
theorem num_ok (P : List UInt8) (at_ k : Nat) (h : at_ + k ≤ P.length) : numS P at_ 0 k = (beN ((P.drop at_).take k), at_ + k, 0) := by
  unfold WireMath.numS; rw [if_neg (by simp), if_neg (by omega)]
theorem num_bad (P : List UInt8) (at_ e k : Nat) (h : e ≠ 0) : numS P at_ e k = (0, at_, e) := by
  unfold WireMath.numS; rw [if_pos h]
theorem num_short (P : List UInt8) (at_ k : Nat) (h : P.length < at_ + k) (h2 : at_ ≤ P.length) : numS P at_ 0 k = (0, at_, 3) := by
  unfold WireMath.numS; rw [if_neg (by simp), if_pos (by omega)]

theorem Pair.drewN {w : World} {b : Nat} {u v : Value} (h : Pair w b u v) (n : Nat) : Pair (w.drewN n) b u v := h.new (Drawn.below ⟨n, rfl⟩ _)
theorem below_drewN {B : Nat} {w w' : World} (h : Below B w w') (n : Nat) : Below B w (w'.drewN n) := h.trans (Drawn.below ⟨n, rfl⟩ _)
set_option maxHeartbeats 2000000 in
set_option maxRecDepth 100000 in
theorem docNext_calls (A : Option Addr) (P : List UInt8) (n c : Nat) (at_ : Int) (hat : -9223372036854775808 ≤ at_ ∧ at_ ≤ 9223372036854775807) (w : World) (hp : RB w A c P) (hn : n = P.length) (hl : P.length ≤ 140737488355328) :
    Calls Try.prog 28 #[.slice A n c, .int .i64 at_] w fun e w' => ∃ A' c', e = .returned (.tuple #[.agg #[.int .u64 (nextF P at_).place, .slice A' (nextF P at_).payload.length c'], .int .i64 (nextF P at_).next, .int .i64 (nextF P at_).kind]) ∧ NewB w w' (.slice A' (nextF P at_).payload.length c') (nextF P at_).payload := by
  subst hn
  have hA := below_alloc1 (Below.refl w.heap.size w) (Nat.le_refl _) (.cells #[.int .u64 0, .slice none 0 0] 61)
  have hPr := Pair.fresh w (.int .u64 0) (.slice none 0 0) 61
  by_cases h1 : at_ = P.length
  · have hN : nextF P at_ = noNx 0 at_ := by unfold nextF; rw [if_pos h1]
    rw [hN]
    have h1b : (at_ == (P.length : Int)) = true := by rw [beq_iff_eq]; exact h1
    have HPr := Lib.hid hPr
    have HA := Lib.hid hA
    clear hN h1 hPr hA
    go_enter Try.func28, Try.ntmps28
    go_wp2
    exact bodyPost_ret (results_dn rfl _ _ w.heap.size _ _ rfl HPr.out) rfl ⟨none, 0, rfl, OB.nil _ _ _, HA.out⟩
  · have h1b : (at_ == (P.length : Int)) = false := by rw [beq_eq_false_iff_ne]; exact h1
    by_cases h2 : at_ < 0 ∨ (P.length : Int) < at_
    · have hN : nextF P at_ = noNx 2 at_ := by unfold nextF; rw [if_neg h1, if_pos (by omega)]
      rw [hN]
      have HPr := Lib.hid hPr
      have HA := Lib.hid hA
      clear hN h1 hPr hA
      rcases (by omega : at_ < 0 ∨ (¬ at_ < 0 ∧ (P.length : Int) < at_)) with h3 | ⟨h3, h4⟩
      all_goals
        clear h2
        go_enter Try.func28, Try.ntmps28
        go_wp2
        exact bodyPost_ret (results_dn rfl _ _ w.heap.size _ _ rfl HPr.out) rfl ⟨none, 0, rfl, OB.nil _ _ _, HA.out⟩
    · obtain ⟨a, rfl⟩ := Int.eq_ofNat_of_zero_le (by omega : 0 ≤ at_)
      have hle0 : a ≤ P.length := by omega
      have b1 : ¬ (a : Int) < 0 := by omega
      have b2 : ¬ P.length < a := by omega
      have hl2 : P.length ≤ 9223372036854775807 := by omega
      have BB0 := Lib.hid (hA.alloc hA.size (.cells #[.slice A P.length c, .int .i64 a, .int .i64 0] 86))
      have U0 := Trio.fresh (w.alloc (.cells #[.int .u64 0, .slice none 0 0] 61)) (w.heap.size + 1) (asz _ _) (.slice A P.length c) (.int .i64 a) (.int .i64 0) 86
      have Q0 := hPr.new (below_alloc1 (Below.refl _ _) (Nat.le_refl _) (.cells #[.slice A P.length c, .int .i64 a, .int .i64 0] 86))
      have hne : w.heap.size ≠ w.heap.size + 1 := by omega
      have hlo : ∀ k, k = w.heap.size + 1 → w.heap.size ≤ k := fun k hk => by omega
      have h0 := Lib.hid (show (0 : Int) = ((0 : Nat) : Int) from rfl)
      have h3 := Lib.hid (show (3 : Int) = ((3 : Nat) : Int) from rfl)
      clear hA hPr h2
      by_cases h17 : P.length < a + 17
      · have hN : nextF P a = noNx 2 a := by unfold nextF; rw [if_neg h1, if_pos (by omega)]
        rw [hN]
        obtain ⟨n1, m1⟩ := num_next P a 0 1 hle0
        rcases e1 : numS P a 0 1 with ⟨x1, a1, v1⟩
        rw [e1] at n1 m1
        obtain ⟨n2, m2⟩ := num_next P a1 v1 4 n1
        rcases e2 : numS P a1 v1 4 with ⟨x2, a2, v2⟩
        rw [e2] at n2 m2
        obtain ⟨n3, m3⟩ := num_next P a2 v2 8 n2
        rcases e3 : numS P a2 v2 8 with ⟨x3, a3, v3⟩
        rw [e3] at n3 m3
        obtain ⟨n4, m4⟩ := num_next P a3 v3 4 n3
        rcases e4 : numS P a3 v3 4 with ⟨x4, a4, v4⟩
        rw [e4] at n4 m4
        simp only at n1 m1 n2 m2 n3 m3 n4 m4
        have hf4 : v4 ≠ 0 := by
          intro h
          obtain ⟨h3, h4, h5⟩ := m4 h
          obtain ⟨h6, h7, h8⟩ := m3 h3
          obtain ⟨h9, h10, h11⟩ := m2 h6
          obtain ⟨_, h13, h14⟩ := m1 h9
          omega
        have hb4 : ((v4 : Int) != 0) = true := by rw [bne_iff_ne]; omega
        have hle1 := n1
        have hle2 := n2
        have hle3 := n3
        have E1 := Lib.hid e1
        have E2 := Lib.hid e2
        have E3 := Lib.hid e3
        have E4 := Lib.hid e4
        clear hN h1 m1 m2 m3 m4 e1 e2 e3 e4 hf4 n1 n2 n3 n4 h17
        go_enter Try.func28, Try.ntmps28
        go_wp2_with (first
          | (go_at_call 55; go_loud ((with_reducible refine (takeWideN A P c a 0 1 a 0 1 rfl h0.out rfl _ (hp.new BB0.out) hl2 hle0 (by decide) _ _ _ E1.out _ a1 v1 rfl rfl rfl).mono ?_); rintro e1 w1 ⟨rfl, hb1⟩; have T1 := U0.new hb1; have q1 := Q0.new hb1; have z0 := T1.c0; have z1 := T1.c1; have z2 := T1.c2; have f0 := T1.fz 0; have f1 := T1.fz 1; have f2 := T1.fz 2; have U1 := T1.put (.slice A P.length c) (.int .i64 a1) (.int .i64 v1); have Q1 := ((q1.other hne (j := 0) (x := .slice A P.length c)).other hne (j := 1) (x := .int .i64 a1)).other hne (j := 2) (x := .int .i64 v1); have y0 := q1.c0; have y1 := q1.c1; have g0 := q1.fz 0; have g1 := q1.fz 1; have BB1 := Lib.hid ((below_then BB0.out hb1).trans ((put3_step w1 (w.heap.size + 1) (.slice A P.length c) (.int .i64 a1) (.int .i64 v1)).below (B := w.heap.size) (below_then BB0.out hb1).size hlo))))
          | (go_at_call 55; go_loud ((with_reducible refine (takeWideN A P c a1 v1 4 a1 v1 4 rfl rfl rfl _ (hp.new BB1.out) hl2 hle1 (by decide) _ _ _ E2.out _ a2 v2 rfl rfl rfl).mono ?_); rintro e2 w2 ⟨rfl, hb2⟩; have T2 := U1.new hb2; have q2 := Q1.new hb2; have z0 := T2.c0; have z1 := T2.c1; have z2 := T2.c2; have f0 := T2.fz 0; have f1 := T2.fz 1; have f2 := T2.fz 2; have U2 := T2.put (.slice A P.length c) (.int .i64 a2) (.int .i64 v2); have Q2 := ((q2.other hne (j := 0) (x := .slice A P.length c)).other hne (j := 1) (x := .int .i64 a2)).other hne (j := 2) (x := .int .i64 v2); have y0 := q2.c0; have y1 := q2.c1; have g0 := q2.fz 0; have g1 := q2.fz 1; have BB2 := Lib.hid ((below_then BB1.out hb2).trans ((put3_step w2 (w.heap.size + 1) (.slice A P.length c) (.int .i64 a2) (.int .i64 v2)).below (B := w.heap.size) (below_then BB1.out hb2).size hlo))))
          | (go_at_call 55; go_loud ((with_reducible refine (takeWideN A P c a2 v2 8 a2 v2 8 rfl rfl rfl _ (hp.new BB2.out) hl2 hle2 (by decide) _ _ _ E3.out _ a3 v3 rfl rfl rfl).mono ?_); rintro e3 w3 ⟨rfl, hb3⟩; have T3 := U2.new hb3; have q3 := Q2.new hb3; have z0 := T3.c0; have z1 := T3.c1; have z2 := T3.c2; have f0 := T3.fz 0; have f1 := T3.fz 1; have f2 := T3.fz 2; have U3 := T3.put (.slice A P.length c) (.int .i64 a3) (.int .i64 v3); have Q3 := ((q3.other hne (j := 0) (x := .slice A P.length c)).other hne (j := 1) (x := .int .i64 a3)).other hne (j := 2) (x := .int .i64 v3); have y0 := q3.c0; have y1 := q3.c1; have g0 := q3.fz 0; have g1 := q3.fz 1; have BB3 := Lib.hid ((below_then BB2.out hb3).trans ((put3_step w3 (w.heap.size + 1) (.slice A P.length c) (.int .i64 a3) (.int .i64 v3)).below (B := w.heap.size) (below_then BB2.out hb3).size hlo))))
          | (go_at_call 55; go_loud ((with_reducible refine (takeWideN A P c a3 v3 4 a3 v3 4 rfl rfl rfl _ (hp.new BB3.out) hl2 hle3 (by decide) _ _ _ E4.out _ a4 v4 rfl rfl rfl).mono ?_); rintro e4 w4 ⟨rfl, hb4⟩; have T4 := U3.new hb4; have q4 := Q3.new hb4; have z0 := T4.c0; have z1 := T4.c1; have z2 := T4.c2; have f0 := T4.fz 0; have f1 := T4.fz 1; have f2 := T4.fz 2; have U4 := T4.put (.slice A P.length c) (.int .i64 a4) (.int .i64 v4); have Q4 := ((q4.other hne (j := 0) (x := .slice A P.length c)).other hne (j := 1) (x := .int .i64 a4)).other hne (j := 2) (x := .int .i64 v4); have y0 := q4.c0; have y1 := q4.c1; have g0 := q4.fz 0; have g1 := q4.fz 1; have BB4 := Lib.hid ((below_then BB3.out hb4).trans ((put3_step w4 (w.heap.size + 1) (.slice A P.length c) (.int .i64 a4) (.int .i64 v4)).below (B := w.heap.size) (below_then BB3.out hb4).size hlo)))))
        exact bodyPost_ret (results_dn rfl _ _ w.heap.size _ _ rfl ((Q4.set0 (.int .u64 0)).set1 (.slice none 0 0))) rfl ⟨none, 0, rfl, OB.nil _ _ _, (BB4.out.setCell (Nat.le_refl _) _).setCell (Nat.le_refl _) _⟩
      · have ha : a + 17 ≤ P.length := by omega
        have hN := next_mid P a ha h1
        have e1 := num_ok P a 1 (by omega)
        have e2 : numS P (a + 1) 0 4 = (beN ((P.drop (a + 1)).take 4), a + 5, 0) := num_ok P (a + 1) 4 (by omega)
        have e3 : numS P (a + 5) 0 8 = (beN ((P.drop (a + 5)).take 8), a + 13, 0) := num_ok P (a + 5) 8 (by omega)
        have e4 : numS P (a + 13) 0 4 = (beN ((P.drop (a + 13)).take 4), a + 17, 0) := num_ok P (a + 13) 4 (by omega)
        have hm := beN4 ((P.drop (a + 1)).take 4) (by simp; omega)
        have hpl := beN8 ((P.drop (a + 5)).take 8) (by simp; omega)
        generalize beN ((P.drop (a + 1)).take 4) = m at *
        generalize beN ((P.drop (a + 5)).take 8) = place at *
        have E1 := Lib.hid e1
        have E2 := Lib.hid e2
        have E3 := Lib.hid e3
        have E4 := Lib.hid e4
        have hle1 : a + 1 ≤ P.length := by omega
        have hle2 : a + 5 ≤ P.length := by omega
        have hle3 : a + 13 ≤ P.length := by omega
        have HA1 := Lib.hid (show (a : Int) + 1 = ((a + 1 : Nat) : Int) from rfl)
        have HA5 := Lib.hid (show (a : Int) + 5 = ((a + 5 : Nat) : Int) from rfl)
        have HA13 := Lib.hid (show (a : Int) + 13 = ((a + 13 : Nat) : Int) from rfl)
        have HA17 := Lib.hid (show (a : Int) + 17 = ((a + 17 : Nat) : Int) from rfl)
        clear e1 e2 e3 e4 h17
        by_cases hmb : m < 1 ∨ 65535 < m
        · have hN2 : nextF P a = noNx 2 a := by rw [hN]; simp only; rw [if_pos (by omega)]
          rw [hN2]
          clear hN hN2 h1
          rcases (by omega : m = 0 ∨ (m ≠ 0 ∧ 65535 < m)) with hm0 | ⟨hm0, hm1⟩
          · have bm : ((m : Int) == 0) = true := by rw [beq_iff_eq]; omega
            clear hmb hm0
            go_enter Try.func28, Try.ntmps28
            go_wp2_with (first
              | (go_at_call 55; go_loud ((with_reducible refine (takeWideN A P c a 0 1 a 0 1 rfl h0.out rfl _ (hp.new BB0.out) hl2 hle0 (by decide) _ _ _ E1.out _ ((a : Int) + 1) 0 rfl HA1.out h0.out).mono ?_); rintro e1 w1 ⟨rfl, hb1⟩; have T1 := U0.new hb1; have q1 := Q0.new hb1; have z0 := T1.c0; have z1 := T1.c1; have z2 := T1.c2; have f0 := T1.fz 0; have f1 := T1.fz 1; have f2 := T1.fz 2; have U1 := T1.put (.slice A P.length c) (.int .i64 ((a : Int) + 1)) (.int .i64 0); have Q1 := ((q1.other hne (j := 0) (x := .slice A P.length c)).other hne (j := 1) (x := .int .i64 ((a : Int) + 1))).other hne (j := 2) (x := .int .i64 0); have y0 := q1.c0; have y1 := q1.c1; have g0 := q1.fz 0; have g1 := q1.fz 1; have BB1 := Lib.hid ((below_then BB0.out hb1).trans ((put3_step w1 (w.heap.size + 1) (.slice A P.length c) (.int .i64 ((a : Int) + 1)) (.int .i64 0)).below (B := w.heap.size) (below_then BB0.out hb1).size hlo))))
              | (go_at_call 55; go_loud ((with_reducible refine (takeWideN A P c (a + 1) 0 4 ((a : Int) + 1) 0 4 HA1.out h0.out rfl _ (hp.new BB1.out) hl2 hle1 (by decide) _ _ _ E2.out _ ((a : Int) + 5) 0 rfl HA5.out h0.out).mono ?_); rintro e2 w2 ⟨rfl, hb2⟩; have T2 := U1.new hb2; have q2 := Q1.new hb2; have z0 := T2.c0; have z1 := T2.c1; have z2 := T2.c2; have f0 := T2.fz 0; have f1 := T2.fz 1; have f2 := T2.fz 2; have U2 := T2.put (.slice A P.length c) (.int .i64 ((a : Int) + 5)) (.int .i64 0); have Q2 := ((q2.other hne (j := 0) (x := .slice A P.length c)).other hne (j := 1) (x := .int .i64 ((a : Int) + 5))).other hne (j := 2) (x := .int .i64 0); have y0 := q2.c0; have y1 := q2.c1; have g0 := q2.fz 0; have g1 := q2.fz 1; have BB2 := Lib.hid ((below_then BB1.out hb2).trans ((put3_step w2 (w.heap.size + 1) (.slice A P.length c) (.int .i64 ((a : Int) + 5)) (.int .i64 0)).below (B := w.heap.size) (below_then BB1.out hb2).size hlo))))
              | (go_at_call 55; go_loud ((with_reducible refine (takeWideN A P c (a + 5) 0 8 ((a : Int) + 5) 0 8 HA5.out h0.out rfl _ (hp.new BB2.out) hl2 hle2 (by decide) _ _ _ E3.out _ ((a : Int) + 13) 0 rfl HA13.out h0.out).mono ?_); rintro e3 w3 ⟨rfl, hb3⟩; have T3 := U2.new hb3; have q3 := Q2.new hb3; have z0 := T3.c0; have z1 := T3.c1; have z2 := T3.c2; have f0 := T3.fz 0; have f1 := T3.fz 1; have f2 := T3.fz 2; have U3 := T3.put (.slice A P.length c) (.int .i64 ((a : Int) + 13)) (.int .i64 0); have Q3 := ((q3.other hne (j := 0) (x := .slice A P.length c)).other hne (j := 1) (x := .int .i64 ((a : Int) + 13))).other hne (j := 2) (x := .int .i64 0); have y0 := q3.c0; have y1 := q3.c1; have g0 := q3.fz 0; have g1 := q3.fz 1; have BB3 := Lib.hid ((below_then BB2.out hb3).trans ((put3_step w3 (w.heap.size + 1) (.slice A P.length c) (.int .i64 ((a : Int) + 13)) (.int .i64 0)).below (B := w.heap.size) (below_then BB2.out hb3).size hlo))))
              | (go_at_call 55; go_loud ((with_reducible refine (takeWideN A P c (a + 13) 0 4 ((a : Int) + 13) 0 4 HA13.out h0.out rfl _ (hp.new BB3.out) hl2 hle3 (by decide) _ _ _ E4.out _ ((a : Int) + 17) 0 rfl HA17.out h0.out).mono ?_); rintro e4 w4 ⟨rfl, hb4⟩; have T4 := U3.new hb4; have q4 := Q3.new hb4; have z0 := T4.c0; have z1 := T4.c1; have z2 := T4.c2; have f0 := T4.fz 0; have f1 := T4.fz 1; have f2 := T4.fz 2; have U4 := T4.put (.slice A P.length c) (.int .i64 ((a : Int) + 17)) (.int .i64 0); have Q4 := ((q4.other hne (j := 0) (x := .slice A P.length c)).other hne (j := 1) (x := .int .i64 ((a : Int) + 17))).other hne (j := 2) (x := .int .i64 0); have y0 := q4.c0; have y1 := q4.c1; have g0 := q4.fz 0; have g1 := q4.fz 1; have BB4 := Lib.hid ((below_then BB3.out hb4).trans ((put3_step w4 (w.heap.size + 1) (.slice A P.length c) (.int .i64 ((a : Int) + 17)) (.int .i64 0)).below (B := w.heap.size) (below_then BB3.out hb4).size hlo)))))
            exact bodyPost_ret (results_dn rfl _ _ w.heap.size _ _ rfl ((Q4.set0 (.int .u64 0)).set1 (.slice none 0 0))) rfl ⟨none, 0, rfl, OB.nil _ _ _, (BB4.out.setCell (Nat.le_refl _) _).setCell (Nat.le_refl _) _⟩
          · have bm : ((m : Int) == 0) = false := by rw [beq_eq_false_iff_ne]; omega
            clear hmb hm0
            go_enter Try.func28, Try.ntmps28
            go_wp2_with (first
              | (go_at_call 55; go_loud ((with_reducible refine (takeWideN A P c a 0 1 a 0 1 rfl h0.out rfl _ (hp.new BB0.out) hl2 hle0 (by decide) _ _ _ E1.out _ ((a : Int) + 1) 0 rfl HA1.out h0.out).mono ?_); rintro e1 w1 ⟨rfl, hb1⟩; have T1 := U0.new hb1; have q1 := Q0.new hb1; have z0 := T1.c0; have z1 := T1.c1; have z2 := T1.c2; have f0 := T1.fz 0; have f1 := T1.fz 1; have f2 := T1.fz 2; have U1 := T1.put (.slice A P.length c) (.int .i64 ((a : Int) + 1)) (.int .i64 0); have Q1 := ((q1.other hne (j := 0) (x := .slice A P.length c)).other hne (j := 1) (x := .int .i64 ((a : Int) + 1))).other hne (j := 2) (x := .int .i64 0); have y0 := q1.c0; have y1 := q1.c1; have g0 := q1.fz 0; have g1 := q1.fz 1; have BB1 := Lib.hid ((below_then BB0.out hb1).trans ((put3_step w1 (w.heap.size + 1) (.slice A P.length c) (.int .i64 ((a : Int) + 1)) (.int .i64 0)).below (B := w.heap.size) (below_then BB0.out hb1).size hlo))))
              | (go_at_call 55; go_loud ((with_reducible refine (takeWideN A P c (a + 1) 0 4 ((a : Int) + 1) 0 4 HA1.out h0.out rfl _ (hp.new BB1.out) hl2 hle1 (by decide) _ _ _ E2.out _ ((a : Int) + 5) 0 rfl HA5.out h0.out).mono ?_); rintro e2 w2 ⟨rfl, hb2⟩; have T2 := U1.new hb2; have q2 := Q1.new hb2; have z0 := T2.c0; have z1 := T2.c1; have z2 := T2.c2; have f0 := T2.fz 0; have f1 := T2.fz 1; have f2 := T2.fz 2; have U2 := T2.put (.slice A P.length c) (.int .i64 ((a : Int) + 5)) (.int .i64 0); have Q2 := ((q2.other hne (j := 0) (x := .slice A P.length c)).other hne (j := 1) (x := .int .i64 ((a : Int) + 5))).other hne (j := 2) (x := .int .i64 0); have y0 := q2.c0; have y1 := q2.c1; have g0 := q2.fz 0; have g1 := q2.fz 1; have BB2 := Lib.hid ((below_then BB1.out hb2).trans ((put3_step w2 (w.heap.size + 1) (.slice A P.length c) (.int .i64 ((a : Int) + 5)) (.int .i64 0)).below (B := w.heap.size) (below_then BB1.out hb2).size hlo))))
              | (go_at_call 55; go_loud ((with_reducible refine (takeWideN A P c (a + 5) 0 8 ((a : Int) + 5) 0 8 HA5.out h0.out rfl _ (hp.new BB2.out) hl2 hle2 (by decide) _ _ _ E3.out _ ((a : Int) + 13) 0 rfl HA13.out h0.out).mono ?_); rintro e3 w3 ⟨rfl, hb3⟩; have T3 := U2.new hb3; have q3 := Q2.new hb3; have z0 := T3.c0; have z1 := T3.c1; have z2 := T3.c2; have f0 := T3.fz 0; have f1 := T3.fz 1; have f2 := T3.fz 2; have U3 := T3.put (.slice A P.length c) (.int .i64 ((a : Int) + 13)) (.int .i64 0); have Q3 := ((q3.other hne (j := 0) (x := .slice A P.length c)).other hne (j := 1) (x := .int .i64 ((a : Int) + 13))).other hne (j := 2) (x := .int .i64 0); have y0 := q3.c0; have y1 := q3.c1; have g0 := q3.fz 0; have g1 := q3.fz 1; have BB3 := Lib.hid ((below_then BB2.out hb3).trans ((put3_step w3 (w.heap.size + 1) (.slice A P.length c) (.int .i64 ((a : Int) + 13)) (.int .i64 0)).below (B := w.heap.size) (below_then BB2.out hb3).size hlo))))
              | (go_at_call 55; go_loud ((with_reducible refine (takeWideN A P c (a + 13) 0 4 ((a : Int) + 13) 0 4 HA13.out h0.out rfl _ (hp.new BB3.out) hl2 hle3 (by decide) _ _ _ E4.out _ ((a : Int) + 17) 0 rfl HA17.out h0.out).mono ?_); rintro e4 w4 ⟨rfl, hb4⟩; have T4 := U3.new hb4; have q4 := Q3.new hb4; have z0 := T4.c0; have z1 := T4.c1; have z2 := T4.c2; have f0 := T4.fz 0; have f1 := T4.fz 1; have f2 := T4.fz 2; have U4 := T4.put (.slice A P.length c) (.int .i64 ((a : Int) + 17)) (.int .i64 0); have Q4 := ((q4.other hne (j := 0) (x := .slice A P.length c)).other hne (j := 1) (x := .int .i64 ((a : Int) + 17))).other hne (j := 2) (x := .int .i64 0); have y0 := q4.c0; have y1 := q4.c1; have g0 := q4.fz 0; have g1 := q4.fz 1; have BB4 := Lib.hid ((below_then BB3.out hb4).trans ((put3_step w4 (w.heap.size + 1) (.slice A P.length c) (.int .i64 ((a : Int) + 17)) (.int .i64 0)).below (B := w.heap.size) (below_then BB3.out hb4).size hlo)))))
            exact bodyPost_ret (results_dn rfl _ _ w.heap.size _ _ rfl ((Q4.set0 (.int .u64 0)).set1 (.slice none 0 0))) rfl ⟨none, 0, rfl, OB.nil _ _ _, (BB4.out.setCell (Nat.le_refl _) _).setCell (Nat.le_refl _) _⟩
        · have bm : ((m : Int) == 0) = false := by rw [beq_eq_false_iff_ne]; omega
          have bm2 : ¬ 65535 < (m : Int) := by omega
          have HA17m := Lib.hid (show (a : Int) + 17 + m = ((a + 17 + m : Nat) : Int) from rfl)
          have hle4 : a + 17 ≤ P.length := by omega
          by_cases hs : P.length < a + 18 + m
          · have hN2 : nextF P a = noNx 2 a := by rw [hN]; simp only; rw [if_pos (by omega)]
            rw [hN2]
            clear hN hN2 h1
            by_cases hs2 : P.length < a + 17 + m
            · have E5 : Hid (rawS P (a + 17) 0 m = ([], a + 17, 3)) := Lib.hid (by unfold WireMath.rawS; rw [if_neg (by simp), if_neg (by omega), if_pos (by omega)])
              have E6 : Hid (numS P (a + 17) 3 1 = (0, a + 17, 3)) := Lib.hid (num_bad _ _ _ _ (by decide))
              clear hs hs2 hmb
              go_enter Try.func28, Try.ntmps28
              go_wp2_with (first
                | (go_at_call 55; go_loud ((with_reducible refine (takeWideN A P c a 0 1 a 0 1 rfl h0.out rfl _ (hp.new BB0.out) hl2 hle0 (by decide) _ _ _ E1.out _ ((a : Int) + 1) 0 rfl HA1.out h0.out).mono ?_); rintro e1 w1 ⟨rfl, hb1⟩; have T1 := U0.new hb1; have q1 := Q0.new hb1; have z0 := T1.c0; have z1 := T1.c1; have z2 := T1.c2; have f0 := T1.fz 0; have f1 := T1.fz 1; have f2 := T1.fz 2; have U1 := T1.put (.slice A P.length c) (.int .i64 ((a : Int) + 1)) (.int .i64 0); have Q1 := ((q1.other hne (j := 0) (x := .slice A P.length c)).other hne (j := 1) (x := .int .i64 ((a : Int) + 1))).other hne (j := 2) (x := .int .i64 0); have y0 := q1.c0; have y1 := q1.c1; have g0 := q1.fz 0; have g1 := q1.fz 1; have BB1 := Lib.hid ((below_then BB0.out hb1).trans ((put3_step w1 (w.heap.size + 1) (.slice A P.length c) (.int .i64 ((a : Int) + 1)) (.int .i64 0)).below (B := w.heap.size) (below_then BB0.out hb1).size hlo))))
                | (go_at_call 55; go_loud ((with_reducible refine (takeWideN A P c (a + 1) 0 4 ((a : Int) + 1) 0 4 HA1.out h0.out rfl _ (hp.new BB1.out) hl2 hle1 (by decide) _ _ _ E2.out _ ((a : Int) + 5) 0 rfl HA5.out h0.out).mono ?_); rintro e2 w2 ⟨rfl, hb2⟩; have T2 := U1.new hb2; have q2 := Q1.new hb2; have z0 := T2.c0; have z1 := T2.c1; have z2 := T2.c2; have f0 := T2.fz 0; have f1 := T2.fz 1; have f2 := T2.fz 2; have U2 := T2.put (.slice A P.length c) (.int .i64 ((a : Int) + 5)) (.int .i64 0); have Q2 := ((q2.other hne (j := 0) (x := .slice A P.length c)).other hne (j := 1) (x := .int .i64 ((a : Int) + 5))).other hne (j := 2) (x := .int .i64 0); have y0 := q2.c0; have y1 := q2.c1; have g0 := q2.fz 0; have g1 := q2.fz 1; have BB2 := Lib.hid ((below_then BB1.out hb2).trans ((put3_step w2 (w.heap.size + 1) (.slice A P.length c) (.int .i64 ((a : Int) + 5)) (.int .i64 0)).below (B := w.heap.size) (below_then BB1.out hb2).size hlo))))
                | (go_at_call 55; go_loud ((with_reducible refine (takeWideN A P c (a + 5) 0 8 ((a : Int) + 5) 0 8 HA5.out h0.out rfl _ (hp.new BB2.out) hl2 hle2 (by decide) _ _ _ E3.out _ ((a : Int) + 13) 0 rfl HA13.out h0.out).mono ?_); rintro e3 w3 ⟨rfl, hb3⟩; have T3 := U2.new hb3; have q3 := Q2.new hb3; have z0 := T3.c0; have z1 := T3.c1; have z2 := T3.c2; have f0 := T3.fz 0; have f1 := T3.fz 1; have f2 := T3.fz 2; have U3 := T3.put (.slice A P.length c) (.int .i64 ((a : Int) + 13)) (.int .i64 0); have Q3 := ((q3.other hne (j := 0) (x := .slice A P.length c)).other hne (j := 1) (x := .int .i64 ((a : Int) + 13))).other hne (j := 2) (x := .int .i64 0); have y0 := q3.c0; have y1 := q3.c1; have g0 := q3.fz 0; have g1 := q3.fz 1; have BB3 := Lib.hid ((below_then BB2.out hb3).trans ((put3_step w3 (w.heap.size + 1) (.slice A P.length c) (.int .i64 ((a : Int) + 13)) (.int .i64 0)).below (B := w.heap.size) (below_then BB2.out hb3).size hlo))))
                | (go_at_call 55; go_loud ((with_reducible refine (takeWideN A P c (a + 13) 0 4 ((a : Int) + 13) 0 4 HA13.out h0.out rfl _ (hp.new BB3.out) hl2 hle3 (by decide) _ _ _ E4.out _ ((a : Int) + 17) 0 rfl HA17.out h0.out).mono ?_); rintro e4 w4 ⟨rfl, hb4⟩; have T4 := U3.new hb4; have q4 := Q3.new hb4; have z0 := T4.c0; have z1 := T4.c1; have z2 := T4.c2; have f0 := T4.fz 0; have f1 := T4.fz 1; have f2 := T4.fz 2; have U4 := T4.put (.slice A P.length c) (.int .i64 ((a : Int) + 17)) (.int .i64 0); have Q4 := ((q4.other hne (j := 0) (x := .slice A P.length c)).other hne (j := 1) (x := .int .i64 ((a : Int) + 17))).other hne (j := 2) (x := .int .i64 0); have y0 := q4.c0; have y1 := q4.c1; have g0 := q4.fz 0; have g1 := q4.fz 1; have BB4 := Lib.hid ((below_then BB3.out hb4).trans ((put3_step w4 (w.heap.size + 1) (.slice A P.length c) (.int .i64 ((a : Int) + 17)) (.int .i64 0)).below (B := w.heap.size) (below_then BB3.out hb4).size hlo))))
                | (go_at_call 56; go_loud ((with_reducible refine (takeRawN A P c (a + 17) ((a : Int) + 17) HA17.out m _ (hp.new BB4.out) hl hle4 (by omega) [] _ _ E5.out 0 ((a : Int) + 17) 3 rfl HA17.out h3.out).mono ?_); rintro e5 w5 ⟨A5, c5, rfl, hn5⟩; have T5 := U4.new hn5.below; have q5 := Q4.new hn5.below; have z0 := T5.c0; have z1 := T5.c1; have z2 := T5.c2; have f0 := T5.fz 0; have f1 := T5.fz 1; have f2 := T5.fz 2; have U5 := T5.put (.slice A P.length c) (.int .i64 ((a : Int) + 17)) (.int .i64 3); have Q5 := ((q5.other hne (j := 0) (x := .slice A P.length c)).other hne (j := 1) (x := .int .i64 ((a : Int) + 17))).other hne (j := 2) (x := .int .i64 3); have y0 := q5.c0; have y1 := q5.c1; have g0 := q5.fz 0; have g1 := q5.fz 1; have BB5 := Lib.hid ((below_then BB4.out hn5.below).trans ((put3_step w5 (w.heap.size + 1) (.slice A P.length c) (.int .i64 ((a : Int) + 17)) (.int .i64 3)).below (B := w.heap.size) (below_then BB4.out hn5.below).size hlo))))
                | (go_at_call 55; go_loud ((with_reducible refine (takeWideN A P c (a + 17) 3 1 ((a : Int) + 17) 3 1 HA17.out h3.out rfl _ (hp.new BB5.out) hl2 hle4 (by decide) _ _ _ E6.out _ ((a : Int) + 17) 3 rfl HA17.out h3.out).mono ?_); rintro e6 w6 ⟨rfl, hb6⟩; have T6 := U5.new hb6; have q6 := Q5.new hb6; have z0 := T6.c0; have z1 := T6.c1; have z2 := T6.c2; have f0 := T6.fz 0; have f1 := T6.fz 1; have f2 := T6.fz 2; have U6 := T6.put (.slice A P.length c) (.int .i64 ((a : Int) + 17)) (.int .i64 3); have Q6 := ((q6.other hne (j := 0) (x := .slice A P.length c)).other hne (j := 1) (x := .int .i64 ((a : Int) + 17))).other hne (j := 2) (x := .int .i64 3); have y0 := q6.c0; have y1 := q6.c1; have g0 := q6.fz 0; have g1 := q6.fz 1; have BB6 := Lib.hid ((below_then BB5.out hb6).trans ((put3_step w6 (w.heap.size + 1) (.slice A P.length c) (.int .i64 ((a : Int) + 17)) (.int .i64 3)).below (B := w.heap.size) (below_then BB5.out hb6).size hlo)))))
              go_quiet (fail)
              go_wp2
              exact bodyPost_ret (results_dn rfl _ _ w.heap.size _ _ rfl (((Q6.drewN nq).set0 (.int .u64 0)).set1 (.slice none 0 0))) rfl ⟨none, 0, rfl, OB.nil _ _ _, ((below_drewN BB6.out nq).setCell (Nat.le_refl _) _).setCell (Nat.le_refl _) _⟩
            · have E5 : Hid (rawS P (a + 17) 0 m = ((P.drop (a + 17)).take m, a + 17 + m, 0)) := Lib.hid (by unfold WireMath.rawS; rw [if_neg (by simp), if_neg (by omega), if_neg (by omega)]; simp)
              have E6 : Hid (numS P (a + 17 + m) 0 1 = (0, a + 17 + m, 3)) := Lib.hid (num_short _ _ _ (by omega) (by omega))
              have hle5 : a + 17 + m ≤ P.length := by omega
              have HQN := Lib.hid (show m = ((P.drop (a + 17)).take m).length by rw [List.length_take, List.length_drop]; omega)
              clear hs hs2 hmb
              go_enter Try.func28, Try.ntmps28
              go_wp2_with (first
                | (go_at_call 55; go_loud ((with_reducible refine (takeWideN A P c a 0 1 a 0 1 rfl h0.out rfl _ (hp.new BB0.out) hl2 hle0 (by decide) _ _ _ E1.out _ ((a : Int) + 1) 0 rfl HA1.out h0.out).mono ?_); rintro e1 w1 ⟨rfl, hb1⟩; have T1 := U0.new hb1; have q1 := Q0.new hb1; have z0 := T1.c0; have z1 := T1.c1; have z2 := T1.c2; have f0 := T1.fz 0; have f1 := T1.fz 1; have f2 := T1.fz 2; have U1 := T1.put (.slice A P.length c) (.int .i64 ((a : Int) + 1)) (.int .i64 0); have Q1 := ((q1.other hne (j := 0) (x := .slice A P.length c)).other hne (j := 1) (x := .int .i64 ((a : Int) + 1))).other hne (j := 2) (x := .int .i64 0); have y0 := q1.c0; have y1 := q1.c1; have g0 := q1.fz 0; have g1 := q1.fz 1; have BB1 := Lib.hid ((below_then BB0.out hb1).trans ((put3_step w1 (w.heap.size + 1) (.slice A P.length c) (.int .i64 ((a : Int) + 1)) (.int .i64 0)).below (B := w.heap.size) (below_then BB0.out hb1).size hlo))))
                | (go_at_call 55; go_loud ((with_reducible refine (takeWideN A P c (a + 1) 0 4 ((a : Int) + 1) 0 4 HA1.out h0.out rfl _ (hp.new BB1.out) hl2 hle1 (by decide) _ _ _ E2.out _ ((a : Int) + 5) 0 rfl HA5.out h0.out).mono ?_); rintro e2 w2 ⟨rfl, hb2⟩; have T2 := U1.new hb2; have q2 := Q1.new hb2; have z0 := T2.c0; have z1 := T2.c1; have z2 := T2.c2; have f0 := T2.fz 0; have f1 := T2.fz 1; have f2 := T2.fz 2; have U2 := T2.put (.slice A P.length c) (.int .i64 ((a : Int) + 5)) (.int .i64 0); have Q2 := ((q2.other hne (j := 0) (x := .slice A P.length c)).other hne (j := 1) (x := .int .i64 ((a : Int) + 5))).other hne (j := 2) (x := .int .i64 0); have y0 := q2.c0; have y1 := q2.c1; have g0 := q2.fz 0; have g1 := q2.fz 1; have BB2 := Lib.hid ((below_then BB1.out hb2).trans ((put3_step w2 (w.heap.size + 1) (.slice A P.length c) (.int .i64 ((a : Int) + 5)) (.int .i64 0)).below (B := w.heap.size) (below_then BB1.out hb2).size hlo))))
                | (go_at_call 55; go_loud ((with_reducible refine (takeWideN A P c (a + 5) 0 8 ((a : Int) + 5) 0 8 HA5.out h0.out rfl _ (hp.new BB2.out) hl2 hle2 (by decide) _ _ _ E3.out _ ((a : Int) + 13) 0 rfl HA13.out h0.out).mono ?_); rintro e3 w3 ⟨rfl, hb3⟩; have T3 := U2.new hb3; have q3 := Q2.new hb3; have z0 := T3.c0; have z1 := T3.c1; have z2 := T3.c2; have f0 := T3.fz 0; have f1 := T3.fz 1; have f2 := T3.fz 2; have U3 := T3.put (.slice A P.length c) (.int .i64 ((a : Int) + 13)) (.int .i64 0); have Q3 := ((q3.other hne (j := 0) (x := .slice A P.length c)).other hne (j := 1) (x := .int .i64 ((a : Int) + 13))).other hne (j := 2) (x := .int .i64 0); have y0 := q3.c0; have y1 := q3.c1; have g0 := q3.fz 0; have g1 := q3.fz 1; have BB3 := Lib.hid ((below_then BB2.out hb3).trans ((put3_step w3 (w.heap.size + 1) (.slice A P.length c) (.int .i64 ((a : Int) + 13)) (.int .i64 0)).below (B := w.heap.size) (below_then BB2.out hb3).size hlo))))
                | (go_at_call 55; go_loud ((with_reducible refine (takeWideN A P c (a + 13) 0 4 ((a : Int) + 13) 0 4 HA13.out h0.out rfl _ (hp.new BB3.out) hl2 hle3 (by decide) _ _ _ E4.out _ ((a : Int) + 17) 0 rfl HA17.out h0.out).mono ?_); rintro e4 w4 ⟨rfl, hb4⟩; have T4 := U3.new hb4; have q4 := Q3.new hb4; have z0 := T4.c0; have z1 := T4.c1; have z2 := T4.c2; have f0 := T4.fz 0; have f1 := T4.fz 1; have f2 := T4.fz 2; have U4 := T4.put (.slice A P.length c) (.int .i64 ((a : Int) + 17)) (.int .i64 0); have Q4 := ((q4.other hne (j := 0) (x := .slice A P.length c)).other hne (j := 1) (x := .int .i64 ((a : Int) + 17))).other hne (j := 2) (x := .int .i64 0); have y0 := q4.c0; have y1 := q4.c1; have g0 := q4.fz 0; have g1 := q4.fz 1; have BB4 := Lib.hid ((below_then BB3.out hb4).trans ((put3_step w4 (w.heap.size + 1) (.slice A P.length c) (.int .i64 ((a : Int) + 17)) (.int .i64 0)).below (B := w.heap.size) (below_then BB3.out hb4).size hlo))))
                | (go_at_call 56; go_loud ((with_reducible refine (takeRawN A P c (a + 17) ((a : Int) + 17) HA17.out m _ (hp.new BB4.out) hl hle4 (by omega) _ _ _ E5.out m ((a : Int) + 17 + m) 0 HQN.out HA17m.out h0.out).mono ?_); rintro e5 w5 ⟨A5, c5, rfl, hn5⟩; have T5 := U4.new hn5.below; have q5 := Q4.new hn5.below; have z0 := T5.c0; have z1 := T5.c1; have z2 := T5.c2; have f0 := T5.fz 0; have f1 := T5.fz 1; have f2 := T5.fz 2; have U5 := T5.put (.slice A P.length c) (.int .i64 ((a : Int) + 17 + m)) (.int .i64 0); have Q5 := ((q5.other hne (j := 0) (x := .slice A P.length c)).other hne (j := 1) (x := .int .i64 ((a : Int) + 17 + m))).other hne (j := 2) (x := .int .i64 0); have y0 := q5.c0; have y1 := q5.c1; have g0 := q5.fz 0; have g1 := q5.fz 1; have BB5 := Lib.hid ((below_then BB4.out hn5.below).trans ((put3_step w5 (w.heap.size + 1) (.slice A P.length c) (.int .i64 ((a : Int) + 17 + m)) (.int .i64 0)).below (B := w.heap.size) (below_then BB4.out hn5.below).size hlo))))
                | (go_at_call 55; go_loud ((with_reducible refine (takeWideN A P c (a + 17 + m) 0 1 ((a : Int) + 17 + m) 0 1 HA17m.out h0.out rfl _ (hp.new BB5.out) hl2 hle5 (by decide) _ _ _ E6.out _ ((a : Int) + 17 + m) 3 rfl HA17m.out h3.out).mono ?_); rintro e6 w6 ⟨rfl, hb6⟩; have T6 := U5.new hb6; have q6 := Q5.new hb6; have z0 := T6.c0; have z1 := T6.c1; have z2 := T6.c2; have f0 := T6.fz 0; have f1 := T6.fz 1; have f2 := T6.fz 2; have U6 := T6.put (.slice A P.length c) (.int .i64 ((a : Int) + 17 + m)) (.int .i64 3); have Q6 := ((q6.other hne (j := 0) (x := .slice A P.length c)).other hne (j := 1) (x := .int .i64 ((a : Int) + 17 + m))).other hne (j := 2) (x := .int .i64 3); have y0 := q6.c0; have y1 := q6.c1; have g0 := q6.fz 0; have g1 := q6.fz 1; have BB6 := Lib.hid ((below_then BB5.out hb6).trans ((put3_step w6 (w.heap.size + 1) (.slice A P.length c) (.int .i64 ((a : Int) + 17 + m)) (.int .i64 3)).below (B := w.heap.size) (below_then BB5.out hb6).size hlo)))))
              go_quiet (fail)
              go_wp2
              exact bodyPost_ret (results_dn rfl _ _ w.heap.size _ _ rfl (((Q6.drewN nq).set0 (.int .u64 0)).set1 (.slice none 0 0))) rfl ⟨none, 0, rfl, OB.nil _ _ _, ((below_drewN BB6.out nq).setCell (Nat.le_refl _) _).setCell (Nat.le_refl _) _⟩
          · have E5 : Hid (rawS P (a + 17) 0 m = ((P.drop (a + 17)).take m, a + 17 + m, 0)) := Lib.hid (by unfold WireMath.rawS; rw [if_neg (by simp), if_neg (by omega), if_neg (by omega)]; simp)
            have E6 : Hid (numS P (a + 17 + m) 0 1 = (beN ((P.drop (a + 17 + m)).take 1), a + 17 + m + 1, 0)) := Lib.hid (num_ok _ _ _ (by omega))
            have hle5 : a + 17 + m ≤ P.length := by omega
            have hql : ((P.drop (a + 17)).take m).length = m := by rw [List.length_take, List.length_drop]; omega
            have HA18m := Lib.hid (show (a : Int) + 17 + m + 1 = ((a + 17 + m + 1 : Nat) : Int) from rfl)
            rw [hN]
            simp only
            rw [if_neg (by omega)]
            have hcap := hp.len
            have hsl := fun w' : World => run_cut w' A P.length c (a : Int) ((a : Int) + 17 + m + 1) a (a + (m + 18)) rfl (by omega) (by omega) (by omega)
            have hcut := hp.cut a (a + (m + 18)) (by omega) (by omega)
            rw [Nat.add_sub_cancel_left] at hsl hcut
            have hcl : ((P.drop a).take (m + 18)).length = m + 18 := by rw [List.length_take, List.length_drop]; omega
            have hll := FrameMath.laid_length place ((P.drop (a + 17)).take m)
            rw [hql] at hll
            generalize (P.drop (a + 17)).take m = pay at *
            generalize (P.drop a).take (m + 18) = cut at *
            have HQN := Lib.hid hql.symm
            have HCL := Lib.hid hcl.symm
            have HLL := Lib.hid hll.symm
            have HCUT := Lib.hid hcut
            have hm65 : pay.length ≤ 65535 := by omega
            generalize beN ((P.drop (a + 13)).take 4) = crc4 at *
            generalize beN ((P.drop (a + 17 + m)).take 1) = last1 at *
            generalize beN ((P.drop a).take 1) = first1 at *
            clear hN h1 hs hmb hql hcl hll hcut
            by_cases heq : laid place pay = cut
            · rw [if_pos heq]
              have HEQ := Lib.hid (show (laid place pay == cut) = true by rw [heq]; simp)
              clear heq
              go_enter Try.func28, Try.ntmps28
              go_wp2_with (first
                | (go_at_call 55; go_loud ((with_reducible refine (takeWideN A P c a 0 1 a 0 1 rfl h0.out rfl _ (hp.new BB0.out) hl2 hle0 (by decide) _ _ _ E1.out _ ((a : Int) + 1) 0 rfl HA1.out h0.out).mono ?_); rintro e1 w1 ⟨rfl, hb1⟩; have T1 := U0.new hb1; have q1 := Q0.new hb1; have z0 := T1.c0; have z1 := T1.c1; have z2 := T1.c2; have f0 := T1.fz 0; have f1 := T1.fz 1; have f2 := T1.fz 2; have U1 := T1.put (.slice A P.length c) (.int .i64 ((a : Int) + 1)) (.int .i64 0); have Q1 := ((q1.other hne (j := 0) (x := .slice A P.length c)).other hne (j := 1) (x := .int .i64 ((a : Int) + 1))).other hne (j := 2) (x := .int .i64 0); have y0 := q1.c0; have y1 := q1.c1; have g0 := q1.fz 0; have g1 := q1.fz 1; have BB1 := Lib.hid ((below_then BB0.out hb1).trans ((put3_step w1 (w.heap.size + 1) (.slice A P.length c) (.int .i64 ((a : Int) + 1)) (.int .i64 0)).below (B := w.heap.size) (below_then BB0.out hb1).size hlo))))
                | (go_at_call 55; go_loud ((with_reducible refine (takeWideN A P c (a + 1) 0 4 ((a : Int) + 1) 0 4 HA1.out h0.out rfl _ (hp.new BB1.out) hl2 hle1 (by decide) _ _ _ E2.out _ ((a : Int) + 5) 0 rfl HA5.out h0.out).mono ?_); rintro e2 w2 ⟨rfl, hb2⟩; have T2 := U1.new hb2; have q2 := Q1.new hb2; have z0 := T2.c0; have z1 := T2.c1; have z2 := T2.c2; have f0 := T2.fz 0; have f1 := T2.fz 1; have f2 := T2.fz 2; have U2 := T2.put (.slice A P.length c) (.int .i64 ((a : Int) + 5)) (.int .i64 0); have Q2 := ((q2.other hne (j := 0) (x := .slice A P.length c)).other hne (j := 1) (x := .int .i64 ((a : Int) + 5))).other hne (j := 2) (x := .int .i64 0); have y0 := q2.c0; have y1 := q2.c1; have g0 := q2.fz 0; have g1 := q2.fz 1; have BB2 := Lib.hid ((below_then BB1.out hb2).trans ((put3_step w2 (w.heap.size + 1) (.slice A P.length c) (.int .i64 ((a : Int) + 5)) (.int .i64 0)).below (B := w.heap.size) (below_then BB1.out hb2).size hlo))))
                | (go_at_call 55; go_loud ((with_reducible refine (takeWideN A P c (a + 5) 0 8 ((a : Int) + 5) 0 8 HA5.out h0.out rfl _ (hp.new BB2.out) hl2 hle2 (by decide) _ _ _ E3.out _ ((a : Int) + 13) 0 rfl HA13.out h0.out).mono ?_); rintro e3 w3 ⟨rfl, hb3⟩; have T3 := U2.new hb3; have q3 := Q2.new hb3; have z0 := T3.c0; have z1 := T3.c1; have z2 := T3.c2; have f0 := T3.fz 0; have f1 := T3.fz 1; have f2 := T3.fz 2; have U3 := T3.put (.slice A P.length c) (.int .i64 ((a : Int) + 13)) (.int .i64 0); have Q3 := ((q3.other hne (j := 0) (x := .slice A P.length c)).other hne (j := 1) (x := .int .i64 ((a : Int) + 13))).other hne (j := 2) (x := .int .i64 0); have y0 := q3.c0; have y1 := q3.c1; have g0 := q3.fz 0; have g1 := q3.fz 1; have BB3 := Lib.hid ((below_then BB2.out hb3).trans ((put3_step w3 (w.heap.size + 1) (.slice A P.length c) (.int .i64 ((a : Int) + 13)) (.int .i64 0)).below (B := w.heap.size) (below_then BB2.out hb3).size hlo))))
                | (go_at_call 55; go_loud ((with_reducible refine (takeWideN A P c (a + 13) 0 4 ((a : Int) + 13) 0 4 HA13.out h0.out rfl _ (hp.new BB3.out) hl2 hle3 (by decide) _ _ _ E4.out _ ((a : Int) + 17) 0 rfl HA17.out h0.out).mono ?_); rintro e4 w4 ⟨rfl, hb4⟩; have T4 := U3.new hb4; have q4 := Q3.new hb4; have z0 := T4.c0; have z1 := T4.c1; have z2 := T4.c2; have f0 := T4.fz 0; have f1 := T4.fz 1; have f2 := T4.fz 2; have U4 := T4.put (.slice A P.length c) (.int .i64 ((a : Int) + 17)) (.int .i64 0); have Q4 := ((q4.other hne (j := 0) (x := .slice A P.length c)).other hne (j := 1) (x := .int .i64 ((a : Int) + 17))).other hne (j := 2) (x := .int .i64 0); have y0 := q4.c0; have y1 := q4.c1; have g0 := q4.fz 0; have g1 := q4.fz 1; have BB4 := Lib.hid ((below_then BB3.out hb4).trans ((put3_step w4 (w.heap.size + 1) (.slice A P.length c) (.int .i64 ((a : Int) + 17)) (.int .i64 0)).below (B := w.heap.size) (below_then BB3.out hb4).size hlo))))
                | (go_at_call 56; go_loud ((with_reducible refine (takeRawN A P c (a + 17) ((a : Int) + 17) HA17.out m _ (hp.new BB4.out) hl hle4 (by omega) _ _ _ E5.out m ((a : Int) + 17 + m) 0 HQN.out HA17m.out h0.out).mono ?_); rintro e5 w5 ⟨A5, c5, rfl, hn5⟩; have T5 := U4.new hn5.below; have q5 := Q4.new hn5.below; have z0 := T5.c0; have z1 := T5.c1; have z2 := T5.c2; have f0 := T5.fz 0; have f1 := T5.fz 1; have f2 := T5.fz 2; have U5 := T5.put (.slice A P.length c) (.int .i64 ((a : Int) + 17 + m)) (.int .i64 0); have Q5 := ((q5.other hne (j := 0) (x := .slice A P.length c)).other hne (j := 1) (x := .int .i64 ((a : Int) + 17 + m))).other hne (j := 2) (x := .int .i64 0); have y0 := q5.c0; have y1 := q5.c1; have g0 := q5.fz 0; have g1 := q5.fz 1; have BB5 := Lib.hid ((below_then BB4.out hn5.below).trans ((put3_step w5 (w.heap.size + 1) (.slice A P.length c) (.int .i64 ((a : Int) + 17 + m)) (.int .i64 0)).below (B := w.heap.size) (below_then BB4.out hn5.below).size hlo))))
                | (go_at_call 55; go_loud ((with_reducible refine (takeWideN A P c (a + 17 + m) 0 1 ((a : Int) + 17 + m) 0 1 HA17m.out h0.out rfl _ (hp.new BB5.out) hl2 hle5 (by decide) _ _ _ E6.out _ ((a : Int) + 17 + m + 1) 0 rfl HA18m.out h0.out).mono ?_); rintro e6 w6 ⟨rfl, hb6⟩; have T6 := U5.new hb6; have q6 := Q5.new hb6; have z0 := T6.c0; have z1 := T6.c1; have z2 := T6.c2; have f0 := T6.fz 0; have f1 := T6.fz 1; have f2 := T6.fz 2; have U6 := T6.put (.slice A P.length c) (.int .i64 ((a : Int) + 17 + m + 1)) (.int .i64 0); have Q6 := ((q6.other hne (j := 0) (x := .slice A P.length c)).other hne (j := 1) (x := .int .i64 ((a : Int) + 17 + m + 1))).other hne (j := 2) (x := .int .i64 0); have y0 := q6.c0; have y1 := q6.c1; have g0 := q6.fz 0; have g1 := q6.fz 1; have BB6 := Lib.hid ((below_then BB5.out hb6).trans ((put3_step w6 (w.heap.size + 1) (.slice A P.length c) (.int .i64 ((a : Int) + 17 + m + 1)) (.int .i64 0)).below (B := w.heap.size) (below_then BB5.out hb6).size hlo)))))
              have rp := Lib.hid ((((hn5.own.rb.step (put3_step w5 (w.heap.size + 1) (.slice A P.length c) (.int .i64 ((a : Int) + 17 + m)) (.int .i64 0)) (Free.of_new hn5.own.lo (fun k hk => by have h1 : k = w.heap.size + 1 := hk; have := U4.lt; omega))).new hb6).step (put3_step w6 (w.heap.size + 1) (.slice A P.length c) (.int .i64 ((a : Int) + 17 + m + 1)) (.int .i64 0)) (Free.of_new hn5.own.lo (fun k hk => by have h1 : k = w.heap.size + 1 := hk; have := U4.lt; omega))))
              have d1 := U6.c1
              have d2 := U6.c2
              go_region_held3 (fun w' => w'.cell? ⟨w.heap.size + 1, 1, none⟩ = some (.int .i64 ((a : Int) + 17 + m + 1)) ∧ w'.cell? ⟨w.heap.size + 1, 2, none⟩ = some (.int .i64 0)) (go_keep) (first
                | (go_at_call 21; go_loud (with_reducible refine (reflaid_calls place _ rfl hpl A5 pay m c5 _ (rp.out.new (below_drew _ _)) HQN.out hm65).mono ?_); rintro e7 w7 ⟨A7, c7, rfl, hn7⟩; have U7 := U6.new ((below_drew _ _).trans hn7.below); have Q7 := Q6.new ((below_drew _ _).trans hn7.below); have BB7 := Lib.hid (BB6.out.trans (((below_drew _ _).trans hn7.below).mono BB6.out.size)); have d1 := U7.c1; have d2 := U7.c2)
                | (go_at_call 9; go_loud (with_reducible refine (sameR A7 (cutA A a c) (laid place pay) cut (m + 18) (m + 18) c7 (c - a) _ hn7.own.rb (HCUT.out.new BB7.out) HLL.out HCL.out _ HEQ.out).mono ?_); rintro e8 w8 ⟨rfl, hd8⟩; have U8 := U7.new (hd8.below _); have Q8 := Q7.new (hd8.below _); have BB8 := Lib.hid (BB7.out.trans (hd8.below _)); have d1 := U8.c1; have d2 := U8.c2; have z1 := U8.c1; have y0 := Q8.c0; have y1 := Q8.c1; have g0 := Q8.fz 0; have g1 := Q8.fz 1))
              go_wp2
              go_region
              all_goals go_wp2
              have hs4 := U4.lt
              have hlt1 : w.heap.size + 1 < ((((w4.setCell ⟨w.heap.size + 1, 0, none⟩ (.slice A P.length c)).setCell ⟨w.heap.size + 1, 1, none⟩ (.int .i64 ((a : Int) + 17))).setCell ⟨w.heap.size + 1, 2, none⟩ (.int .i64 0))).heap.size := hs4
              have o5 := ((hn5.own.low (j := 0) (u := .slice A P.length c) hlt1).low (j := 1) (u := .int .i64 ((a : Int) + 17 + m)) hlt1).low (j := 2) (u := .int .i64 0) hlt1
              have o6 := (((o5.new hb6).low (j := 0) (u := .slice A P.length c) hlt1).low (j := 1) (u := .int .i64 ((a : Int) + 17 + m + 1)) hlt1).low (j := 2) (u := .int .i64 0) hlt1
              have hlt0 : w.heap.size < ((((w4.setCell ⟨w.heap.size + 1, 0, none⟩ (.slice A P.length c)).setCell ⟨w.heap.size + 1, 1, none⟩ (.int .i64 ((a : Int) + 17))).setCell ⟨w.heap.size + 1, 2, none⟩ (.int .i64 0))).heap.size := Nat.lt_of_succ_lt hs4
              have o8 := ((((o6.new ((below_drew _ _).trans hn7.below)).new (hd8.below _)).low (j := 0) (u := .int .u64 place) hlt0).low (j := 1) (u := .slice A5 m c5) hlt0).drew.mono (Nat.le_of_lt hlt0)
              rw [← HQN.out]
              exact bodyPost_ret (results_dn rfl _ _ w.heap.size _ _ rfl (((Q8.set0 (.int .u64 place)).set1 (.slice A5 m c5)).new (below_drew _ _))) rfl ⟨A5, c5, rfl, o8, ((BB8.out.setCell (Nat.le_refl _) _).setCell (Nat.le_refl _) _).drew⟩
            · rw [if_neg heq]
              have HEQ := Lib.hid (show (laid place pay == cut) = false by rw [beq_eq_false_iff_ne]; exact heq)
              clear heq
              go_enter Try.func28, Try.ntmps28
              go_wp2_with (first
                | (go_at_call 55; go_loud ((with_reducible refine (takeWideN A P c a 0 1 a 0 1 rfl h0.out rfl _ (hp.new BB0.out) hl2 hle0 (by decide) _ _ _ E1.out _ ((a : Int) + 1) 0 rfl HA1.out h0.out).mono ?_); rintro e1 w1 ⟨rfl, hb1⟩; have T1 := U0.new hb1; have q1 := Q0.new hb1; have z0 := T1.c0; have z1 := T1.c1; have z2 := T1.c2; have f0 := T1.fz 0; have f1 := T1.fz 1; have f2 := T1.fz 2; have U1 := T1.put (.slice A P.length c) (.int .i64 ((a : Int) + 1)) (.int .i64 0); have Q1 := ((q1.other hne (j := 0) (x := .slice A P.length c)).other hne (j := 1) (x := .int .i64 ((a : Int) + 1))).other hne (j := 2) (x := .int .i64 0); have y0 := q1.c0; have y1 := q1.c1; have g0 := q1.fz 0; have g1 := q1.fz 1; have BB1 := Lib.hid ((below_then BB0.out hb1).trans ((put3_step w1 (w.heap.size + 1) (.slice A P.length c) (.int .i64 ((a : Int) + 1)) (.int .i64 0)).below (B := w.heap.size) (below_then BB0.out hb1).size hlo))))
                | (go_at_call 55; go_loud ((with_reducible refine (takeWideN A P c (a + 1) 0 4 ((a : Int) + 1) 0 4 HA1.out h0.out rfl _ (hp.new BB1.out) hl2 hle1 (by decide) _ _ _ E2.out _ ((a : Int) + 5) 0 rfl HA5.out h0.out).mono ?_); rintro e2 w2 ⟨rfl, hb2⟩; have T2 := U1.new hb2; have q2 := Q1.new hb2; have z0 := T2.c0; have z1 := T2.c1; have z2 := T2.c2; have f0 := T2.fz 0; have f1 := T2.fz 1; have f2 := T2.fz 2; have U2 := T2.put (.slice A P.length c) (.int .i64 ((a : Int) + 5)) (.int .i64 0); have Q2 := ((q2.other hne (j := 0) (x := .slice A P.length c)).other hne (j := 1) (x := .int .i64 ((a : Int) + 5))).other hne (j := 2) (x := .int .i64 0); have y0 := q2.c0; have y1 := q2.c1; have g0 := q2.fz 0; have g1 := q2.fz 1; have BB2 := Lib.hid ((below_then BB1.out hb2).trans ((put3_step w2 (w.heap.size + 1) (.slice A P.length c) (.int .i64 ((a : Int) + 5)) (.int .i64 0)).below (B := w.heap.size) (below_then BB1.out hb2).size hlo))))
                | (go_at_call 55; go_loud ((with_reducible refine (takeWideN A P c (a + 5) 0 8 ((a : Int) + 5) 0 8 HA5.out h0.out rfl _ (hp.new BB2.out) hl2 hle2 (by decide) _ _ _ E3.out _ ((a : Int) + 13) 0 rfl HA13.out h0.out).mono ?_); rintro e3 w3 ⟨rfl, hb3⟩; have T3 := U2.new hb3; have q3 := Q2.new hb3; have z0 := T3.c0; have z1 := T3.c1; have z2 := T3.c2; have f0 := T3.fz 0; have f1 := T3.fz 1; have f2 := T3.fz 2; have U3 := T3.put (.slice A P.length c) (.int .i64 ((a : Int) + 13)) (.int .i64 0); have Q3 := ((q3.other hne (j := 0) (x := .slice A P.length c)).other hne (j := 1) (x := .int .i64 ((a : Int) + 13))).other hne (j := 2) (x := .int .i64 0); have y0 := q3.c0; have y1 := q3.c1; have g0 := q3.fz 0; have g1 := q3.fz 1; have BB3 := Lib.hid ((below_then BB2.out hb3).trans ((put3_step w3 (w.heap.size + 1) (.slice A P.length c) (.int .i64 ((a : Int) + 13)) (.int .i64 0)).below (B := w.heap.size) (below_then BB2.out hb3).size hlo))))
                | (go_at_call 55; go_loud ((with_reducible refine (takeWideN A P c (a + 13) 0 4 ((a : Int) + 13) 0 4 HA13.out h0.out rfl _ (hp.new BB3.out) hl2 hle3 (by decide) _ _ _ E4.out _ ((a : Int) + 17) 0 rfl HA17.out h0.out).mono ?_); rintro e4 w4 ⟨rfl, hb4⟩; have T4 := U3.new hb4; have q4 := Q3.new hb4; have z0 := T4.c0; have z1 := T4.c1; have z2 := T4.c2; have f0 := T4.fz 0; have f1 := T4.fz 1; have f2 := T4.fz 2; have U4 := T4.put (.slice A P.length c) (.int .i64 ((a : Int) + 17)) (.int .i64 0); have Q4 := ((q4.other hne (j := 0) (x := .slice A P.length c)).other hne (j := 1) (x := .int .i64 ((a : Int) + 17))).other hne (j := 2) (x := .int .i64 0); have y0 := q4.c0; have y1 := q4.c1; have g0 := q4.fz 0; have g1 := q4.fz 1; have BB4 := Lib.hid ((below_then BB3.out hb4).trans ((put3_step w4 (w.heap.size + 1) (.slice A P.length c) (.int .i64 ((a : Int) + 17)) (.int .i64 0)).below (B := w.heap.size) (below_then BB3.out hb4).size hlo))))
                | (go_at_call 56; go_loud ((with_reducible refine (takeRawN A P c (a + 17) ((a : Int) + 17) HA17.out m _ (hp.new BB4.out) hl hle4 (by omega) _ _ _ E5.out m ((a : Int) + 17 + m) 0 HQN.out HA17m.out h0.out).mono ?_); rintro e5 w5 ⟨A5, c5, rfl, hn5⟩; have T5 := U4.new hn5.below; have q5 := Q4.new hn5.below; have z0 := T5.c0; have z1 := T5.c1; have z2 := T5.c2; have f0 := T5.fz 0; have f1 := T5.fz 1; have f2 := T5.fz 2; have U5 := T5.put (.slice A P.length c) (.int .i64 ((a : Int) + 17 + m)) (.int .i64 0); have Q5 := ((q5.other hne (j := 0) (x := .slice A P.length c)).other hne (j := 1) (x := .int .i64 ((a : Int) + 17 + m))).other hne (j := 2) (x := .int .i64 0); have y0 := q5.c0; have y1 := q5.c1; have g0 := q5.fz 0; have g1 := q5.fz 1; have BB5 := Lib.hid ((below_then BB4.out hn5.below).trans ((put3_step w5 (w.heap.size + 1) (.slice A P.length c) (.int .i64 ((a : Int) + 17 + m)) (.int .i64 0)).below (B := w.heap.size) (below_then BB4.out hn5.below).size hlo))))
                | (go_at_call 55; go_loud ((with_reducible refine (takeWideN A P c (a + 17 + m) 0 1 ((a : Int) + 17 + m) 0 1 HA17m.out h0.out rfl _ (hp.new BB5.out) hl2 hle5 (by decide) _ _ _ E6.out _ ((a : Int) + 17 + m + 1) 0 rfl HA18m.out h0.out).mono ?_); rintro e6 w6 ⟨rfl, hb6⟩; have T6 := U5.new hb6; have q6 := Q5.new hb6; have z0 := T6.c0; have z1 := T6.c1; have z2 := T6.c2; have f0 := T6.fz 0; have f1 := T6.fz 1; have f2 := T6.fz 2; have U6 := T6.put (.slice A P.length c) (.int .i64 ((a : Int) + 17 + m + 1)) (.int .i64 0); have Q6 := ((q6.other hne (j := 0) (x := .slice A P.length c)).other hne (j := 1) (x := .int .i64 ((a : Int) + 17 + m + 1))).other hne (j := 2) (x := .int .i64 0); have y0 := q6.c0; have y1 := q6.c1; have g0 := q6.fz 0; have g1 := q6.fz 1; have BB6 := Lib.hid ((below_then BB5.out hb6).trans ((put3_step w6 (w.heap.size + 1) (.slice A P.length c) (.int .i64 ((a : Int) + 17 + m + 1)) (.int .i64 0)).below (B := w.heap.size) (below_then BB5.out hb6).size hlo)))))
              have rp := Lib.hid ((((hn5.own.rb.step (put3_step w5 (w.heap.size + 1) (.slice A P.length c) (.int .i64 ((a : Int) + 17 + m)) (.int .i64 0)) (Free.of_new hn5.own.lo (fun k hk => by have h1 : k = w.heap.size + 1 := hk; have := U4.lt; omega))).new hb6).step (put3_step w6 (w.heap.size + 1) (.slice A P.length c) (.int .i64 ((a : Int) + 17 + m + 1)) (.int .i64 0)) (Free.of_new hn5.own.lo (fun k hk => by have h1 : k = w.heap.size + 1 := hk; have := U4.lt; omega))))
              have d1 := U6.c1
              have d2 := U6.c2
              go_region_held3 (fun w' => w'.cell? ⟨w.heap.size + 1, 1, none⟩ = some (.int .i64 ((a : Int) + 17 + m + 1)) ∧ w'.cell? ⟨w.heap.size + 1, 2, none⟩ = some (.int .i64 0)) (go_keep) (first
                | (go_at_call 21; go_loud (with_reducible refine (reflaid_calls place _ rfl hpl A5 pay m c5 _ (rp.out.new (below_drew _ _)) HQN.out hm65).mono ?_); rintro e7 w7 ⟨A7, c7, rfl, hn7⟩; have U7 := U6.new ((below_drew _ _).trans hn7.below); have Q7 := Q6.new ((below_drew _ _).trans hn7.below); have BB7 := Lib.hid (BB6.out.trans (((below_drew _ _).trans hn7.below).mono BB6.out.size)); have d1 := U7.c1; have d2 := U7.c2)
                | (go_at_call 9; go_loud (with_reducible refine (sameR A7 (cutA A a c) (laid place pay) cut (m + 18) (m + 18) c7 (c - a) _ hn7.own.rb (HCUT.out.new BB7.out) HLL.out HCL.out _ HEQ.out).mono ?_); rintro e8 w8 ⟨rfl, hd8⟩; have U8 := U7.new (hd8.below _); have Q8 := Q7.new (hd8.below _); have BB8 := Lib.hid (BB7.out.trans (hd8.below _)); have d1 := U8.c1; have d2 := U8.c2; have z1 := U8.c1; have y0 := Q8.c0; have y1 := Q8.c1; have g0 := Q8.fz 0; have g1 := Q8.fz 1))
              go_wp2
              exact bodyPost_ret (results_dn rfl _ _ w.heap.size _ _ rfl ((Q8.set0 (.int .u64 0)).set1 (.slice none 0 0))) rfl ⟨none, 0, rfl, OB.nil _ _ _, (BB8.out.setCell (Nat.le_refl _) _).setCell (Nat.le_refl _) _⟩
end Go.Proofs.Ytlcbjjgmkllceaa
