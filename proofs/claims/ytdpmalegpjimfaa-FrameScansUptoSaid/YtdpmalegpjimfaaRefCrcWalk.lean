/- The walks of the reference's check sum: each call comes to what CrcMath says. -/
import Derived.Test.YtdpmalegpjimfaaCrcWalk
namespace Go.Proofs.Ytdpmalegpjimfaa
open Go.RowKit
open CrcMath (W)
attribute [local go_sem] uI_not bits_xor_uI bits_xor_byte

theorem shr_rem (c : W) (k : Nat) : (uI c / (2 : Int) ^ k).tmod 2 = if c.getLsbD k then (1 : Int) else 0 := by
  rw [Int.tmod_eq_emod_of_nonneg (Int.ediv_nonneg (uI_range c).1 (Int.pow_nonneg (by decide)))]
  unfold uI
  have e : c.getLsbD k = decide (c.toNat / 2 ^ k % 2 = 1) := by
    rw [BitVec.getLsbD, Nat.testBit_eq_decide_div_mod_eq]
  rw [e]
  have e2 : ((c.toNat : Int) / 2 ^ k) % 2 = ((c.toNat / 2 ^ k % 2 : Nat) : Int) := by simp
  rw [e2]
  by_cases h : c.toNat / 2 ^ k % 2 = 1
  · simp [h]
  · have h0 : c.toNat / 2 ^ k % 2 = 0 := by omega
    simp [h0]
theorem uI_double (x : W) : uI x * (2 : Int) % (4294967296 : Int) = uI (x <<< 1) := by
  unfold uI
  rw [BitVec.toNat_shiftLeft, Nat.shiftLeft_eq]
  omega
theorem uI_add_bit (x : W) (b : Bool) : (uI (x <<< 1) + (if b then (1 : Int) else 0)) % (4294967296 : Int) = uI ((x <<< 1) ^^^ (if b then (1 : W) else 0)) := by
  have hr := uI_range (x <<< 1)
  cases b
  · simp
    rw [Int.emod_eq_of_lt hr.1 (by omega)]
  · rw [if_pos rfl, if_pos rfl]
    have h0 : (x <<< 1) &&& (1 : W) = 0 := by
      apply BitVec.eq_of_getLsbD_eq
      intro i hi
      rw [BitVec.getLsbD_and, BitVec.getLsbD_shiftLeft, show (1 : W) = 1#32 from rfl, BitVec.getLsbD_one, CrcMath.zero_bit]
      cases i <;> simp
    have h1 : (x <<< 1) ^^^ (1 : W) = (x <<< 1) + (1 : W) := by
      rw [BitVec.add_eq_or_of_and_eq_zero _ _ h0]
      apply BitVec.eq_of_getLsbD_eq
      intro i hi
      have := congrArg (fun y : W => y.getLsbD i) h0
      simp only [BitVec.getLsbD_and, CrcMath.zero_bit] at this
      rw [BitVec.getLsbD_xor, BitVec.getLsbD_or]
      revert this
      generalize (x <<< 1).getLsbD i = p
      generalize (1 : W).getLsbD i = q
      revert p q
      decide
    rw [h1]
    unfold uI
    rw [BitVec.toNat_add]
    simp

theorem turned_calls (c : W) (w : World) :
    Calls Try.prog 94 #[.int .u32 (uI c)] w fun e w' => e = .returned (.int .u32 (uI (CrcMath.rev c))) ∧ w = w' := by
  unfold CrcMath.rev
  have hr := uI_range c
  go_enter Try.func94, Try.ntmps94
  go_wp2
  go_loop [3, 4] (fun v i => ∃ k : Nat, k ≤ 32 ∧ i = .int .i64 k ∧ v = .int .u32 (uI (CrcMath.revTo c k))) (fun _ i => 32 - (intOf i).toNat)
  case atStart => exact ⟨0, by omega, rfl, rfl⟩
  case round =>
    obtain ⟨k, hk, rfl, rfl⟩ := hrel
    by_cases hlt : k < 32
    · have hq := uI_range (CrcMath.revTo c k)
      have e1 := shr_rem c k
      have e2 := uI_add_bit (CrcMath.revTo c k) (c.getLsbD k)
      rw [← uI_double] at e2
      have E1 := Lib.hid e1
      have E2 := Lib.hid e2
      clear e1 e2
      go_wp2
      go_round
      case rel => exact ⟨k + 1, by omega, by go_num, by simp only [CrcMath.revTo]; rw [← E2.out, ← E1.out]⟩
      case measure => simp [intOf]; omega
    · obtain rfl : k = 32 := by omega
      go_wp2
      go_ret
      exact ⟨rfl, rfl⟩

theorem double_calls (x : W) (w : World) :
    Calls Try.prog 95 #[.int .u32 (uI x)] w fun e w' => e = .returned (.int .u32 (uI (CrcMath.double x))) ∧ w = w' := by
  have hr := uI_range x
  have hb : x.getLsbD 31 = decide (2147483648 ≤ uI x) := by
    unfold uI
    rw [BitVec.getLsbD, Nat.testBit_eq_decide_div_mod_eq]
    have := x.isLt
    by_cases h : 2147483648 ≤ x.toNat
    · have : x.toNat / 2 ^ 31 % 2 = 1 := by omega
      simp [this]; omega
    · have : x.toNat / 2 ^ 31 % 2 = 0 := by omega
      simp [this]; omega
  unfold CrcMath.double
  cases hc : x.getLsbD 31
  · rw [hc] at hb
    rw [if_neg (by decide)]
    replace hb := hb.symm
    clear hc
    go_enter Try.func95, Try.ntmps95
    go_wp2
    go_ret
    exact ⟨ret_int (uI_double x), rfl⟩
  · rw [hc] at hb
    rw [if_pos rfl]
    replace hb := hb.symm
    clear hc
    go_enter Try.func95, Try.ntmps95
    go_wp2
    go_ret
    exact ⟨ret_int (by rw [uI_double]; exact bits_xor_lit (x <<< 1) 517762881), rfl⟩

attribute [local irreducible] CrcMath.rev CrcMath.times CrcMath.refReg CrcMath.bitsTo CrcMath.double

theorem bW_bit (b : UInt8) (i : Nat) : (uB b / (2 : Int) ^ i).tmod 2 = if (bW b).getLsbD i then (1 : Int) else 0 := by
  rw [← uI_bW]; exact shr_rem _ _
theorem bW_lt (b : UInt8) : (bW b).toNat < 256 := by
  have := b.toNat_lt
  unfold bW
  rw [BitVec.toNat_ofNat]; omega

theorem refupdate_calls (c : W) (A : Option Addr) (p : List UInt8) (cap : Nat) (w : World) (hp : RB w A cap p) :
    Calls Try.prog 92 #[.int .u32 (uI c), .slice A p.length cap] w fun e w' => e = .returned (.int .u32 (uI (CrcMath.upd c (p.map bW)))) ∧ w = w' := by
  have hl := hp.small
  rw [← CrcMath.refUpd_eq c (p.map bW) (by intro v hv; rw [List.mem_map] at hv; obtain ⟨b, _, rfl⟩ := hv; exact bW_lt b)]
  unfold CrcMath.refUpd
  go_enter Try.func92, Try.ntmps92
  go_wp2_with (go_at_call 94; (with_reducible refine (turned_calls _ _).mono ?_); rintro e w' ⟨rfl, rfl⟩)
  go_loop [5, 14] (fun c' i => ∃ k : Nat, k ≤ p.length ∧ i = .int .i64 k ∧ c' = .int .u32 (uI (CrcMath.refReg (CrcMath.rev (~~~ c)) ((p.map bW).take k)))) (fun _ i => p.length - (intOf i).toNat)
  case atStart => exact ⟨0, by omega, rfl, by rw [List.take_zero, CrcMath.refReg_nil]⟩
  case round =>
    obtain ⟨k, hk, rfl, rfl⟩ := hrel
    by_cases hlt : k < p.length
    · obtain ⟨a, rfl, hc⟩ := hp.at_ k hlt
      have hs : CrcMath.refReg (CrcMath.rev (~~~ c)) ((p.map bW).take (k + 1)) = CrcMath.bitsTo (CrcMath.refReg (CrcMath.rev (~~~ c)) ((p.map bW).take k)) (bW p[k]) 8 := by
        rw [take_snoc (p.map bW) k (by simpa using hlt)]
        unfold CrcMath.refReg; simp
      have HS := Lib.hid hs
      clear hs hp
      have hr := uB_range p[k]
      go_wp2_with fail
      generalize CrcMath.refReg (CrcMath.rev (~~~ c)) ((p.map bW).take k) = r0 at *
      go_loop [5, 8] (fun c' i => ∃ j : Nat, j ≤ 8 ∧ i = .int .i64 j ∧ c' = .int .u32 (uI (CrcMath.bitsTo r0 (bW p[k]) j))) (fun _ i => 8 - (intOf i).toNat)
      case atStart => exact ⟨0, by omega, rfl, by rw [CrcMath.bitsTo_zero]⟩
      case round =>
        obtain ⟨j, hj, rfl, rfl⟩ := hrel
        by_cases hlt2 : j < 8
        · have hb := bW_bit p[k] j
          cases hbb : (bW p[k]).getLsbD j
          · rw [hbb] at hb
            have HB := Lib.hid hbb
            clear hbb
            go_wp2_with (go_at_call 95; (with_reducible refine (double_calls _ _).mono ?_); rintro e w' ⟨rfl, rfl⟩)
            go_round
            case rel => exact ⟨j + 1, by omega, by go_num, by rw [CrcMath.bitsTo_next, HB.out]; simp⟩
            case measure => simp [intOf]; omega
          · rw [hbb, if_pos rfl] at hb
            have HB := Lib.hid hbb
            have hx := bits_xor_lit (CrcMath.bitsTo r0 (bW p[k]) j) 2147483648
            clear hbb
            go_wp2_with (go_at_call 95; (with_reducible refine (double_calls _ _).mono ?_); rintro e w' ⟨rfl, rfl⟩)
            go_round
            case rel => exact ⟨j + 1, by omega, by go_num, by rw [CrcMath.bitsTo_next, HB.out]; rfl⟩
            case measure => simp [intOf]; omega
        · have hj8 : j = 8 := by omega
          have HJ := Lib.hid hj8
          clear hj8
          go_wp2
          go_round
          case rel => exact ⟨k + 1, by omega, by go_num, by rw [HS.out, HJ.out]⟩
          case measure => simp [intOf]; omega
    · obtain rfl : k = p.length := by omega
      go_wp2_with (go_at_call 94; (with_reducible refine (turned_calls _ _).mono ?_); rintro e w' ⟨rfl, rfl⟩)
      go_ret
      exact ⟨ret_int (by rw [List.take_of_length_le (by simp)]), rfl⟩

theorem refsum_calls (A : Option Addr) (p : List UInt8) (cap : Nat) (w : World) (hp : RB w A cap p) :
    Calls Try.prog 87 #[.slice A p.length cap] w fun e w' => e = .returned (.int .u32 (uI (CrcMath.sum (p.map bW)))) ∧ w = w' := by
  have h := refupdate_calls 0 A p cap w hp
  rw [show uI 0 = 0 from rfl] at h
  have H := Lib.hid h
  clear h
  go_enter Try.func87, Try.ntmps87
  go_wp2_with (go_at_call 92; (with_reducible refine (H.out).mono ?_); rintro e w' ⟨rfl, rfl⟩)
  go_ret
  exact ⟨rfl, rfl⟩


theorem refupdateR (c : W) (A : Option Addr) (p : List UInt8) (n cap : Nat) (w : World) (hp : RB w A cap p) (hn : n = p.length) (r : W) (hr : CrcMath.upd c (p.map bW) = r) :
    Calls Try.prog 92 #[.int .u32 (uI c), .slice A n cap] w fun e w' => e = .returned (.int .u32 (uI r)) ∧ w = w' := by
  subst hn; subst hr; exact refupdate_calls c A p cap w hp
theorem refsumR (A : Option Addr) (p : List UInt8) (n cap : Nat) (w : World) (hp : RB w A cap p) (hn : n = p.length) (r : W) (hr : CrcMath.sum (p.map bW) = r) :
    Calls Try.prog 87 #[.slice A n cap] w fun e w' => e = .returned (.int .u32 (uI r)) ∧ w = w' := by
  subst hn; subst hr; exact refsum_calls A p cap w hp
end Go.Proofs.Ytdpmalegpjimfaa
