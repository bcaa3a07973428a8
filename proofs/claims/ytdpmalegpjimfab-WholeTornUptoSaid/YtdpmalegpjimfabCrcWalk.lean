/- The walks of the check sum's functions: each call comes to what the plain functions of CrcMath say. -/
import Derived.Test.YtdpmalegpjimfabWords
import Derived.Deep.LoopGhost
import Derived.Deep.DeepCutAuto
namespace Go.Proofs.Ytdpmalegpjimfab
open Go.RowKit
open CrcMath (W)
attribute [local go_sem] uI_not bits_xor_uI bits_xor_byte

theorem turn_calls (x : W) (w : World) :
    Calls Try.prog 93 #[.int .u32 (uI x)] w fun e w' => e = .returned (.int .u32 (uI (CrcMath.turn x))) ∧ w = w' := by
  have hr := uI_range x
  have h1 := bits_and_one x
  have h2 : bits .xor .u32 (uI x / 2) 2197175160 = uI (x >>> 1 ^^^ 2197175160#32) := by rw [uI_half]; exact bits_xor_lit (x >>> 1) 2197175160
  unfold CrcMath.turn
  cases hb : x.getLsbD 0
  · rw [hb, if_neg (by decide)] at h1
    rw [if_neg (by decide)]
    clear h2 hb
    go_enter Try.func93, Try.ntmps93
    go_wp2
    go_ret
    exact ⟨ret_int (uI_half x), rfl⟩
  · rw [hb, if_pos rfl] at h1
    rw [if_pos rfl]
    clear hb
    go_enter Try.func93, Try.ntmps93
    go_wp2
    go_ret
    exact ⟨rfl, rfl⟩

theorem step_calls (x : W) (w : World) :
    Calls Try.prog 92 #[.int .u32 (uI x)] w fun e w' => e = .returned (.int .u32 (uI (CrcMath.Z x))) ∧ w = w' := by
  unfold CrcMath.Z
  go_enter Try.func92, Try.ntmps92
  go_wp2
  go_loop [0, 3] (fun c i => ∃ k : Nat, k ≤ 8 ∧ i = .int .i64 k ∧ c = .int .u32 (uI (CrcMath.it CrcMath.turn k x))) (fun _ i => 8 - (intOf i).toNat)
  case atStart => exact ⟨0, by omega, rfl, rfl⟩
  case round =>
    obtain ⟨k, hk, rfl, rfl⟩ := hrel
    by_cases hlt : k < 8
    · go_wp2_with (go_at_call 93; (with_reducible refine (turn_calls _ _).mono ?_); rintro e w' ⟨rfl, rfl⟩)
      go_round
      case rel => exact ⟨k + 1, by omega, by go_num, rfl⟩
      case measure => simp [intOf]; omega
    · obtain rfl : k = 8 := by omega
      go_wp2
      go_ret
      exact ⟨rfl, rfl⟩

theorem take_snoc {α : Type} (p : List α) (k : Nat) (h : k < p.length) : p.take (k + 1) = p.take k ++ [p[k]] := List.take_succ_eq_append_getElem h

theorem update_calls (c : W) (A : Option Addr) (p : List UInt8) (cap : Nat) (w : World) (hp : RB w A cap p) :
    Calls Try.prog 80 #[.int .u32 (uI c), .slice A p.length cap] w fun e w' => e = .returned (.int .u32 (uI (CrcMath.upd c (p.map bW)))) ∧ w = w' := by
  have hl := hp.small
  unfold CrcMath.upd
  go_enter Try.func80, Try.ntmps80
  go_wp2
  go_loop [0, 11] (fun c' i => ∃ k : Nat, k ≤ p.length ∧ i = .int .i64 k ∧ c' = .int .u32 (uI (CrcMath.reg (~~~ c) ((p.map bW).take k)))) (fun _ i => p.length - (intOf i).toNat)
  case atStart => exact ⟨0, by omega, rfl, rfl⟩
  case round =>
    obtain ⟨k, hk, rfl, rfl⟩ := hrel
    by_cases hlt : k < p.length
    · obtain ⟨a, rfl, hc⟩ := hp.at_ k hlt
      have hs : CrcMath.reg (~~~ c) ((p.map bW).take (k + 1)) = CrcMath.Z (CrcMath.reg (~~~ c) ((p.map bW).take k) ^^^ bW p[k]) := by
        rw [take_snoc (p.map bW) k (by simpa using hlt), CrcMath.reg_append, List.getElem_map]; rfl
      have HS := Lib.hid hs
      clear hs hp
      have hr := uB_range p[k]
      go_wp2_with (go_at_call 92; (with_reducible refine (step_calls _ _).mono ?_); rintro e w' ⟨rfl, rfl⟩)
      go_round
      case rel => exact ⟨k + 1, by omega, by go_num, by rw [HS.out]⟩
      case measure => simp [intOf]; omega
    · obtain rfl : k = p.length := by omega
      go_wp2
      go_ret
      exact ⟨ret_int (by rw [List.take_of_length_le (by simp)]), rfl⟩

theorem sum_calls (A : Option Addr) (p : List UInt8) (cap : Nat) (w : World) (hp : RB w A cap p) :
    Calls Try.prog 81 #[.slice A p.length cap] w fun e w' => e = .returned (.int .u32 (uI (CrcMath.sum (p.map bW)))) ∧ w = w' := by
  have h := update_calls 0 A p cap w hp
  rw [show uI 0 = 0 from rfl] at h
  have H := Lib.hid h
  clear h
  go_enter Try.func81, Try.ntmps81
  go_wp2_with (go_at_call 80; (with_reducible refine (H.out).mono ?_); rintro e w' ⟨rfl, rfl⟩)
  go_ret
  exact ⟨rfl, rfl⟩


/-! ### The same, with the length and the answer spelled as a caller has them -/
theorem updateR (c : W) (A : Option Addr) (p : List UInt8) (n cap : Nat) (w : World) (hp : RB w A cap p) (hn : n = p.length) (r : W) (hr : CrcMath.upd c (p.map bW) = r) :
    Calls Try.prog 80 #[.int .u32 (uI c), .slice A n cap] w fun e w' => e = .returned (.int .u32 (uI r)) ∧ w = w' := by
  subst hn; subst hr; exact update_calls c A p cap w hp
theorem sumR (A : Option Addr) (p : List UInt8) (n cap : Nat) (w : World) (hp : RB w A cap p) (hn : n = p.length) (r : W) (hr : CrcMath.sum (p.map bW) = r) :
    Calls Try.prog 81 #[.slice A n cap] w fun e w' => e = .returned (.int .u32 (uI r)) ∧ w = w' := by
  subst hn; subst hr; exact sum_calls A p cap w hp
theorem map_bW_append (p q : List UInt8) : (p ++ q).map bW = p.map bW ++ q.map bW := List.map_append
end Go.Proofs.Ytdpmalegpjimfab
