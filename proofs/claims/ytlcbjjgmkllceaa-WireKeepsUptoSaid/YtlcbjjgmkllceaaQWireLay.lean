import Derived.Test.YtlcbjjgmkllceaaQBb
/- The laws' own calls of layer 1 on a writer: lay, laid, cut, width. -/
namespace Go.Proofs.Ytlcbjjgmkllceaa
open Go.RowKit
open WireMath (numS beN rawS blobS uvarS grpL grpTo uvarL uvarF grp lst wideL byteAt)

/-- what a script's thing asks -/
def widthF (k : Int) : Nat := if k = 1 then 1 else if k = 2 then 2 else if k = 3 then 4 else if k = 4 then 8 else 0
def cutN (k : Int) (v : Nat) : Nat := if k = 1 then v % 256 else if k = 2 then v % 65536 else if k = 3 then v % 4294967296 else v
def laidL (k : Int) (v : Nat) (P : List UInt8) : List UInt8 :=
  if 0 < widthF k then wideL (cutN k v) (widthF k) else if k = 5 then uvarL v else if k = 6 then P else if k = 7 then uvarL P.length ++ P else []
theorem laidL_length (k : Int) (v : Nat) (P : List UInt8) : (laidL k v P).length ≤ P.length + 10 := by
  unfold laidL widthF
  have := WireMath.uvarL_length v
  have := WireMath.uvarL_length P.length
  repeat' split
  all_goals simp_all [WireMath.wideL_length] <;> omega
theorem wide1 (v : Nat) : wideL (v % 256) 1 = [UInt8.ofNat (v % 256)] := by simp [WireMath.wideL, WireMath.byteAt]

theorem wrap16 (v : Nat) : IntKind.u16.wrap (v : Int) = ((v % 65536 : Nat) : Int) := by
  rw [IntKind.wrap_u16]; omega
theorem width_calls (k : Int) (w : World) : Calls Try.prog 63 #[.int .i64 k] w fun e w' => e = .returned (.int .i64 (widthF k)) ∧ w = w' := by
  by_cases h1 : k = 1
  · subst h1
    go_enter Try.func63, Try.ntmps63
    go_wp2
    go_ret
    exact ⟨rfl, rfl⟩
  · by_cases h2 : k = 2
    · subst h2
      go_enter Try.func63, Try.ntmps63
      go_wp2
      go_ret
      exact ⟨rfl, rfl⟩
    · by_cases h3 : k = 3
      · subst h3
        go_enter Try.func63, Try.ntmps63
        go_wp2
        go_ret
        exact ⟨rfl, rfl⟩
      · by_cases h4 : k = 4
        · subst h4
          go_enter Try.func63, Try.ntmps63
          go_wp2
          go_ret
          exact ⟨rfl, rfl⟩
        · have hw : widthF k = 0 := by unfold widthF; rw [if_neg h1, if_neg h2, if_neg h3, if_neg h4]
          rw [hw]
          have b1 : (k == 1) = false := by rw [beq_eq_false_iff_ne]; exact h1
          have b2 : (k == 2) = false := by rw [beq_eq_false_iff_ne]; exact h2
          have b3 : (k == 3) = false := by rw [beq_eq_false_iff_ne]; exact h3
          have b4 : (k == 4) = false := by rw [beq_eq_false_iff_ne]; exact h4
          clear hw h1 h2 h3 h4
          go_enter Try.func63, Try.ntmps63
          go_wp2
          go_ret
          exact ⟨rfl, rfl⟩
theorem widthN (k : Int) (n : Int) (hn : (widthF k : Int) = n) (w : World) : Calls Try.prog 63 #[.int .i64 k] w fun e w' => e = .returned (.int .i64 n) ∧ w = w' := by
  subst hn; exact width_calls k w
/-- the kinds -/
theorem kinds (k : Int) : k = 1 ∨ k = 2 ∨ k = 3 ∨ k = 4 ∨ k = 5 ∨ k = 6 ∨ k = 7 ∨ ((k == 1) = false ∧ (k == 2) = false ∧ (k == 3) = false ∧ (k == 4) = false ∧ (k == 5) = false ∧ (k == 6) = false ∧ (k == 7) = false) := by
  simp only [beq_eq_false_iff_ne]; omega
theorem laidL_none (k : Int) (v : Nat) (P : List UInt8) (h : (k == 1) = false ∧ (k == 2) = false ∧ (k == 3) = false ∧ (k == 4) = false ∧ (k == 5) = false ∧ (k == 6) = false ∧ (k == 7) = false) : laidL k v P = [] := by
  simp only [beq_eq_false_iff_ne] at h
  unfold laidL widthF
  simp [h.1, h.2.1, h.2.2.1, h.2.2.2.1, h.2.2.2.2.1, h.2.2.2.2.2.1, h.2.2.2.2.2.2]

set_option maxRecDepth 100000 in
theorem wlay_calls {w : World} {F : Nat → Prop} {b : Nat} {p : List UInt8} (h : WrF w F b p) (k : Int) (v : Nat) (n : Int) (A : Option Addr) (P : List UInt8) (m c : Nat) (q : List UInt8) (hq : p ++ laidL k v P = q) (hm : m = P.length) (hv : v ≤ 18446744073709551615) (hP : RB w A c P) (hf : Free F A P) (hl : p.length + P.length + 10 ≤ 140737488355328) :
    Calls Try.prog 42 #[.pointer (some ⟨b, 0, none⟩), .agg #[.int .i64 k, .int .u64 v, .int .i64 n, .slice A m c]] w fun e w' => ∃ F', e = .returned (.tuple #[]) ∧ WrF w' F' b q ∧ Step w w' F F' := by
  subst hm
  have HB := Lib.hid (below_alloc1 (Below.refl w.heap.size w) (Nat.le_refl _) (.cells #[.int .i64 k, .int .u64 v, .int .i64 n, .slice A P.length c] 79))
  have HW := Lib.hid (h.new HB.out)
  have HP := Lib.hid (hP.new HB.out)
  have hl8 : p.length + 8 ≤ 140737488355328 := by omega
  have hl10 : p.length + 10 ≤ 140737488355328 := by omega
  rcases kinds k with rfl | rfl | rfl | rfl | rfl | rfl | rfl | hk
  · have HQ := Lib.hid (show p ++ [UInt8.ofNat (v % 256)] = q by rw [← hq, ← wide1]; rfl)
    clear hq
    go_enter Try.func42, Try.ntmps42
    go_wp2_with (go_at_call 67; (with_reducible refine (u8F HW.out q (v % 256) ((v : Int) % 256) (by omega) HQ.out (by omega) hl8).mono ?_); rintro e1 w1 ⟨F1, rfl, hw1, hs1⟩)
    go_end0
    exact ⟨F1, rfl, hw1, Step.ahead HB.out hs1⟩
  · have HQ := Lib.hid (show p ++ wideL (v % 65536) 2 = q by rw [← hq]; rfl)
    clear hq
    go_enter Try.func42, Try.ntmps42
    go_wp2_with (go_at_call 32; (with_reducible refine (u16F HW.out q (v % 65536) (IntKind.u16.wrap v) (wrap16 v) HQ.out (by omega) hl8).mono ?_); rintro e1 w1 ⟨F1, rfl, hw1, hs1⟩)
    go_end0
    exact ⟨F1, rfl, hw1, Step.ahead HB.out hs1⟩
  · have HQ := Lib.hid (show p ++ wideL (v % 4294967296) 4 = q by rw [← hq]; rfl)
    clear hq
    go_enter Try.func42, Try.ntmps42
    go_wp2_with (go_at_call 68; (with_reducible refine (u32F HW.out q (v % 4294967296) ((v : Int) % 4294967296) (by omega) HQ.out (by omega) hl8).mono ?_); rintro e1 w1 ⟨F1, rfl, hw1, hs1⟩)
    go_end0
    exact ⟨F1, rfl, hw1, Step.ahead HB.out hs1⟩
  · have HQ := Lib.hid (show p ++ wideL v 8 = q by rw [← hq]; rfl)
    clear hq
    go_enter Try.func42, Try.ntmps42
    go_wp2_with (go_at_call 69; (with_reducible refine (u64F HW.out q v _ rfl HQ.out hv hl8).mono ?_); rintro e1 w1 ⟨F1, rfl, hw1, hs1⟩)
    go_end0
    exact ⟨F1, rfl, hw1, Step.ahead HB.out hs1⟩
  · have HQ := Lib.hid (show p ++ uvarL v = q by rw [← hq]; rfl)
    clear hq
    go_enter Try.func42, Try.ntmps42
    go_wp2_with (go_at_call 31; (with_reducible refine (uvarFF HW.out q v _ rfl HQ.out hv hl10).mono ?_); rintro e1 w1 ⟨F1, rfl, hw1, hs1⟩)
    go_end0
    exact ⟨F1, rfl, hw1, Step.ahead HB.out hs1⟩
  · have HQ := Lib.hid (show p ++ P = q by rw [← hq]; rfl)
    clear hq
    go_enter Try.func42, Try.ntmps42
    go_wp2_with (go_at_call 70; (with_reducible refine (rawF HW.out A P q P.length c HQ.out HP.out rfl (by omega)).mono ?_); rintro e1 w1 ⟨F1, rfl, hw1, hs1⟩)
    go_end0
    exact ⟨F1, rfl, hw1, Step.ahead HB.out hs1⟩
  · have HQ := Lib.hid (show p ++ (uvarL P.length ++ P) = q by rw [← hq]; rfl)
    clear hq
    go_enter Try.func42, Try.ntmps42
    go_wp2_with (go_at_call 71; (with_reducible refine (blobF HW.out A P q P.length c HQ.out HP.out hf rfl hl).mono ?_); rintro e1 w1 ⟨F1, rfl, hw1, hs1⟩)
    go_end0
    exact ⟨F1, rfl, hw1, Step.ahead HB.out hs1⟩
  · have HQ := Lib.hid (show p = q by rw [← hq, laidL_none k v P hk, List.append_nil])
    obtain ⟨b1, b2, b3, b4, b5, b6, b7⟩ := hk
    clear hq
    go_enter Try.func42, Try.ntmps42
    go_wp2
    go_end0
    refine ⟨F, rfl, ?_, Step.of_below HB.out F⟩
    rw [← HQ.out]
    exact HW.out
end Go.Proofs.Ytlcbjjgmkllceaa
