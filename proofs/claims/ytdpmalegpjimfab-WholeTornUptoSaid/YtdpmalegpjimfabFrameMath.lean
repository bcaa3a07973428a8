/- Plain laws on frames. -/
import Derived.Test.YtdpmalegpjimfabFrameWalk3
import Derived.Test.YtdpmalegpjimfabWireMath2
namespace Go.Proofs.Ytdpmalegpjimfab
open WireMath (wideL numS beN byteAt)
open FrameMath (head crcP laid)

/-- how a frame's bytes part -/
theorem laid_parts (place : Nat) (p tail : List UInt8) : laid place p ++ tail = [0xf5] ++ (wideL p.length 4 ++ (wideL place 8 ++ (wideL (crcP place p).toNat 4 ++ (p ++ (0x5f :: tail))))) := by
  simp [FrameMath.laid, FrameMath.head]
theorem next_laid (place : Nat) (p tail : List UInt8) (hpl : place ≤ 18446744073709551615) (h1 : 1 ≤ p.length) (h2 : p.length ≤ 65535) : nextF (laid place p ++ tail) 0 = ⟨1, place, p, p.length + 18⟩ := by
  have hl : (laid place p ++ tail).length = p.length + 18 + tail.length := by rw [List.length_append, FrameMath.laid_length]
  have w4 := WireMath.wideL_length p.length 4
  have w8 := WireMath.wideL_length place 8
  have wc := WireMath.wideL_length (crcP place p).toNat 4
  have d1 : (laid place p ++ tail).drop 1 = wideL p.length 4 ++ (wideL place 8 ++ (wideL (crcP place p).toNat 4 ++ (p ++ (0x5f :: tail)))) := by rw [laid_parts]; rfl
  have d5 : (laid place p ++ tail).drop 5 = wideL place 8 ++ (wideL (crcP place p).toNat 4 ++ (p ++ (0x5f :: tail))) := by
    rw [show 5 = 1 + 4 from rfl, ← List.drop_drop, d1, List.drop_left' w4]
  have d17 : (laid place p ++ tail).drop 17 = p ++ (0x5f :: tail) := by
    rw [show 17 = 5 + (8 + 4) from rfl, ← List.drop_drop, d5, ← List.drop_drop, List.drop_left' w8, List.drop_left' wc]
  have e1 : beN (((laid place p ++ tail).drop 1).take 4) = p.length := by
    rw [d1, List.take_left' w4, beN_wideL]; omega
  have e2 : beN (((laid place p ++ tail).drop 5).take 8) = place := by
    rw [d5, List.take_left' w8, beN_wideL]; omega
  have e3 : ((laid place p ++ tail).drop 17).take p.length = p := by rw [d17, List.take_left' rfl]
  unfold nextF
  rw [if_neg (by omega), if_neg (by omega)]
  simp only [show (0 : Int).toNat = 0 from rfl, Nat.zero_add, e1, e2, e3]
  rw [if_neg (by omega), if_pos (by rw [List.drop_zero, List.take_left' (FrameMath.laid_length place p)])]
  congr 1
  omega
/-- a frame that Next tells: what it is, and where -/
theorem next_whole (P : List UInt8) (at_ : Int) (h : (nextF P at_).kind = 1) : ∃ a : Nat, at_ = a ∧ 1 ≤ (nextF P at_).payload.length ∧ (nextF P at_).payload.length ≤ 65535 ∧ (nextF P at_).place ≤ 18446744073709551615 ∧ (nextF P at_).next = a + 17 + (nextF P at_).payload.length + 1 ∧ a + (nextF P at_).payload.length + 18 ≤ P.length ∧ laid (nextF P at_).place (nextF P at_).payload = (P.drop a).take ((nextF P at_).payload.length + 18) := by
  by_cases h1 : at_ = P.length
  · rw [nextF, if_pos h1] at h; exact absurd h (by simp [noNx])
  · by_cases h2 : at_ < 0 ∨ P.length < at_ + 17
    · rw [nextF, if_neg h1, if_pos h2] at h; exact absurd h (by simp [noNx])
    · obtain ⟨a, rfl⟩ := Int.eq_ofNat_of_zero_le (by omega : 0 ≤ at_)
      have hm := next_mid P a (by omega) h1
      simp only at hm
      rw [hm] at h ⊢
      by_cases h3 : beN ((P.drop (a + 1)).take 4) < 1 ∨ 65535 < beN ((P.drop (a + 1)).take 4) ∨ P.length < a + 18 + beN ((P.drop (a + 1)).take 4)
      · rw [if_pos h3] at h; exact absurd h (by simp [noNx])
      · rw [if_neg h3] at h ⊢
        by_cases h4 : laid (beN ((P.drop (a + 5)).take 8)) ((P.drop (a + 17)).take (beN ((P.drop (a + 1)).take 4))) = (P.drop a).take (beN ((P.drop (a + 1)).take 4) + 18)
        · rw [if_pos h4]
          have hlen : ((P.drop (a + 17)).take (beN ((P.drop (a + 1)).take 4))).length = beN ((P.drop (a + 1)).take 4) := by simp; omega
          refine ⟨a, rfl, ?_, ?_, beN8 _ (by simp; omega), ?_, ?_, ?_⟩ <;> simp only [hlen]
          · omega
          · omega
          · omega
          · exact h4
        · rw [if_neg h4] at h; exact absurd h (by simp [noNx])
/-- where it tells none -/
theorem next_other (P : List UInt8) (at_ : Int) (h : (nextF P at_).kind ≠ 1) : nextF P at_ = noNx (if at_ = P.length then 0 else 2) at_ := by
  by_cases h1 : at_ = P.length
  · rw [if_pos h1, nextF, if_pos h1]
  · rw [if_neg h1]
    by_cases h2 : at_ < 0 ∨ P.length < at_ + 17
    · rw [nextF, if_neg h1, if_pos h2]
    · obtain ⟨a, rfl⟩ := Int.eq_ofNat_of_zero_le (by omega : 0 ≤ at_)
      have hm := next_mid P a (by omega) h1
      simp only at hm
      rw [hm] at h ⊢
      split at h
      · rename_i h3; rw [if_pos h3]
      · rename_i h3
        rw [if_neg h3]
        split at h
        · exact absurd rfl h
        · rename_i h4; rw [if_neg h4]
end Go.Proofs.Ytdpmalegpjimfab
