/- Plain laws: of bytes that end early, the things that were laid are not all taken off without a fault. -/
import Derived.Test.YtdpmalegpjimfabWireAsk
import Derived.Test.YtdpmalegpjimfabTakeMath
namespace Go.Proofs.Ytdpmalegpjimfab
open WireMath (numS uvarS rawS blobS grpL)

def Took.moved (t : Took) (a : Nat) : Took := ⟨t.v, t.q, t.at_ + a, t.e⟩
theorem numS_shift (P : List UInt8) (at_ n : Nat) : numS P at_ 0 n = ((numS (P.drop at_) 0 0 n).1, (numS (P.drop at_) 0 0 n).2.1 + at_, (numS (P.drop at_) 0 0 n).2.2) := by
  unfold WireMath.numS
  simp only [ne_eq, not_true_eq_false, ↓reduceIte, List.length_drop, Nat.sub_zero, List.drop_zero]
  by_cases h : P.length - at_ < n
  · simp only [h, ↓reduceIte, Nat.zero_add]
  · simp [h, Nat.add_comm]
theorem uvarS_shift (P : List UInt8) (at_ : Nat) : uvarS P at_ 0 = ((uvarS (P.drop at_) 0 0).1, (uvarS (P.drop at_) 0 0).2.1 + at_, (uvarS (P.drop at_) 0 0).2.2) := by
  unfold WireMath.uvarS
  simp only [ne_eq, not_true_eq_false, ↓reduceIte, List.drop_zero, Nat.zero_add, Nat.add_comm]
theorem rawS_shift (P : List UInt8) (at_ : Nat) (n : Int) : rawS P at_ 0 n = ((rawS (P.drop at_) 0 0 n).1, (rawS (P.drop at_) 0 0 n).2.1 + at_, (rawS (P.drop at_) 0 0 n).2.2) := by
  unfold WireMath.rawS
  simp only [ne_eq, not_true_eq_false, ↓reduceIte, List.length_drop, Nat.sub_zero, List.drop_zero]
  by_cases h : n < 0
  · simp [h]
  · by_cases h2 : ((P.length - at_ : Nat) : Int) < n
    · simp [h, h2]
    · simp [h, h2, Nat.add_comm]
theorem blobS_shift (P : List UInt8) (at_ : Nat) (n : Int) : blobS P at_ 0 n = ((blobS (P.drop at_) 0 0 n).1, (blobS (P.drop at_) 0 0 n).2.1 + at_, (blobS (P.drop at_) 0 0 n).2.2) := by
  unfold WireMath.blobS
  simp only [ne_eq, not_true_eq_false, ↓reduceIte, List.length_drop, Nat.sub_zero, Nat.add_zero, Nat.zero_add, List.drop_drop]
  by_cases h : n < 0
  · simp [h]
  · by_cases h2 : (grpL (P.drop at_)).2 = 0
    · simp [h, h2]
    · by_cases h3 : n < (grpL (P.drop at_)).1
      · simp [h, h2, h3]
      · by_cases h4 : P.length - at_ - (grpL (P.drop at_)).2 < (grpL (P.drop at_)).1
        · simp [h, h2, h3, h4]
        · simp only [h, h2, h3, h4, ↓reduceIte, Nat.add_comm, Nat.add_left_comm]
/-- what is taken off at a place is what is taken off the rest -/
theorem takeS_shift (P : List UInt8) (at_ : Nat) (k n : Int) : takeS P at_ 0 k n = (takeS (P.drop at_) 0 0 k n).moved at_ := by
  unfold takeS
  rw [numS_shift, uvarS_shift, rawS_shift, blobS_shift]
  by_cases hw : 0 < widthF k
  · simp only [if_pos hw, Took.moved]
  · by_cases h5 : k = 5
    · simp only [if_neg hw, if_pos h5, Took.moved]
    · by_cases h6 : k = 6
      · simp only [if_neg hw, if_neg h5, if_pos h6, Took.moved]
      · by_cases h7 : k = 7
        · simp only [if_neg hw, if_neg h5, if_neg h6, if_pos h7, Took.moved]
        · simp only [if_neg hw, if_neg h5, if_neg h6, if_neg h7, Took.moved, Nat.zero_add]
theorem take_less (W : List UInt8) (n at_ : Nat) (k : Int) (v : Nat) (P rest : List UInt8) (hk1 : 1 ≤ k) (hk7 : k ≤ 7) (hv : v ≤ 18446744073709551615) (hpl : P.length < 2 ^ 64) (hd : W.drop at_ = laidL k v P ++ rest) (hat : at_ ≤ n) (t : Took) (ht : takeS (W.take n) at_ 0 k P.length = t) :
    t.e ≠ 0 ∨ (t.e = 0 ∧ t.at_ = at_ + (laidL k v P).length ∧ t.at_ ≤ n) := by
  have hd2 : (W.take n).drop at_ = (laidL k v P ++ rest).take (n - at_) := by rw [List.drop_take, hd]
  by_cases h : at_ + (laidL k v P).length ≤ n
  · have h2 : (W.take n).drop at_ = laidL k v P ++ rest.take (n - at_ - (laidL k v P).length) := by rw [hd2, List.take_append, List.take_of_length_le (by omega)]
    have := take_laid (W.take n) at_ k v P.length P _ hk1 hk7 hv h2 (fun _ => rfl) (fun _ => Int.le_refl _) hpl
    rw [ht] at this
    subst this
    exact .inr ⟨rfl, rfl, h⟩
  · have h2 : (W.take n).drop at_ = (laidL k v P).take (n - at_) := by rw [hd2, List.take_append_of_le_length (by omega)]
    rw [takeS_shift, h2, take_cut k v _ P hk1 hk7 hpl (by omega)] at ht
    subst ht
    exact .inl (by simp [Took.moved])
end Go.Proofs.Ytdpmalegpjimfab
