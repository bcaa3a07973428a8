/- Plain laws on things laid and taken off again. No program stands here. -/
import Derived.Test.YtdpmalegpjimfabWireTake
import Derived.Test.YtdpmalegpjimfabWireMath2
namespace Go.Proofs.Ytdpmalegpjimfab
open WireMath (byteAt wideL beN grpTo grpL uvarF uvarL grp lst numS uvarS rawS blobS)

theorem cutN_mod (k : Int) (v : Nat) (hw : 0 < widthF k) (hv : v ≤ 18446744073709551615) : cutN k v % 256 ^ widthF k = cutN k v := by
  unfold widthF at hw
  unfold cutN widthF
  by_cases h1 : k = 1
  · simp [h1]
  · by_cases h2 : k = 2
    · simp [h2]
    · by_cases h3 : k = 3
      · simp [h3]
      · by_cases h4 : k = 4
        · simp [h4]; omega
        · simp [h1, h2, h3, h4] at hw
theorem widthF_pos (k : Int) : 0 < widthF k ↔ 1 ≤ k ∧ k ≤ 4 := by
  unfold widthF
  constructor
  · intro h
    repeat' split at h
    all_goals omega
  · intro h
    repeat' split
    all_goals omega
/-- what a thing is, taken off -/
def tookOf (k : Int) (v : Nat) (P : List UInt8) (at_ : Nat) : Took := ⟨if k ≤ 5 then cutN k v else 0, if k ≤ 5 then [] else P, at_ + (laidL k v P).length, 0⟩
theorem take_laid (W : List UInt8) (at_ : Nat) (k : Int) (v : Nat) (n : Int) (P rest : List UInt8) (hk1 : 1 ≤ k) (hk7 : k ≤ 7) (hv : v ≤ 18446744073709551615) (hd : W.drop at_ = laidL k v P ++ rest) (h6 : k = 6 → n = P.length) (h7 : k = 7 → (P.length : Int) ≤ n) (hpl : P.length < 2 ^ 64) :
    takeS W at_ 0 k n = tookOf k v P at_ := by
  have hl : W.length - at_ = (laidL k v P).length + rest.length := by rw [← List.length_drop, hd, List.length_append]
  by_cases hw : 0 < widthF k
  · have hk := (widthF_pos k).1 hw
    have hL : laidL k v P = wideL (cutN k v) (widthF k) := by unfold laidL; rw [if_pos hw]
    rw [hL] at hd hl
    rw [WireMath.wideL_length] at hl
    unfold takeS tookOf
    rw [if_pos hw, hL, WireMath.wideL_length, if_pos (by omega), if_pos (by omega)]
    unfold WireMath.numS
    rw [if_neg (by simp), if_neg (by omega), hd, List.take_left' (WireMath.wideL_length _ _), beN_wideL, cutN_mod k v hw hv]
  · have hw2 : ¬ (1 ≤ k ∧ k ≤ 4) := fun h => hw ((widthF_pos k).2 h)
    have hL : laidL k v P = if k = 5 then uvarL v else if k = 6 then P else if k = 7 then uvarL P.length ++ P else [] := by unfold laidL; rw [if_neg hw]
    unfold takeS tookOf
    rw [if_neg hw]
    rcases (by omega : k = 5 ∨ k = 6 ∨ k = 7) with rfl | rfl | rfl
    · rw [if_pos rfl] at hL
      rw [hL] at hd
      rw [if_pos rfl, if_pos (by decide), if_pos (by decide), hL]
      have hp := WireMath.uvarF_pos 9 v
      unfold WireMath.uvarS
      rw [if_neg (by simp), hd, grpL_laid v rest (by omega)]
      simp only
      rw [if_neg (by unfold WireMath.uvarL; omega)]
      rfl
    · rw [if_neg (by decide), if_pos rfl] at hL
      have h6 := h6 rfl
      subst h6
      rw [hL] at hd hl
      rw [if_neg (by decide), if_pos rfl, if_neg (by decide), if_neg (by decide), hL]
      unfold WireMath.rawS
      rw [if_neg (by simp), if_neg (by omega), if_neg (by omega), hd]
      simp
    · rw [if_neg (by decide), if_neg (by decide), if_pos rfl] at hL
      have h7 := h7 rfl
      rw [hL] at hd hl
      rw [List.length_append] at hl
      rw [if_neg (by decide), if_neg (by decide), if_pos rfl, if_neg (by decide), if_neg (by decide), hL]
      have hp := WireMath.uvarF_pos 9 P.length
      have hlen : (uvarL P.length).length = (uvarF 9 P.length).length := rfl
      have hg : grpL (W.drop at_) = (P.length, (uvarL P.length).length) := by rw [hd, List.append_assoc, grpL_laid _ _ hpl]
      unfold WireMath.blobS
      rw [if_neg (by simp), if_neg (by omega), hg]
      simp only
      rw [if_neg (by omega), if_neg (by omega), if_neg (by omega), ← List.drop_drop, hd, List.append_assoc, List.drop_left' rfl, List.take_left' rfl, List.length_append, Nat.add_assoc]
theorem take_cut (k : Int) (v m : Nat) (P : List UInt8) (hk1 : 1 ≤ k) (hk7 : k ≤ 7) (hpl : P.length < 2 ^ 64) (hm : m < (laidL k v P).length) : takeS ((laidL k v P).take m) 0 0 k P.length = ⟨0, [], 0, 3⟩ := by
  have hml : ((laidL k v P).take m).length = m := by rw [List.length_take]; omega
  by_cases hw : 0 < widthF k
  · have hL : laidL k v P = wideL (cutN k v) (widthF k) := by unfold laidL; rw [if_pos hw]
    have hm2 : m < widthF k := by rw [hL, WireMath.wideL_length] at hm; exact hm
    unfold takeS
    rw [if_pos hw]
    unfold WireMath.numS
    rw [if_neg (by simp), if_pos (by omega)]
  · have hw2 : ¬ (1 ≤ k ∧ k ≤ 4) := fun h => hw ((widthF_pos k).2 h)
    have hL : laidL k v P = if k = 5 then uvarL v else if k = 6 then P else if k = 7 then uvarL P.length ++ P else [] := by unfold laidL; rw [if_neg hw]
    unfold takeS
    rw [if_neg hw]
    rcases (by omega : k = 5 ∨ k = 6 ∨ k = 7) with rfl | rfl | rfl
    · rw [if_pos rfl] at hL
      rw [hL] at hm ⊢
      rw [if_pos rfl]
      unfold WireMath.uvarS
      rw [if_neg (by simp), List.drop_zero, grpL_cut v m hm]
      rfl
    · rw [if_neg (by decide), if_pos rfl] at hL
      rw [hL] at hm hml ⊢
      rw [if_neg (by decide), if_pos rfl]
      unfold WireMath.rawS
      rw [if_neg (by simp), if_neg (by omega), if_pos (by omega)]
    · rw [if_neg (by decide), if_neg (by decide), if_pos rfl] at hL
      rw [hL] at hm hml ⊢
      rw [if_neg (by decide), if_neg (by decide), if_pos rfl]
      rw [List.length_append] at hm
      have hp := WireMath.uvarF_pos 9 P.length
      have hlen : (uvarL P.length).length = (uvarF 9 P.length).length := rfl
      unfold WireMath.blobS
      rw [if_neg (by simp), if_neg (by omega), List.drop_zero]
      by_cases hmu : m < (uvarL P.length).length
      · rw [List.take_append_of_le_length (by omega), grpL_cut _ _ hmu]
        rfl
      · have hg : grpL ((uvarL P.length ++ P).take m) = (P.length, (uvarL P.length).length) := by
          rw [List.take_append, List.take_of_length_le (by omega), grpL_laid _ _ hpl]
        rw [hg, hml]
        simp only
        rw [if_neg (by omega), if_neg (by omega), if_pos (by omega)]
/-- what was taken off, laid again -/
theorem take_back (W : List UInt8) (at_ : Nat) (k n : Int) (t : Took) (hk1 : 1 ≤ k) (hk7 : k ≤ 7) (hat : at_ ≤ W.length) (hn : n ≤ 9223372036854775807) (ht : takeS W at_ 0 k n = t) (he : t.e = 0) :
    at_ ≤ t.at_ ∧ t.at_ ≤ W.length ∧ laidL k t.v t.q = (W.drop at_).take (t.at_ - at_) ∧ t.v ≤ 18446744073709551615 ∧ t.q.length ≤ t.at_ - at_ := by
  subst ht
  have hld : (W.drop at_).length = W.length - at_ := List.length_drop ..
  by_cases hw : 0 < widthF k
  · have hk := (widthF_pos k).1 hw
    have hw8 : widthF k ≤ 8 := by
      unfold widthF
      repeat' split
      all_goals decide
    unfold takeS at he ⊢
    rw [if_pos hw] at he ⊢
    unfold WireMath.numS at he ⊢
    rw [if_neg (by simp)] at he ⊢
    by_cases hs : W.length - at_ < widthF k
    · rw [if_pos hs] at he; exact absurd he (by simp)
    · rw [if_neg hs]
      simp only
      have hq : ((W.drop at_).take (widthF k)).length = widthF k := by rw [List.length_take]; omega
      have hb := WireMath.beN_lt ((W.drop at_).take (widthF k)) (widthF k) (Nat.le_of_eq hq)
      have h8 : 256 ^ widthF k ≤ 256 ^ 8 := Nat.pow_le_pow_right (by decide) hw8
      have h88 : (256 : Nat) ^ 8 = 18446744073709551616 := by decide
      refine ⟨by omega, by omega, ?_, by omega, by simp⟩
      have hc : cutN k (beN ((W.drop at_).take (widthF k))) = beN ((W.drop at_).take (widthF k)) := by
        generalize beN ((W.drop at_).take (widthF k)) = x at hb
        clear hq hs h8
        unfold widthF at hb
        unfold cutN
        by_cases h1 : k = 1
        · simp [h1] at hb ⊢; omega
        · by_cases h2 : k = 2
          · simp [h2] at hb ⊢; omega
          · by_cases h3 : k = 3
            · simp [h3] at hb ⊢; omega
            · simp [h1, h2, h3]
      unfold laidL
      rw [if_pos hw, hc, show at_ + widthF k - at_ = widthF k by omega]
      have := wideL_beN ((W.drop at_).take (widthF k))
      rw [hq] at this
      exact this
  · have hw2 : ¬ (1 ≤ k ∧ k ≤ 4) := fun h => hw ((widthF_pos k).2 h)
    unfold takeS at he ⊢
    rw [if_neg hw] at he ⊢
    unfold laidL
    rw [if_neg hw]
    rcases (by omega : k = 5 ∨ k = 6 ∨ k = 7) with rfl | rfl | rfl
    · rw [if_pos rfl] at he ⊢
      rw [if_pos rfl]
      unfold WireMath.uvarS at he ⊢
      rw [if_neg (by simp)] at he ⊢
      simp only at he ⊢
      by_cases hg : (grpL (W.drop at_)).2 = 0
      · rw [if_pos hg] at he; exact absurd he (by simp)
      · obtain ⟨h1, h2⟩ := grpL_back (W.drop at_) (grpL (W.drop at_)).1 (grpL (W.drop at_)).2 rfl hg
        have h3 := WireMath.grpL_lt (W.drop at_)
        exact ⟨by omega, by omega, by rw [Nat.add_sub_cancel_left]; exact h2.symm, by omega, by simp⟩
    · rw [if_neg (by decide), if_pos rfl] at he ⊢
      rw [if_neg (by decide), if_pos rfl]
      unfold WireMath.rawS at he ⊢
      rw [if_neg (by simp)] at he ⊢
      by_cases hn0 : n < 0
      · rw [if_pos hn0] at he; exact absurd he (by simp)
      · rw [if_neg hn0] at he ⊢
        by_cases hs : (W.length - at_ : Nat) < n
        · rw [if_pos hs] at he; exact absurd he (by simp)
        · rw [if_neg hs]
          simp only
          exact ⟨by omega, by omega, by rw [Nat.add_sub_cancel_left], by omega, by rw [List.length_take]; omega⟩
    · rw [if_neg (by decide), if_neg (by decide), if_pos rfl] at he ⊢
      rw [if_neg (by decide), if_neg (by decide), if_pos rfl]
      unfold WireMath.blobS at he ⊢
      rw [if_neg (by simp)] at he ⊢
      by_cases hn0 : n < 0
      · rw [if_pos hn0] at he; exact absurd he (by simp)
      · rw [if_neg hn0] at he ⊢
        by_cases hg : (grpL (W.drop at_)).2 = 0
        · rw [if_pos hg] at he; exact absurd he (by simp)
        · rw [if_neg hg] at he ⊢
          by_cases hlo : n < (grpL (W.drop at_)).1
          · rw [if_pos hlo] at he; exact absurd he (by simp)
          · rw [if_neg hlo] at he ⊢
            by_cases hs : W.length - at_ - (grpL (W.drop at_)).2 < (grpL (W.drop at_)).1
            · rw [if_pos hs] at he; exact absurd he (by simp)
            · rw [if_neg hs]
              simp only
              obtain ⟨h1, h2⟩ := grpL_back (W.drop at_) (grpL (W.drop at_)).1 (grpL (W.drop at_)).2 rfl hg
              have hq : ((W.drop (at_ + (grpL (W.drop at_)).2)).take (grpL (W.drop at_)).1).length = (grpL (W.drop at_)).1 := by rw [List.length_take, List.length_drop]; omega
              refine ⟨by omega, by omega, ?_, by omega, by rw [hq]; omega⟩
              rw [hq, ← h2, show at_ + (grpL (W.drop at_)).2 + (grpL (W.drop at_)).1 - at_ = (grpL (W.drop at_)).2 + (grpL (W.drop at_)).1 by omega, List.take_add, List.drop_drop]
end Go.Proofs.Ytdpmalegpjimfab
