/- Plain laws of layer 5: roots: what is laid is taken off again, in one form alone. -/
import Derived.Test.YtelecdncdaepnaaRootDec
import Derived.Test.YtelecdncdaepnaaWireMath2
import Derived.Test.YtelecdncdaepnaaBatchWalk
namespace Go.Proofs.Ytelecdncdaepnaa
open WireMath (numS beN rawS blobS uvarS grpL uvarL wideL)

theorem wide0 (m : Int) (h : wideF m = 0) : 1 ≤ m ∧ m ≤ 32 := by unfold wideF at h; split at h <;> omega
theorem padL_padR (k : Nat) (x : List UInt8) (hx : x.length = k) : padL k (padR x) = padR x := by
  unfold padL padR
  rw [List.take_append_of_le_length (by omega), List.take_of_length_le (by omega), hx]
theorem take_padR (k : Nat) (x : List UInt8) (hx : x.length = k) : (padR x).take k = x := by
  unfold padR
  rw [List.take_append_of_le_length (by omega), List.take_of_length_le (by omega)]
theorem padR_take (k : Nat) (d : List UInt8) (hk : k ≤ 32) (hd : d.length = 32) (h : padL k d = d) : padR (d.take k) = d := by
  unfold padR
  rw [List.length_take, show min k d.length = k by omega]
  exact h
/-- what was taken off is laid as those bytes -/
theorem decR_back (m : Int) (P : List UInt8) (X : Rt) (h : decR m P = (0, X)) : encR m X = (P, 0) := by
  unfold decR at h
  split at h
  · injection h with h1 _; exact absurd h1 (by decide)
  · rename_i hw
    have hk := wide0 m (by omega)
    obtain ⟨k, rfl⟩ := Int.eq_ofNat_of_zero_le (show 0 ≤ m by omega)
    rw [Int.toNat_natCast] at h
    split at h
    · rename_i hl
      injection h with _ h2
      subst h2
      have l1 : ((P.drop 8).take k).length = k := by rw [List.length_take, List.length_drop]; omega
      have l2 : ((P.drop (8 + k)).take k).length = k := by rw [List.length_take, List.length_drop]; omega
      unfold encR
      rw [if_neg hw, if_pos ⟨⟨hk.1, hk.2, padL_padR k _ l1⟩, ⟨hk.1, hk.2, padL_padR k _ l2⟩⟩]
      congr 1
      unfold rootL
      rw [Int.toNat_natCast, take_padR k _ l1, take_padR k _ l2]
      have e8 : (P.take 8).length = 8 := by rw [List.length_take]; omega
      have e9 := wideL_beN (P.take 8)
      rw [e8] at e9
      rw [e9]
      have e1 : (P.drop (8 + k)).take k = P.drop (8 + k) := List.take_of_length_le (by rw [List.length_drop]; omega)
      rw [e1, ← List.drop_drop, List.take_append_drop, List.take_append_drop]
    · injection h with h1 _; exact absurd h1 (by decide)
/-- what is laid is taken off again -/
theorem decR_laid (m : Int) (r : Rt) (hr : RtOk r) (q : List UInt8) (h : encR m r = (q, 0)) : decR m q = (0, r) ∧ q.length = 8 + 2 * m.toNat := by
  unfold encR at h
  split at h
  · injection h with _ h1; exact absurd h1 (by decide)
  · rename_i hw
    have hk := wide0 m (by omega)
    split at h
    · rename_i hf
      injection h with h1 _
      obtain ⟨k, rfl⟩ := Int.eq_ofNat_of_zero_le (show 0 ≤ m by omega)
      rw [Int.toNat_natCast] at h1 ⊢
      have k1 : (r.l.take k).length = k := by rw [List.length_take, hr.l]; omega
      have k2 : (r.m.take k).length = k := by rw [List.length_take, hr.m]; omega
      have f1 := hf.1.2.2
      have f2 := hf.2.2.2
      rw [Int.toNat_natCast] at f1 f2
      have hl : q.length = 8 + 2 * k := by rw [← h1]; unfold rootL; rw [List.length_append, List.length_append, WireMath.wideL_length, k1, k2]; omega
      refine ⟨?_, hl⟩
      unfold decR
      rw [if_neg hw, Int.toNat_natCast, if_pos hl]
      congr 1
      have d8 : q.take 8 = wideL r.s 8 := by rw [← h1]; unfold rootL; rw [List.take_append_of_le_length (by rw [WireMath.wideL_length]; omega), List.take_of_length_le (by rw [WireMath.wideL_length]; omega)]
      have d9 : q.drop 8 = r.l.take k ++ r.m.take k := by
        rw [← h1]; unfold rootL
        have := List.drop_left (l₁ := wideL r.s 8) (l₂ := r.l.take k ++ r.m.take k)
        rwa [WireMath.wideL_length] at this
      have d10 : q.drop (8 + k) = r.m.take k := by
        rw [← List.drop_drop, d9]
        have := List.drop_left (l₁ := r.l.take k) (l₂ := r.m.take k)
        rwa [k1] at this
      have e1 : (r.l.take k ++ r.m.take k).take k = r.l.take k := by
        rw [List.take_append_of_le_length (by omega), List.take_of_length_le (by omega)]
      have e2 : (r.m.take k).take k = r.m.take k := List.take_of_length_le (by omega)
      rw [d8, d9, d10, beN_wideL, e1, e2, padR_take k r.l (by omega) hr.l f1, padR_take k r.m (by omega) hr.m f2, Nat.mod_eq_of_lt (by have := hr.s; omega)]
    · injection h with _ h1; exact absurd h1 (by decide)
theorem decB_f (P : List UInt8) : (decB P).f ≤ 18446744073709551615 := by
  unfold decB
  split
  · exact Nat.zero_le _
  · split
    · exact Nat.zero_le _
    · split
      · exact Nat.zero_le _
      · split
        · exact Nat.zero_le _
        · unfold batF
          split
          · exact Nat.zero_le _
          · split
            · exact Nat.zero_le _
            · exact uvarS_lt P 0 0
end Go.Proofs.Ytelecdncdaepnaa
